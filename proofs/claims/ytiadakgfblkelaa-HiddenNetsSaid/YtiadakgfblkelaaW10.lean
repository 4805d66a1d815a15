/- What functions compute. No conditions. -/
import Derived.Test.YtiadakgfblkelaaProg
import Derived.Test.YtiadakgfblkelaaW9
import Derived.KernelRfl
set_option linter.all false
namespace Go.Ab
open Go Go.Proofs
set_option maxRecDepth 100000
set_option maxHeartbeats 4000000
noncomputable abbrev s62_1 (p0:Thidden_watcher):List (Nat × AV):=[(0,.agg [vI p0.Hidden.Grain,z1 p0.Hidden.First,z2 p0.Hidden.Step,z2 p0.Hidden.Show,z1 p0.seen])]
noncomputable abbrev s62_2 (p0:Thidden_watcher):List (Nat × AV):=(s62_1 p0)++[(1,.ptr 0 0 0),(2,.nils),(8,.agg [vI p0.Hidden.Grain,z1 p0.Hidden.First,z2 p0.Hidden.Step,z2 p0.Hidden.Show,z1 p0.seen])]
noncomputable abbrev s62_5 (p0:Thidden_watcher):List (Nat × AV):=(s62_1 p0)++[(1,.ptr 1 0 0),(2,.nils),(5,.ptr 1 0 4),(6,z1 p0.seen),(7,vI (zn p0.seen)),(8,.ref 2 0 ((List.replicate (zt (zn p0.seen)) ([]:(List Int))).length)),(3,.ref 2 0 ((List.replicate (zt (zn p0.seen)) ([]:(List Int))).length))]
noncomputable abbrev s62_6 (p0:Thidden_watcher):List AObj:=[oX true false 5 (.agg [vI p0.Hidden.Grain,z1 p0.Hidden.First,z2 p0.Hidden.Step,z2 p0.Hidden.Show,z1 p0.seen]),oX true false 5 (.agg [vI p0.Hidden.Grain,z1 p0.Hidden.First,z2 p0.Hidden.Step,z2 p0.Hidden.Show,z1 p0.seen]),.refs 3 (eF eI (List.replicate (zt (zn p0.seen)) ([]:(List Int)))),.fam 1 true (eF eI (List.replicate (zt (zn p0.seen)) ([]:(List Int))))]
noncomputable abbrev s62_16 (s1:(Int × (List (List Int)))) (p0:Thidden_watcher):List (Nat × AV):=[(1,.ptr 1 0 0),(3,.ref 2 0 s1.2.length),(10,vI (((List.replicate (zt (zn p0.seen)) ([]:(List Int))).length):Int)),(11,vI s1.1)]
noncomputable abbrev s62_19 (p0:Thidden_watcher) (s1:(Int × (List (List Int)))):List AObj:=[oX true false 5 (.agg [vI p0.Hidden.Grain,z1 p0.Hidden.First,z2 p0.Hidden.Step,z2 p0.Hidden.Show,z1 p0.seen]),oX true false 5 (.agg [vI p0.Hidden.Grain,z1 p0.Hidden.First,z2 p0.Hidden.Step,z2 p0.Hidden.Show,z1 p0.seen]),.refs 3 (eF eI (List.set s1.2 (zt s1.1) (List.replicate (zt (zn p0.Hidden.First)) (0:Int)))),.fam 1 true (eF eI (List.set s1.2 (zt s1.1) (List.replicate (zt (zn p0.Hidden.First)) (0:Int)))),.dead]
noncomputable abbrev s62_31 (p0:Thidden_watcher):List (Nat × AV):=[(0,.agg [vI p0.Hidden.Grain,z1 p0.Hidden.First,z2 p0.Hidden.Step,z2 p0.Hidden.Show,z1 p0.seen]),(1,vI 1)]
noncomputable abbrev s62_66 (s9:(Int × (List (List Int)))) (p0:Thidden_watcher) (s12:(Int × (List (List Int)))):List (Nat × AV):=[(1,.ptr 0 0 0),(3,.ptr 1 0 0),(4,vI s9.1),(16,vI (zn p0.Hidden.First)),(17,vI s12.1),(5,vI s12.1)]
theorem g_hidden_watcher_backward_ok (p0:Thidden_watcher) (x:(List (List Int))) (h:g_hidden_watcher_backward p0=some x):CallOk Try.prog 62 [.agg [vI p0.Hidden.Grain,z1 p0.Hidden.First,z2 p0.Hidden.Step,z2 p0.Hidden.Show,z1 p0.seen]] (.ret (.ref 0 0 x.length) [oR false 1 z1 x]):=by
 refine fn_ok [] Try.func62 rfl (by decide +kernel) rfl ?_
 unfold g_hidden_watcher_backward at h
 refine wp_eqB (base':=0) (st':=⟨(s62_1 p0),[],72⟩) kr kr ?_
 refine wp_seq (reg_in ?_)
 refine sgL false [] [] false gE ?_
 refine sz 1 2 (reg_end rfl (wp_seq ?_))
 refine wp_post ?_
 refine reg_in (sz 1 1 ?_)
 refine inlR (f:=91) (fn:=Try.f91) (as0:=[.agg [vI p0.Hidden.Grain,z1 p0.Hidden.First,z2 p0.Hidden.Step,z2 p0.Hidden.Show,z1 p0.seen]]) kr Try.func91 rfl (by decide +kernel) rfl ?_
 refine wp_eqB (base':=1) (st':=⟨(s62_1 p0),[oX true false 5 (.agg [vI p0.Hidden.Grain,z1 p0.Hidden.First,z2 p0.Hidden.Step,z2 p0.Hidden.Show,z1 p0.seen])],24⟩) kr kr ?_
 refine wp_seq (reg_in ?_)
 refine sgL false [] [] false gE ?_
 refine sz 1 2 (reg_end rfl (wp_seq ?_))
 refine wp_post ?_
 refine reg_in (sz 2 2 ?_)
 refine lenL (enc:=eI) (l:=p0.seen) (fl:=true) kr gE ?_
 refine mkL (enc:=fun _=>AV.nils) (z:=([]:(List Int))) (z0:=AV.nils) (n:=(zn p0.seen)) (m:=(zn p0.seen)) (w:=1) (bytes:=24) [] false kr rfl gE kr h (fun h=>?_)
 refine sgz 1 5 (S:=⟨(s62_5 p0),[oX true false 5 (.agg [vI p0.Hidden.Grain,z1 p0.Hidden.First,z2 p0.Hidden.Step,z2 p0.Hidden.Show,z1 p0.seen]),oX true false 5 (.agg [vI p0.Hidden.Grain,z1 p0.Hidden.First,z2 p0.Hidden.Step,z2 p0.Hidden.Show,z1 p0.seen]),.row false false true false 1 (List.map (fun _=>AV.nils) (List.replicate (zt (zn p0.seen)) ([]:(List Int))))],24⟩) ?_
 refine reg_end rfl ?_
 refine ⟨⟨(s62_5 p0),(s62_6 p0),24⟩,(wk_fam 2 1 true eI (x0:=([]:List Int)) (enc1:=fun _=>AV.nils) (st':=⟨(s62_5 p0),(s62_6 p0),24⟩) rfl rfl rfl (by kernel_rfl)),?_⟩
 refine wp_seq (wp_seq (wg [1,3] [1,2,3] (rn (wp_block ?_))))
 refine wwh h (fun s1=>⟨(s62_16 s1 p0),[oX true false 5 (.agg [vI p0.Hidden.Grain,z1 p0.Hidden.First,z2 p0.Hidden.Step,z2 p0.Hidden.Show,z1 p0.seen]),oX true false 5 (.agg [vI p0.Hidden.Grain,z1 p0.Hidden.First,z2 p0.Hidden.Step,z2 p0.Hidden.Show,z1 p0.seen]),.refs 3 (eF eI s1.2),.fam 1 true (eF eI s1.2)],24⟩) (fun v out=>out=.go (.exit 0) ⟨[(3,.ref 1 0 v.length)],[oX true false 5 (.agg [vI p0.Hidden.Grain,z1 p0.Hidden.First,z2 p0.Hidden.Step,z2 p0.Hidden.Show,z1 p0.seen]),.refs 2 (eF eI v),.fam 1 true (eF eI v)],24⟩) (wk_gc (live:=[1,3,10,11]) (keep:=[1,2,3]) kr) ?_ ?_
 ·intro s1 o h
  unfold g_hidden_watcher_backward_b0 at h
  refine sq (wp_seq ?_)
  refine wb [12] h (fun q3 h=>?_) (fun q3 h=>?_)
  ·refine wcT (wp_skip (wp_seq (wp_block (sq ?_))))
   refine wp_post ?_
   refine reg_in (sz 5 5 ?_)
   refine lenL (enc:=eI) (l:=p0.Hidden.First) (fl:=true) kr gE ?_
   refine mkL (enc:=eI) (z:=(0:Int)) (z0:=vI 0) (n:=(zn p0.Hidden.First)) (m:=(zn p0.Hidden.First)) (w:=1) (bytes:=8) [] true kr rfl gE kr h (fun h=>?_)
   refine bind_elim h (fun a4 q5 h=>?_)
   refine idxF (enc:=eI) (ls:=s1.2) (x:=a4) (n:=s1.1) (ob:=2) (j:=3) kr kr q5 gE ?_
   refine storeF (enc:=eI) (ls:=s1.2) (x:=a4) (n:=s1.1) (ob:=2) (j:=3) (m:=4) (q:=(List.replicate (zt (zn p0.Hidden.First)) (0:Int)).length) (S:=⟨(s62_16 s1 p0)++[(12,vB true),(13,vI s1.1),(4,vI s1.1),(14,.ref 2 0 s1.2.length),(15,vI s1.1),(16,.ptr 1 0 0),(17,.ptr 1 0 1),(18,z1 p0.Hidden.First),(19,vI (zn p0.Hidden.First)),(20,.ref 4 0 ((List.replicate (zt (zn p0.Hidden.First)) (0:Int)).length)),(21,.ptr 2 (zt s1.1) 0)],[oX true false 5 (.agg [vI p0.Hidden.Grain,z1 p0.Hidden.First,z2 p0.Hidden.Step,z2 p0.Hidden.Show,z1 p0.seen]),oX true false 5 (.agg [vI p0.Hidden.Grain,z1 p0.Hidden.First,z2 p0.Hidden.Step,z2 p0.Hidden.Show,z1 p0.seen]),.row false false false false 1 ((famRefs 3 0 (eF eI s1.2)).set (zt s1.1) (.ref 4 0 ((List.replicate (zt (zn p0.Hidden.First)) (0:Int)).length))),.fam 1 true (eF eI s1.2),oR true 1 eI (List.replicate (zt (zn p0.Hidden.First)) (0:Int))],24⟩) kr kr q5 kr kr kr ?_
   refine reg_end rfl ?_
   refine ⟨⟨[(1,.ptr 1 0 0),(3,.ref 2 0 ((List.set s1.2 (zt s1.1) (List.replicate (zt (zn p0.Hidden.First)) (0:Int))).length)),(10,vI (((List.replicate (zt (zn p0.seen)) ([]:(List Int))).length):Int)),(11,vI s1.1)]++[(12,vB true),(13,vI s1.1),(4,vI s1.1),(14,.ref 2 0 ((List.set s1.2 (zt s1.1) (List.replicate (zt (zn p0.Hidden.First)) (0:Int))).length)),(15,vI s1.1),(16,.ptr 1 0 0),(17,.ptr 1 0 1),(18,z1 p0.Hidden.First),(19,vI (zn p0.Hidden.First)),(21,.ptr 2 (zt s1.1) 0)],(s62_19 p0 s1),24⟩,(wk_trans (wk_adopt 2 3 4 (enc:=eI) (ls:=s1.2) (x:=a4) (b:=(List.replicate (zt (zn p0.Hidden.First)) (0:Int))) (n:=s1.1) [1,3,10,11,12,13,4,14,15,16,17,18,19,21] (st':=⟨(s62_16 s1 p0)++[(12,vB true),(13,vI s1.1),(4,vI s1.1),(14,.ref 2 0 s1.2.length),(15,vI s1.1),(16,.ptr 1 0 0),(17,.ptr 1 0 1),(18,z1 p0.Hidden.First),(19,vI (zn p0.Hidden.First)),(21,.ptr 2 (zt s1.1) 0)],(s62_19 p0 s1),24⟩) rfl rfl rfl q5 (by kernel_rfl) (by kernel_rfl)) (wk_eq (congrArg (fun n6=>(⟨[(1,.ptr 1 0 0),(3,.ref 2 0 n6),(10,vI (((List.replicate (zt (zn p0.seen)) ([]:(List Int))).length):Int)),(11,vI s1.1),(12,vB true),(13,vI s1.1),(4,vI s1.1),(14,.ref 2 0 n6),(15,vI s1.1),(16,.ptr 1 0 0),(17,.ptr 1 0 1),(18,z1 p0.Hidden.First),(19,vI (zn p0.Hidden.First)),(21,.ptr 2 (zt s1.1) 0)],(s62_19 p0 s1),24⟩:St)) (show s1.2.length=(List.set s1.2 (zt s1.1) (List.replicate (zt (zn p0.Hidden.First)) (0:Int))).length by simp only [List.length_set])))),?_⟩
   refine wg [1,3,10,11] [1,2,3] (rn ?_)
   cases h
   exact ⟨_,rfl,(wk_gc (live:=[1,3,10,11]) (keep:=[1,2,3]) kr)⟩
  refine wcF (wg [3] [2,3] ?_)
  refine wp_exit ?_
  cases h
  exact ⟨kr,rfl⟩
 intro x8 h out hx
 subst hx
 refine sq (wg [2] [1,2] ?_)
 refine wp_ret ?_
 refine ⟨⟨(s62_2 p0)++[(9,.ref 1 0 x8.length)],[oX true false 5 (.agg [vI p0.Hidden.Grain,z1 p0.Hidden.First,z2 p0.Hidden.Step,z2 p0.Hidden.Show,z1 p0.seen]),.refs 2 (eF eI x8),.fam 1 true (eF eI x8)],72⟩,by as_aux_lemma=>kernel_rfl,?_⟩
 refine sgL false [] [] false gE ?_
 refine sz 1 4 (reg_end rfl ?_)
 refine ⟨_,wk_refl,?_⟩
 refine wp_seq (wp_seq ?_)
 refine wp_post ?_
 refine reg_in (sz 1 1 ?_)
 refine inlR (f:=92) (fn:=Try.f92) (as0:=[.agg [vI p0.Hidden.Grain,z1 p0.Hidden.First,z2 p0.Hidden.Step,z2 p0.Hidden.Show,z1 p0.seen],vI 1]) kr Try.func92 rfl (by decide +kernel) rfl ?_
 refine wp_eqB (base':=4) (st':=⟨(s62_31 p0),[oX true false 5 (.agg [vI p0.Hidden.Grain,z1 p0.Hidden.First,z2 p0.Hidden.Step,z2 p0.Hidden.Show,z1 p0.seen]),.refs 2 (eF eI x8),.fam 1 true (eF eI x8),oX false false 1 (.ref 1 0 x8.length)],12⟩) kr kr ?_
 refine wp_seq (reg_in ?_)
 refine sgL false [] [] false gE ?_
 refine sz 1 2 (reg_end rfl (wp_seq ?_))
 refine wp_post ?_
 refine reg_in (sz 1 1 ?_)
 refine sgL false [] [] false gE ?_
 refine sz 1 3 (reg_end rfl ?_)
 refine ⟨_,wk_refl,?_⟩
 refine wp_seq ?_
 refine wp_post ?_
 refine rga hfol (sy 4 4 ?_)
 refine inlN (f:=111) (fn:=Try.f111) (as0:=[.agg [vI p0.Hidden.Grain,z1 p0.Hidden.First,z2 p0.Hidden.Step,z2 p0.Hidden.Show,z1 p0.seen]]) kr kr Try.func111 rfl (by decide +kernel) rfl ?_
 refine wp_eqB (base':=6) (st':=⟨(s62_1 p0),[.dead,.dead,.dead,.dead,.dead,.dead],4⟩) kr kr ?_
 refine wp_seq (reg_in ?_)
 refine sgL false [] [] false gE ?_
 refine sz 1 2 (reg_end rfl (sq (wg [2] [6] ?_)))
 refine wp_ret ?_
 refine ⟨⟨(s62_31 p0)++[(2,.ptr 4 0 0),(4,.nilf),(6,.agg [.fn (.func 110) [] [],.fn (.func 111) [] []]),(5,.ptr 5 0 0),(7,vI 1),(8,.ptr 5 0 1),(9,.fn (.func 111) [] []),(10,.agg [vI p0.Hidden.Grain,z1 p0.Hidden.First,z2 p0.Hidden.Step,z2 p0.Hidden.Show,z1 p0.seen])]++[(11,.fn (.func 125) [] [.ptr 6 0 0])],[oX true false 5 (.agg [vI p0.Hidden.Grain,z1 p0.Hidden.First,z2 p0.Hidden.Step,z2 p0.Hidden.Show,z1 p0.seen]),.refs 2 (eF eI x8),.fam 1 true (eF eI x8),oX false false 1 (.ref 1 0 x8.length),oX true false 5 (.agg [vI p0.Hidden.Grain,z1 p0.Hidden.First,z2 p0.Hidden.Step,z2 p0.Hidden.Show,z1 p0.seen]),oX true false 2 (.agg [.fn (.func 110) [] [],.fn (.func 111) [] []]),oX true false 5 (.agg [vI p0.Hidden.Grain,z1 p0.Hidden.First,z2 p0.Hidden.Step,z2 p0.Hidden.Show,z1 p0.seen])],12⟩,by as_aux_lemma=>kernel_rfl,?_⟩
 refine sy 1 6 (rgd ?_)
 refine ⟨_,wk_refl,?_⟩
 refine wg [4] [6] ?_
 refine wp_ret ?_
 refine ⟨⟨(s62_2 p0)++[(9,.ref 1 0 x8.length),(3,.ptr 3 0 0),(10,.agg [vI p0.Hidden.Grain,z1 p0.Hidden.First,z2 p0.Hidden.Step,z2 p0.Hidden.Show,z1 p0.seen])]++[(11,.fn (.func 125) [] [.ptr 4 0 0])],[oX true false 5 (.agg [vI p0.Hidden.Grain,z1 p0.Hidden.First,z2 p0.Hidden.Step,z2 p0.Hidden.Show,z1 p0.seen]),.refs 2 (eF eI x8),.fam 1 true (eF eI x8),oX false false 1 (.ref 1 0 x8.length),oX true false 5 (.agg [vI p0.Hidden.Grain,z1 p0.Hidden.First,z2 p0.Hidden.Step,z2 p0.Hidden.Show,z1 p0.seen])],72⟩,by as_aux_lemma=>kernel_rfl,?_⟩
 refine reg_end rfl ?_
 refine ⟨_,wk_refl,?_⟩
 refine wp_block ?_
 refine wgc [1,3,11] [0,3,4,1,2] ⟨[(1,.ptr 0 0 0),(3,.ptr 1 0 0),(11,.fn (.func 125) [] [.ptr 2 0 0])],[oX true false 5 (.agg [vI p0.Hidden.Grain,z1 p0.Hidden.First,z2 p0.Hidden.Step,z2 p0.Hidden.Show,z1 p0.seen]),oX false false 1 (.ref 3 0 x8.length),oX true false 5 (.agg [vI p0.Hidden.Grain,z1 p0.Hidden.First,z2 p0.Hidden.Step,z2 p0.Hidden.Show,z1 p0.seen]),.refs 4 (eF eI x8),.fam 1 true (eF eI x8)],72⟩ ?_
 refine wp_range (f:=125) (fn:=Try.f125) (first:=[]) (caps:=[.ptr 2 0 0]) rfl Try.func125 rfl (by decide +kernel) rfl rfl ?_
 refine wp_eqB (base':=6) (st':=⟨[(0,.yld 5),(1,.ptr 2 0 0)],[oX true false 5 (.agg [vI p0.Hidden.Grain,z1 p0.Hidden.First,z2 p0.Hidden.Step,z2 p0.Hidden.Show,z1 p0.seen]),oX false false 1 (.ref 3 0 x8.length),oX true false 5 (.agg [vI p0.Hidden.Grain,z1 p0.Hidden.First,z2 p0.Hidden.Step,z2 p0.Hidden.Show,z1 p0.seen]),.refs 4 (eF eI x8),.fam 1 true (eF eI x8),.loop 72 [(1,.ptr 0 0 0),(3,.ptr 1 0 0),(11,.fn (.func 125) [] [.ptr 2 0 0])] [12] (cA Try.f62 [true,true,false,true,true]) (cB Try.f62 [true,true,false,true,true]) .ready none],16⟩) kr kr ?_
 refine wp_seq ?_
 refine wp_post ?_
 refine reg_in (sz 2 2 ?_)
 refine lenL (enc:=eI) (l:=p0.seen) (fl:=true) kr gE ?_
 refine sz 2 5 (reg_end rfl ?_)
 refine ⟨_,wk_refl,?_⟩
 refine wp_block ?_
 refine wwh h (fun s9=>⟨[(0,.yld 5),(3,vI s9.1)],[oX true false 5 (.agg [vI p0.Hidden.Grain,z1 p0.Hidden.First,z2 p0.Hidden.Step,z2 p0.Hidden.Show,z1 p0.seen]),oX false false 1 (.ref 3 0 s9.2.length),oX true false 5 (.agg [vI p0.Hidden.Grain,z1 p0.Hidden.First,z2 p0.Hidden.Step,z2 p0.Hidden.Show,z1 p0.seen]),.refs 4 (eF eI s9.2),.fam 1 true (eF eI s9.2),.loop 72 [(1,.ptr 0 0 0),(3,.ptr 1 0 0),(11,.fn (.func 125) [] [.ptr 2 0 0])] [12] (cA Try.f62 [true,true,false,true,true]) (cB Try.f62 [true,true,false,true,true]) .ready none],16⟩) (fun v out=>out=.go (.exit 0) ⟨[],[oX true false 5 (.agg [vI p0.Hidden.Grain,z1 p0.Hidden.First,z2 p0.Hidden.Step,z2 p0.Hidden.Show,z1 p0.seen]),oX false false 1 (.ref 3 0 v.length),oX true false 5 (.agg [vI p0.Hidden.Grain,z1 p0.Hidden.First,z2 p0.Hidden.Step,z2 p0.Hidden.Show,z1 p0.seen]),.refs 4 (eF eI v),.fam 1 true (eF eI v),.loop 72 [(1,.ptr 0 0 0),(3,.ptr 1 0 0),(11,.fn (.func 125) [] [.ptr 2 0 0])] [12] (cA Try.f62 [true,true,false,true,true]) (cB Try.f62 [true,true,false,true,true]) .ready none],16⟩) (wk_gc (live:=[0,3]) (keep:=[]) kr) ?_ ?_
 ·intro s9 o h
  unfold g_hidden_watcher_backward_b3 at h
  refine wp_seq (sq ?_)
  refine wb [9] h (fun q11 h=>?_) (fun q11 h=>?_)
  ·refine wcT (wp_skip (wp_seq (wp_block (wp_seq ?_))))
   refine wp_post ?_
   refine reg_in (sz 2 2 ?_)
   refine yldR (l:=5) (nt:=72) (us:=[vI s9.1]) (sl:=[(1,.ptr 0 0 0),(3,.ptr 1 0 0),(11,.fn (.func 125) [] [.ptr 2 0 0])]) (ps:=[12]) (assign:=cA Try.f62 [true,true,false,true,true]) (body:=cB Try.f62 [true,true,false,true,true]) (pe:=none) kr rfl rfl ?_
   refine wp_eqB (base':=6) (st':=⟨[(1,.ptr 0 0 0),(3,.ptr 1 0 0),(11,.fn (.func 125) [] [.ptr 2 0 0]),(12,vI s9.1)],[oX true false 5 (.agg [vI p0.Hidden.Grain,z1 p0.Hidden.First,z2 p0.Hidden.Step,z2 p0.Hidden.Show,z1 p0.seen]),oX false false 1 (.ref 3 0 s9.2.length),oX true false 5 (.agg [vI p0.Hidden.Grain,z1 p0.Hidden.First,z2 p0.Hidden.Step,z2 p0.Hidden.Show,z1 p0.seen]),.refs 4 (eF eI s9.2),.fam 1 true (eF eI s9.2),.loop 72 [(1,.ptr 0 0 0),(3,.ptr 1 0 0),(11,.fn (.func 125) [] [.ptr 2 0 0])] [12] (cA Try.f62 [true,true,false,true,true]) (cB Try.f62 [true,true,false,true,true]) .ready none],72⟩) kr kr ?_
   refine rn ?_
   refine ⟨⟨[(1,.ptr 0 0 0),(3,.ptr 1 0 0),(11,.fn (.func 125) [] [.ptr 2 0 0]),(12,vI s9.1),(4,vI s9.1)],[oX true false 5 (.agg [vI p0.Hidden.Grain,z1 p0.Hidden.First,z2 p0.Hidden.Step,z2 p0.Hidden.Show,z1 p0.seen]),oX false false 1 (.ref 3 0 s9.2.length),oX true false 5 (.agg [vI p0.Hidden.Grain,z1 p0.Hidden.First,z2 p0.Hidden.Step,z2 p0.Hidden.Show,z1 p0.seen]),.refs 4 (eF eI s9.2),.fam 1 true (eF eI s9.2),.loop 72 [(1,.ptr 0 0 0),(3,.ptr 1 0 0),(11,.fn (.func 125) [] [.ptr 2 0 0])] [12] (cA Try.f62 [true,true,false,true,true]) (cB Try.f62 [true,true,false,true,true]) .busy none],72⟩,by as_aux_lemma=>kernel_rfl,?_⟩
   refine wp_block (wp_seq ?_)
   refine wp_post ?_
   refine reg_in (sz 3 3 ?_)
   refine lenL (enc:=eI) (l:=p0.Hidden.First) (fl:=true) kr gE ?_
   refine sz 1 5 (reg_end rfl ?_)
   refine ⟨_,wk_refl,?_⟩
   refine wp_block ?_
   refine wwh h (fun s12=>⟨[(1,.ptr 0 0 0),(3,.ptr 1 0 0),(4,vI s9.1),(16,vI (zn p0.Hidden.First)),(17,vI s12.1)],[oX true false 5 (.agg [vI p0.Hidden.Grain,z1 p0.Hidden.First,z2 p0.Hidden.Step,z2 p0.Hidden.Show,z1 p0.seen]),oX false false 1 (.ref 3 0 s12.2.length),oX true false 5 (.agg [vI p0.Hidden.Grain,z1 p0.Hidden.First,z2 p0.Hidden.Step,z2 p0.Hidden.Show,z1 p0.seen]),.refs 4 (eF eI s12.2),.fam 1 true (eF eI s12.2),.loop 72 [(1,.ptr 0 0 0),(3,.ptr 1 0 0),(11,.fn (.func 125) [] [.ptr 2 0 0])] [12] (cA Try.f62 [true,true,false,true,true]) (cB Try.f62 [true,true,false,true,true]) .busy none],72⟩) (fun v out=>out=.go (.exit 2) ⟨[],[oX true false 5 (.agg [vI p0.Hidden.Grain,z1 p0.Hidden.First,z2 p0.Hidden.Step,z2 p0.Hidden.Show,z1 p0.seen]),oX false false 1 (.ref 3 0 v.length),oX true false 5 (.agg [vI p0.Hidden.Grain,z1 p0.Hidden.First,z2 p0.Hidden.Step,z2 p0.Hidden.Show,z1 p0.seen]),.refs 4 (eF eI v),.fam 1 true (eF eI v),.loop 72 [(1,.ptr 0 0 0),(3,.ptr 1 0 0),(11,.fn (.func 125) [] [.ptr 2 0 0])] [12] (cA Try.f62 [true,true,false,true,true]) (cB Try.f62 [true,true,false,true,true]) .busy none],72⟩) (wk_gc (live:=[1,3,4,16,17]) (keep:=[]) kr) ?_ ?_
   ·intro s12 o h
    unfold g_hidden_watcher_backward_b2 at h
    refine sq (wp_seq ?_)
    refine wb [18] h (fun q14 h=>?_) (fun q14 h=>?_)
    ·refine wcT (wp_skip (wp_seq (wp_block (sq (wp_seq (wp_seq ?_))))))
     refine wp_post ?_
     refine reg_in (sz 3 3 ?_)
     refine lenL (enc:=eI) (l:=p0.seen) (fl:=true) kr gE ?_
     refine sz 2 6 (reg_end rfl ?_)
     refine ⟨_,wk_refl,?_⟩
     refine wbz h (fun q16 h=>?_) (fun q16 h=>?_)
     ·refine wp_seq ?_
      refine wgc [1,3,4,16,17,5] [] ⟨(s62_66 s9 p0 s12),[oX true false 5 (.agg [vI p0.Hidden.Grain,z1 p0.Hidden.First,z2 p0.Hidden.Step,z2 p0.Hidden.Show,z1 p0.seen]),oX false false 1 (.ref 3 0 s12.2.length),oX true false 5 (.agg [vI p0.Hidden.Grain,z1 p0.Hidden.First,z2 p0.Hidden.Step,z2 p0.Hidden.Show,z1 p0.seen]),.refs 4 (eF eI s12.2),.fam 1 true (eF eI s12.2),.loop 72 [(1,.ptr 0 0 0),(3,.ptr 1 0 0),(11,.fn (.func 125) [] [.ptr 2 0 0])] [12] (cA Try.f62 [true,true,false,true,true]) (cB Try.f62 [true,true,false,true,true]) .busy none],72⟩ ?_
      refine wp_post ?_
      refine reg_in (sz 2 2 ?_)
      refine bind_elim h (fun a17 q18 h=>?_)
      refine idxF (enc:=eI) (ls:=s12.2) (x:=a17) (n:=s9.1) (ob:=3) (j:=4) kr kr q18 gE ?_
      refine loadF (enc:=eI) (ls:=s12.2) (x:=a17) (n:=s9.1) (ob:=3) (j:=4) kr kr q18 gE ?_
      refine sz 1 5 ?_
      refine bind_elim h (fun a19 q20 h=>?_)
      refine idxI (enc:=eI) (ls:=s12.2) (x:=a17) (y:=a19) (n:=s9.1) (c:=s12.1) (w:=1) (j:=4) (fl:=true) kr kr q18 q20 rfl gE ?_
      refine storeI (enc:=eI) (ls:=s12.2) (x:=a17) (y:=a19) (y':=1) (n:=s9.1) (m:=s12.1) (w:=1) (j:=4) (q:=3) (c:=0) (fl:=true) (v:=vI 1) kr kr kr q18 q20 rfl kr kr kr gE ?_
      refine rknN (n:=s12.2.length) (m:=(List.set s12.2 (zt s9.1) (List.set a17 (zt s12.1) 1)).length) (S:=fun n21=>⟨(s62_66 s9 p0 s12)++[(26,.ref 3 0 n21),(27,vI s9.1),(28,.ptr 3 (zt s9.1) 0),(29,.ref (fid 4 (zt s9.1)) 0 a17.length),(30,vI s12.1),(31,.ptr (fid 4 (zt s9.1)) (zt s12.1) 0)],[oX true false 5 (.agg [vI p0.Hidden.Grain,z1 p0.Hidden.First,z2 p0.Hidden.Step,z2 p0.Hidden.Show,z1 p0.seen]),oX false false 1 (.ref 3 0 n21),oX true false 5 (.agg [vI p0.Hidden.Grain,z1 p0.Hidden.First,z2 p0.Hidden.Step,z2 p0.Hidden.Show,z1 p0.seen]),.refs 4 (eF eI (List.set s12.2 (zt s9.1) (List.set a17 (zt s12.1) 1))),.fam 1 true (eF eI (List.set s12.2 (zt s9.1) (List.set a17 (zt s12.1) 1))),.loop 72 [(1,.ptr 0 0 0),(3,.ptr 1 0 0),(11,.fn (.func 125) [] [.ptr 2 0 0])] [12] (cA Try.f62 [true,true,false,true,true]) (cB Try.f62 [true,true,false,true,true]) .busy none],72⟩) (by simp only [List.length_set]) ?_
      refine reg_end rfl ?_
      refine ⟨_,wk_refl,?_⟩
      refine wg [1,3,4,16,17] [] ?_
      refine wp_exit ?_
      refine rn ?_
      cases h
      exact ⟨_,rfl,(wk_gc (live:=[1,3,4,16,17]) (keep:=[]) kr)⟩
     refine wp_skip (wp_seq ?_)
     refine wgc [1,3,4,16,17,5] [] ⟨(s62_66 s9 p0 s12),[oX true false 5 (.agg [vI p0.Hidden.Grain,z1 p0.Hidden.First,z2 p0.Hidden.Step,z2 p0.Hidden.Show,z1 p0.seen]),oX false false 1 (.ref 3 0 s12.2.length),oX true false 5 (.agg [vI p0.Hidden.Grain,z1 p0.Hidden.First,z2 p0.Hidden.Step,z2 p0.Hidden.Show,z1 p0.seen]),.refs 4 (eF eI s12.2),.fam 1 true (eF eI s12.2),.loop 72 [(1,.ptr 0 0 0),(3,.ptr 1 0 0),(11,.fn (.func 125) [] [.ptr 2 0 0])] [12] (cA Try.f62 [true,true,false,true,true]) (cB Try.f62 [true,true,false,true,true]) .busy none],72⟩ ?_
     refine wp_post ?_
     refine reg_in (sz 3 3 ?_)
     refine bind_elim h (fun a22 q23 h=>?_)
     refine idxF (enc:=eI) (ls:=s12.2) (x:=a22) (n:=zw (s9.1+1)) (ob:=3) (j:=4) kr kr q23 gE ?_
     refine loadF (enc:=eI) (ls:=s12.2) (x:=a22) (n:=zw (s9.1+1)) (ob:=3) (j:=4) kr kr q23 gE ?_
     refine sgz 2 7 (S:=⟨(s62_66 s9 p0 s12)++[(32,.ref 3 0 s12.2.length),(33,vI s9.1),(34,vI (zw (s9.1+1))),(35,.ptr 3 (zt (zw (s9.1+1))) 0),(36,.ref (fid 4 (zt (zw (s9.1+1)))) 0 a22.length),(37,vI (zn a22)),(38,vI 0)],[oX true false 5 (.agg [vI p0.Hidden.Grain,z1 p0.Hidden.First,z2 p0.Hidden.Step,z2 p0.Hidden.Show,z1 p0.seen]),oX false false 1 (.ref 3 0 s12.2.length),oX true false 5 (.agg [vI p0.Hidden.Grain,z1 p0.Hidden.First,z2 p0.Hidden.Step,z2 p0.Hidden.Show,z1 p0.seen]),.refs 4 (eF eI s12.2),.fam 1 true (eF eI s12.2),.loop 72 [(1,.ptr 0 0 0),(3,.ptr 1 0 0),(11,.fn (.func 125) [] [.ptr 2 0 0])] [12] (cA Try.f62 [true,true,false,true,true]) (cB Try.f62 [true,true,false,true,true]) .busy none],72⟩) ?_
     refine reg_end rfl ?_
     refine ⟨⟨(s62_66 s9 p0 s12)++[(32,.ref 3 0 s12.2.length),(33,vI s9.1),(34,vI (zw (s9.1+1))),(35,.ptr 3 (zt (zw (s9.1+1))) 0),(36,.lin 4 (zt (zw (s9.1+1))) a22.length),(37,vI (zn a22)),(38,vI 0)],[oX true false 5 (.agg [vI p0.Hidden.Grain,z1 p0.Hidden.First,z2 p0.Hidden.Step,z2 p0.Hidden.Show,z1 p0.seen]),oX false false 1 (.ref 3 0 s12.2.length),oX true false 5 (.agg [vI p0.Hidden.Grain,z1 p0.Hidden.First,z2 p0.Hidden.Step,z2 p0.Hidden.Show,z1 p0.seen]),.refs 4 (eF eI s12.2),.fam 1 true (eF eI s12.2),.loop 72 [(1,.ptr 0 0 0),(3,.ptr 1 0 0),(11,.fn (.func 125) [] [.ptr 2 0 0])] [12] (cA Try.f62 [true,true,false,true,true]) (cB Try.f62 [true,true,false,true,true]) .busy none],72⟩,(wk_lin 36 (st':=⟨(s62_66 s9 p0 s12)++[(32,.ref 3 0 s12.2.length),(33,vI s9.1),(34,vI (zw (s9.1+1))),(35,.ptr 3 (zt (zw (s9.1+1))) 0),(36,.lin 4 (zt (zw (s9.1+1))) a22.length),(37,vI (zn a22)),(38,vI 0)],[oX true false 5 (.agg [vI p0.Hidden.Grain,z1 p0.Hidden.First,z2 p0.Hidden.Step,z2 p0.Hidden.Show,z1 p0.seen]),oX false false 1 (.ref 3 0 s12.2.length),oX true false 5 (.agg [vI p0.Hidden.Grain,z1 p0.Hidden.First,z2 p0.Hidden.Step,z2 p0.Hidden.Show,z1 p0.seen]),.refs 4 (eF eI s12.2),.fam 1 true (eF eI s12.2),.loop 72 [(1,.ptr 0 0 0),(3,.ptr 1 0 0),(11,.fn (.func 125) [] [.ptr 2 0 0])] [12] (cA Try.f62 [true,true,false,true,true]) (cB Try.f62 [true,true,false,true,true]) .busy none],72⟩) rfl (by kernel_rfl)),?_⟩
     refine wp_block ?_
     refine wwh h (fun s24=>⟨[(1,.ptr 0 0 0),(3,.ptr 1 0 0),(4,vI s9.1),(5,vI s12.1),(16,vI (zn p0.Hidden.First)),(17,vI s12.1),(36,.lin 4 (zt (zw (s9.1+1))) a22.length),(37,vI (zn a22)),(38,vI s24.1)],[oX true false 5 (.agg [vI p0.Hidden.Grain,z1 p0.Hidden.First,z2 p0.Hidden.Step,z2 p0.Hidden.Show,z1 p0.seen]),oX false false 1 (.ref 3 0 s24.2.length),oX true false 5 (.agg [vI p0.Hidden.Grain,z1 p0.Hidden.First,z2 p0.Hidden.Step,z2 p0.Hidden.Show,z1 p0.seen]),.refs 4 (eF eI s24.2),.fam 1 true (eF eI s24.2),.loop 72 [(1,.ptr 0 0 0),(3,.ptr 1 0 0),(11,.fn (.func 125) [] [.ptr 2 0 0])] [12] (cA Try.f62 [true,true,false,true,true]) (cB Try.f62 [true,true,false,true,true]) .busy none],72⟩) (fun v out=>out=.go (.exit 4) ⟨[(1,.ptr 0 0 0),(3,.ptr 1 0 0),(4,vI s9.1),(16,vI (zn p0.Hidden.First)),(17,vI s12.1)],[oX true false 5 (.agg [vI p0.Hidden.Grain,z1 p0.Hidden.First,z2 p0.Hidden.Step,z2 p0.Hidden.Show,z1 p0.seen]),oX false false 1 (.ref 3 0 v.length),oX true false 5 (.agg [vI p0.Hidden.Grain,z1 p0.Hidden.First,z2 p0.Hidden.Step,z2 p0.Hidden.Show,z1 p0.seen]),.refs 4 (eF eI v),.fam 1 true (eF eI v),.loop 72 [(1,.ptr 0 0 0),(3,.ptr 1 0 0),(11,.fn (.func 125) [] [.ptr 2 0 0])] [12] (cA Try.f62 [true,true,false,true,true]) (cB Try.f62 [true,true,false,true,true]) .busy none],72⟩) (wk_gc (live:=[1,3,4,5,16,17,36,37,38]) (keep:=[]) kr) ?_ ?_
     ·intro s24 o h
      unfold g_hidden_watcher_backward_b1 at h
      refine sq (wp_seq ?_)
      refine wbr (S:=fun b25=>⟨[(1,.ptr 0 0 0),(3,.ptr 1 0 0),(4,vI s9.1),(5,vI s12.1),(16,vI (zn p0.Hidden.First)),(17,vI s12.1),(36,.lin 4 (zt (zw (s9.1+1))) a22.length),(37,vI (zn a22)),(38,vI s24.1)]++[(39,vB b25)],[oX true false 5 (.agg [vI p0.Hidden.Grain,z1 p0.Hidden.First,z2 p0.Hidden.Step,z2 p0.Hidden.Show,z1 p0.seen]),oX false false 1 (.ref 3 0 s24.2.length),oX true false 5 (.agg [vI p0.Hidden.Grain,z1 p0.Hidden.First,z2 p0.Hidden.Step,z2 p0.Hidden.Show,z1 p0.seen]),.refs 4 (eF eI s24.2),.fam 1 true (eF eI s24.2),.loop 72 [(1,.ptr 0 0 0),(3,.ptr 1 0 0),(11,.fn (.func 125) [] [.ptr 2 0 0])] [12] (cA Try.f62 [true,true,false,true,true]) (cB Try.f62 [true,true,false,true,true]) .busy none],72⟩) h (fun q26 h=>?_) (fun q26 h=>?_)
      ·refine wcT (wp_skip (wp_seq (wp_block (wp_seq ?_))))
       refine wp_wk (wk_unlin 36 (st':=⟨[(1,.ptr 0 0 0),(3,.ptr 1 0 0),(4,vI s9.1),(5,vI s12.1),(16,vI (zn p0.Hidden.First)),(17,vI s12.1),(36,.ref (fid 4 (zt (zw (s9.1+1)))) 0 a22.length),(37,vI (zn a22)),(38,vI s24.1),(39,vB true)],[oX true false 5 (.agg [vI p0.Hidden.Grain,z1 p0.Hidden.First,z2 p0.Hidden.Step,z2 p0.Hidden.Show,z1 p0.seen]),oX false false 1 (.ref 3 0 s24.2.length),oX true false 5 (.agg [vI p0.Hidden.Grain,z1 p0.Hidden.First,z2 p0.Hidden.Step,z2 p0.Hidden.Show,z1 p0.seen]),.refs 4 (eF eI s24.2),.fam 1 true (eF eI s24.2),.loop 72 [(1,.ptr 0 0 0),(3,.ptr 1 0 0),(11,.fn (.func 125) [] [.ptr 2 0 0])] [12] (cA Try.f62 [true,true,false,true,true]) (cB Try.f62 [true,true,false,true,true]) .busy none],72⟩) rfl kr) ?_
       refine wp_post ?_
       refine reg_in (sz 1 1 ?_)
       refine bind_elim h (fun a27 q28 h=>?_)
       refine bind_elim h (fun a29 q30 h=>?_)
       refine idxI2 (enc:=eI) (ls:=s24.2) (x:=a27) (y:=a29) (n:=zw (s9.1+1)) (c:=s24.1) (w:=1) (j:=4) (m:=a22.length) (fl:=true) kr kr q28 q30 rfl gE h (fun h=>?_)
       refine loadI (enc:=eI) (ls:=s24.2) (x:=a27) (y:=a29) (n:=zw (s9.1+1)) (m:=s24.1) (w:=1) (j:=4) (c:=0) (fl:=true) kr kr q28 q30 rfl gE ?_
       refine sgz 2 5 (S:=⟨[(1,.ptr 0 0 0),(3,.ptr 1 0 0),(4,vI s9.1),(5,vI s12.1),(16,vI (zn p0.Hidden.First)),(17,vI s12.1),(36,.ref (fid 4 (zt (zw (s9.1+1)))) 0 a22.length),(37,vI (zn a22)),(38,vI s24.1),(39,vB true)]++[(40,vI s24.1),(41,.ptr (fid 4 (zt (zw (s9.1+1)))) (zt s24.1) 0),(42,vI a29),(6,vI s24.1),(7,vI a29)],[oX true false 5 (.agg [vI p0.Hidden.Grain,z1 p0.Hidden.First,z2 p0.Hidden.Step,z2 p0.Hidden.Show,z1 p0.seen]),oX false false 1 (.ref 3 0 s24.2.length),oX true false 5 (.agg [vI p0.Hidden.Grain,z1 p0.Hidden.First,z2 p0.Hidden.Step,z2 p0.Hidden.Show,z1 p0.seen]),.refs 4 (eF eI s24.2),.fam 1 true (eF eI s24.2),.loop 72 [(1,.ptr 0 0 0),(3,.ptr 1 0 0),(11,.fn (.func 125) [] [.ptr 2 0 0])] [12] (cA Try.f62 [true,true,false,true,true]) (cB Try.f62 [true,true,false,true,true]) .busy none],72⟩) ?_
       refine reg_end rfl ?_
       refine ⟨⟨[(1,.ptr 0 0 0),(3,.ptr 1 0 0),(4,vI s9.1),(5,vI s12.1),(16,vI (zn p0.Hidden.First)),(17,vI s12.1),(36,.lin 4 (zt (zw (s9.1+1))) a22.length),(37,vI (zn a22)),(38,vI s24.1)]++[(39,vB true),(40,vI s24.1),(41,.ptr (fid 4 (zt (zw (s9.1+1)))) (zt s24.1) 0),(42,vI a29),(6,vI s24.1),(7,vI a29)],[oX true false 5 (.agg [vI p0.Hidden.Grain,z1 p0.Hidden.First,z2 p0.Hidden.Step,z2 p0.Hidden.Show,z1 p0.seen]),oX false false 1 (.ref 3 0 s24.2.length),oX true false 5 (.agg [vI p0.Hidden.Grain,z1 p0.Hidden.First,z2 p0.Hidden.Step,z2 p0.Hidden.Show,z1 p0.seen]),.refs 4 (eF eI s24.2),.fam 1 true (eF eI s24.2),.loop 72 [(1,.ptr 0 0 0),(3,.ptr 1 0 0),(11,.fn (.func 125) [] [.ptr 2 0 0])] [12] (cA Try.f62 [true,true,false,true,true]) (cB Try.f62 [true,true,false,true,true]) .busy none],72⟩,(wk_lin 36 (st':=⟨[(1,.ptr 0 0 0),(3,.ptr 1 0 0),(4,vI s9.1),(5,vI s12.1),(16,vI (zn p0.Hidden.First)),(17,vI s12.1),(36,.lin 4 (zt (zw (s9.1+1))) a22.length),(37,vI (zn a22)),(38,vI s24.1)]++[(39,vB true),(40,vI s24.1),(41,.ptr (fid 4 (zt (zw (s9.1+1)))) (zt s24.1) 0),(42,vI a29),(6,vI s24.1),(7,vI a29)],[oX true false 5 (.agg [vI p0.Hidden.Grain,z1 p0.Hidden.First,z2 p0.Hidden.Step,z2 p0.Hidden.Show,z1 p0.seen]),oX false false 1 (.ref 3 0 s24.2.length),oX true false 5 (.agg [vI p0.Hidden.Grain,z1 p0.Hidden.First,z2 p0.Hidden.Step,z2 p0.Hidden.Show,z1 p0.seen]),.refs 4 (eF eI s24.2),.fam 1 true (eF eI s24.2),.loop 72 [(1,.ptr 0 0 0),(3,.ptr 1 0 0),(11,.fn (.func 125) [] [.ptr 2 0 0])] [12] (cA Try.f62 [true,true,false,true,true]) (cB Try.f62 [true,true,false,true,true]) .busy none],72⟩) rfl (by kernel_rfl)),?_⟩
       refine wp_post ?_
       refine rga hfol (sy 2 2 ?_)
       refine bind_elim h (fun a31 q32 h=>?_)
       refine idxF (enc:=eI) (ls:=s24.2) (x:=a31) (n:=s9.1) (ob:=3) (j:=4) kr kr q32 gE ?_
       refine loadF (enc:=eI) (ls:=s24.2) (x:=a31) (n:=s9.1) (ob:=3) (j:=4) kr kr q32 gE ?_
       refine sy 1 5 ?_
       refine bind_elim h (fun a33 q34 h=>?_)
       refine idxI (enc:=eI) (ls:=s24.2) (x:=a31) (y:=a33) (n:=s9.1) (c:=s12.1) (w:=1) (j:=4) (fl:=true) kr kr q32 q34 rfl gE ?_
       refine loadI (enc:=eI) (ls:=s24.2) (x:=a31) (y:=a33) (n:=s9.1) (m:=s12.1) (w:=1) (j:=4) (c:=0) (fl:=true) kr kr q32 q34 rfl gE ?_
       refine sy 4 11 ?_
       refine bind_elim h (fun a35 q36 h=>?_)
       refine idxL' (enc:=z1) (l:=p0.Hidden.Step) (n:=s12.1) (fl:=false) (w:=1) (a:=a35) kr rfl gE q36 ?_
       refine sy 2 14 ?_
       refine bind_elim h (fun a37 q38 h=>?_)
       refine idxL' (enc:=eI) (l:=a35) (n:=s24.1) (fl:=true) (w:=1) (a:=a37) kr rfl gE q38 ?_
       refine sy 5 20 ?_
       refine callW bodyB_93 (g_hidden_watcher_shown_ok p0 (zw (s9.1+1)) s24.1) h (fun x39 _ h=>?_)
       refine sy 4 25 ?_
       refine idxI (enc:=eI) (ls:=s24.2) (x:=a31) (y:=a33) (n:=s9.1) (c:=s12.1) (w:=1) (j:=4) (fl:=true) kr kr q32 q34 rfl gE ?_
       refine storeI (enc:=eI) (ls:=s24.2) (x:=a31) (y:=a33) (y':=zw (a33+(zw ((zw (a37*x39))*a29)))) (n:=s9.1) (m:=s12.1) (w:=1) (j:=4) (q:=3) (c:=0) (fl:=true) (v:=vI (zw (a33+(zw ((zw (a37*x39))*a29))))) kr kr kr q32 q34 rfl kr kr kr gE ?_
       refine rknN (n:=s24.2.length) (m:=(List.set s24.2 (zt s9.1) (List.set a31 (zt s12.1) (zw (a33+(zw ((zw (a37*x39))*a29)))))).length) (S:=fun n41=>⟨[(1,.ptr 0 0 0),(3,.ptr 1 0 0),(4,vI s9.1),(5,vI s12.1),(16,vI (zn p0.Hidden.First)),(17,vI s12.1),(36,.lin 4 (zt (zw (s9.1+1))) a22.length),(37,vI (zn a22)),(38,vI s24.1)]++[(39,vB true),(40,vI s24.1),(41,.ptr (fid 4 (zt (zw (s9.1+1)))) (zt s24.1) 0),(42,vI a29),(6,vI s24.1),(7,vI a29),(43,.ref 3 0 n41),(44,vI s9.1),(45,.ptr 3 (zt s9.1) 0),(46,.ref (fid 4 (zt s9.1)) 0 a31.length),(47,vI s12.1),(48,.ptr (fid 4 (zt s9.1)) (zt s12.1) 0),(49,vI a33),(50,.ptr 0 0 0),(51,.ptr 0 0 2),(52,z2 p0.Hidden.Step),(53,vI s12.1),(54,.fz [z1 a35]),(55,z1 a35),(56,vI s24.1),(57,.fz [vI a37]),(58,vI a37),(59,.agg [vI p0.Hidden.Grain,z1 p0.Hidden.First,z2 p0.Hidden.Step,z2 p0.Hidden.Show,z1 p0.seen]),(60,vI s9.1),(61,vI (zw (s9.1+1))),(62,vI s24.1),(63,vI x39),(64,vI (zw (a37*x39))),(65,vI a29),(66,vI (zw ((zw (a37*x39))*a29))),(67,vI (zw (a33+(zw ((zw (a37*x39))*a29))))),(68,.ptr (fid 4 (zt s9.1)) (zt s12.1) 0)],[oX true false 5 (.agg [vI p0.Hidden.Grain,z1 p0.Hidden.First,z2 p0.Hidden.Step,z2 p0.Hidden.Show,z1 p0.seen]),oX false false 1 (.ref 3 0 n41),oX true false 5 (.agg [vI p0.Hidden.Grain,z1 p0.Hidden.First,z2 p0.Hidden.Step,z2 p0.Hidden.Show,z1 p0.seen]),.refs 4 (eF eI (List.set s24.2 (zt s9.1) (List.set a31 (zt s12.1) (zw (a33+(zw ((zw (a37*x39))*a29))))))),.fam 1 true (eF eI (List.set s24.2 (zt s9.1) (List.set a31 (zt s12.1) (zw (a33+(zw ((zw (a37*x39))*a29))))))),.loop 72 [(1,.ptr 0 0 0),(3,.ptr 1 0 0),(11,.fn (.func 125) [] [.ptr 2 0 0])] [12] (cA Try.f62 [true,true,false,true,true]) (cB Try.f62 [true,true,false,true,true]) .busy none],72⟩) (by simp only [List.length_set]) ?_
       refine rgd ?_
       refine ⟨_,wk_refl,?_⟩
       refine wg [1,3,4,5,16,17,36,37,38] [] (rn ?_)
       cases h
       exact ⟨_,rfl,(wk_gc (live:=[1,3,4,5,16,17,36,37,38]) (keep:=[]) kr)⟩
      refine wcF (wg [1,3,4,16,17] [] ?_)
      refine wp_exit ?_
      cases h
      exact ⟨kr,rfl⟩
     intro x43 h out hx
     subst hx
     refine rn ?_
     cases h
     exact ⟨_,rfl,(wk_gc (live:=[1,3,4,16,17]) (keep:=[]) kr)⟩
    refine wcF (wg [] [] ?_)
    refine wp_exit ?_
    cases h
    exact ⟨kr,rfl⟩
   intro x45 h out hx
   subst hx
   refine ⟨⟨[(0,.yld 5),(3,vI s9.1),(8,vI s9.1),(9,vB true),(12,.yld 5),(13,vI s9.1),(14,vB true)],[oX true false 5 (.agg [vI p0.Hidden.Grain,z1 p0.Hidden.First,z2 p0.Hidden.Step,z2 p0.Hidden.Show,z1 p0.seen]),oX false false 1 (.ref 3 0 x45.length),oX true false 5 (.agg [vI p0.Hidden.Grain,z1 p0.Hidden.First,z2 p0.Hidden.Step,z2 p0.Hidden.Show,z1 p0.seen]),.refs 4 (eF eI x45),.fam 1 true (eF eI x45),.loop 72 [(1,.ptr 0 0 0),(3,.ptr 1 0 0),(11,.fn (.func 125) [] [.ptr 2 0 0])] [12] (cA Try.f62 [true,true,false,true,true]) (cB Try.f62 [true,true,false,true,true]) .ready none],16⟩,by as_aux_lemma=>kernel_rfl,?_⟩
   refine sz 1 4 (reg_end rfl ?_)
   refine ⟨_,wk_refl,?_⟩
   refine wcF (wp_skip (wg [0,3] [] (rn ?_)))
   cases h
   exact ⟨_,rfl,(wk_gc (live:=[0,3]) (keep:=[]) kr)⟩
  refine wcF (wg [] [] ?_)
  refine wp_exit ?_
  cases h
  exact ⟨kr,rfl⟩
 intro x47 h out hx
 subst hx
 refine ⟨.go .normal ⟨[(1,.ptr 0 0 0),(3,.ptr 1 0 0),(11,.fn (.func 125) [] [.ptr 2 0 0])],[oX true false 5 (.agg [vI p0.Hidden.Grain,z1 p0.Hidden.First,z2 p0.Hidden.Step,z2 p0.Hidden.Show,z1 p0.seen]),oX false false 1 (.ref 3 0 x47.length),oX true false 5 (.agg [vI p0.Hidden.Grain,z1 p0.Hidden.First,z2 p0.Hidden.Step,z2 p0.Hidden.Show,z1 p0.seen]),.refs 4 (eF eI x47),.fam 1 true (eF eI x47),.dead],72⟩,by as_aux_lemma=>kernel_rfl,?_⟩
 refine wp_seq ?_
 refine wp_post ?_
 refine rn ?_
 refine ⟨_,wk_refl,?_⟩
 refine wgc [2] [3,4] ⟨[(2,.ref 0 0 x47.length)],[.refs 1 (eF eI x47),.fam 1 true (eF eI x47)],72⟩ ?_
 refine wp_wk (wk_frzF 0 1 (enc:=eI) (ls:=x47) (st':=⟨[(2,.ref 0 0 x47.length)],[oR false 1 z1 x47,.dead],72⟩) rfl rfl kr) ?_
 cases h
 exact wp_ret (show fnOut _ _ _ _=_ from by kernel_rfl)
theorem g_hidden_Backward_ok (p0:Tapi_Hidden) (p1:(List Int)) (x:((List (List Int)) × Int)) (h:g_hidden_Backward p0 p1=some x):CallOk Try.prog 17 [.agg [vI p0.Grain,z1 p0.First,z2 p0.Step,z2 p0.Show],z1 p1] (.ret (.tup [.ref 0 0 x.1.length,vI x.2]) [oR false 1 z1 x.1]):=by
 refine fn_ok [] Try.func17 rfl (by decide +kernel) rfl ?_
 unfold g_hidden_Backward at h
 refine wp_eqB (base':=0) (st':=⟨[(0,.agg [vI p0.Grain,z1 p0.First,z2 p0.Step,z2 p0.Show]),(1,z1 p1)],[],19⟩) kr kr ?_
 refine wp_seq (reg_in ?_)
 refine sgL false [] [] false gE ?_
 refine sz 2 3 (reg_end rfl (wp_seq (reg_in (sz 2 2 ?_))))
 refine callW bodyB_60 (g_hidden_newWatcher_ok p0 p1) h (fun x1 _ h=>?_)
 refine sz 3 6 ?_
 refine sgL false [] [] false gE ?_
 refine sz 2 9 (reg_end rfl (wp_seq (wp_seq ?_)))
 refine wgc [6,7] [1] ⟨[(6,.ptr 0 0 0),(7,vI x1.2)],[oX true false 5 (.agg [vI x1.1.Hidden.Grain,z1 x1.1.Hidden.First,z2 x1.1.Hidden.Step,z2 x1.1.Hidden.Show,z1 x1.1.seen])],19⟩ ?_
 refine rn ?_
 refine wb [15] h (fun q4 h=>?_) (fun q4 h=>?_)
 ·refine wcT (sq (wg [4,5] [] ?_))
  refine wp_wk (wk_nil 4 1 true false gE) ?_
  cases h
  exact wp_ret (show fnOut _ _ _ _=_ from by kernel_rfl)
 refine wcF (wp_skip (wp_seq (reg_in (sz 1 1 ?_))))
 refine callW bodyB_62 (g_hidden_watcher_backward_ok x1.1) h (fun x5 _ h=>?_)
 refine sz 2 4 (reg_end rfl (wg [4,5] [1] ?_))
 cases h
 exact wp_ret (show fnOut _ _ _ _=_ from by kernel_rfl)
theorem g_ref02_Same_ok (p0:(List Int)) (p1:(List Int)) (x:Bool) (h:g_ref02_Same p0 p1=some x):CallOk Try.prog 64 [z1 p0,z1 p1] (.ret (vB x) []):=by
 refine fn_ok [] Try.func64 rfl (by decide +kernel) rfl ?_
 unfold g_ref02_Same at h
 refine wp_eqB (base':=0) (st':=⟨[(0,z1 p0),(1,z1 p1)],[],26⟩) kr kr ?_
 refine sq (wp_seq (wp_seq (reg_in (sz 1 1 ?_))))
 refine lenL (enc:=eI) (l:=p0) (fl:=true) kr gE ?_
 refine sz 1 3 ?_
 refine lenL (enc:=eI) (l:=p1) (fl:=true) kr gE ?_
 refine sz 1 5 (reg_end rfl ?_)
 refine wbz h (fun q2 h=>?_) (fun q2 h=>?_)
 ·refine wp_seq (wg [] [] (rn ?_))
  refine wgc [4] [] ⟨[(4,vB false)],[],26⟩ ?_
  cases h
  exact wp_ret (show fnOut _ _ _ _=_ from by kernel_rfl)
 refine wp_skip (wp_seq (wp_seq (wg [0,1] [] (rn (wp_block ?_)))))
 refine wwh h (fun s3=>⟨[(0,z1 p0),(1,z1 p1),(5,vI s3)],[],26⟩) (fun x out=>out=match x with | .inl v=>.go (.ret) ⟨[(4,vB false)],[],26⟩ | .inr v=>.go (.exit 0) ⟨[],[],26⟩) (wk_gc (live:=[0,1,5]) (keep:=[]) kr) ?_ ?_
 ·intro s3 o h
  unfold g_ref02_Same_b0 at h
  refine wp_seq (wp_seq (reg_in (sz 2 2 ?_)))
  refine lenL (enc:=eI) (l:=p0) (fl:=true) kr gE ?_
  refine sz 1 4 (reg_end rfl ?_)
  refine wb [14] h (fun q5 h=>?_) (fun q5 h=>?_)
  ·refine wcT (wp_skip (wp_seq (wp_block (wp_seq (rga hfol (sy 2 2 ?_))))))
   refine bind_elim h (fun a6 q7 h=>?_)
   refine idxL' (enc:=eI) (l:=p0) (n:=s3) (fl:=true) (w:=1) (a:=a6) kr rfl gE q7 ?_
   refine sy 3 6 ?_
   refine bind_elim h (fun a8 q9 h=>?_)
   refine idxL' (enc:=eI) (l:=p1) (n:=s3) (fl:=true) (w:=1) (a:=a8) kr rfl gE q9 ?_
   refine sy 2 9 (rgd ?_)
   refine wbz h (fun q11 h=>?_) (fun q11 h=>?_)
   ·refine wp_seq ?_
    refine wgc [] [] ⟨[],[],26⟩ ?_
    refine rn (wg [4] [] ?_)
    refine wp_ret ?_
    cases h
    exact ⟨kr,rfl⟩
   refine wp_skip ?_
   refine wgc [0,1,5] [] ⟨[(0,z1 p0),(1,z1 p1),(5,vI s3)],[],26⟩ ?_
   refine rn ?_
   cases h
   exact ⟨_,rfl,(wk_gc (live:=[0,1,5]) (keep:=[]) kr)⟩
  refine wcF (wg [] [] ?_)
  refine wp_exit ?_
  cases h
  exact ⟨kr,rfl⟩
 intro x12 h out hx
 subst hx
 rcases x12 with x13 | x14
 ·dsimp only at h ⊢
  cases h
  show fnOut _ _ _ _=_
  kernel_rfl
 ·dsimp only at h ⊢
  refine sq (wg [4] [] ?_)
  cases h
  exact wp_ret (show fnOut _ _ _ _=_ from by kernel_rfl)
theorem g_ref17_SameTable_ok (p0:(List (List Int))) (p1:(List (List Int))) (x:Bool) (h:g_ref17_SameTable p0 p1=some x):CallOk Try.prog 19 [z2 p0,z2 p1] (.ret (vB x) []):=by
 refine fn_ok [] Try.func19 rfl (by decide +kernel) rfl ?_
 unfold g_ref17_SameTable at h
 refine wp_eqB (base':=0) (st':=⟨[(0,z2 p0),(1,z2 p1)],[],27⟩) kr kr ?_
 refine sq (wp_seq (wp_seq (reg_in (sz 1 1 ?_))))
 refine lenL (enc:=z1) (l:=p0) (fl:=false) kr gE ?_
 refine sz 1 3 ?_
 refine lenL (enc:=z1) (l:=p1) (fl:=false) kr gE ?_
 refine sz 1 5 (reg_end rfl ?_)
 refine wbz h (fun q2 h=>?_) (fun q2 h=>?_)
 ·refine wp_seq (wg [] [] (rn ?_))
  refine wgc [4] [] ⟨[(4,vB false)],[],27⟩ ?_
  cases h
  exact wp_ret (show fnOut _ _ _ _=_ from by kernel_rfl)
 refine wp_skip (wp_seq (wp_seq (wg [0,1] [] (rn (wp_block ?_)))))
 refine wwh h (fun s3=>⟨[(0,z2 p0),(1,z2 p1),(5,vI s3)],[],27⟩) (fun x out=>out=match x with | .inl v=>.go (.ret) ⟨[(4,vB false)],[],27⟩ | .inr v=>.go (.exit 0) ⟨[],[],27⟩) (wk_gc (live:=[0,1,5]) (keep:=[]) kr) ?_ ?_
 ·intro s3 o h
  unfold g_ref17_SameTable_b0 at h
  refine wp_seq (wp_seq (reg_in (sz 2 2 ?_)))
  refine lenL (enc:=z1) (l:=p0) (fl:=false) kr gE ?_
  refine sz 1 4 (reg_end rfl ?_)
  refine wb [14] h (fun q5 h=>?_) (fun q5 h=>?_)
  ·refine wcT (wp_skip (wp_seq (wp_block (wp_seq (rga hfol (sy 2 2 ?_))))))
   refine bind_elim h (fun a6 q7 h=>?_)
   refine idxL' (enc:=z1) (l:=p0) (n:=s3) (fl:=false) (w:=1) (a:=a6) kr rfl gE q7 ?_
   refine sy 3 6 ?_
   refine bind_elim h (fun a8 q9 h=>?_)
   refine idxL' (enc:=z1) (l:=p1) (n:=s3) (fl:=false) (w:=1) (a:=a8) kr rfl gE q9 ?_
   refine sy 1 8 ?_
   refine callW bodyB_64 (g_ref02_Same_ok a6 a8) h (fun x10 _ h=>?_)
   refine sy 1 10 (rgd ?_)
   refine wbz h (fun q13 h=>?_) (fun q13 h=>?_)
   ·refine wp_seq ?_
    refine wgc [] [] ⟨[],[],27⟩ ?_
    refine rn (wg [4] [] ?_)
    refine wp_ret ?_
    cases h
    exact ⟨kr,rfl⟩
   refine wp_skip ?_
   refine wgc [0,1,5] [] ⟨[(0,z2 p0),(1,z2 p1),(5,vI s3)],[],27⟩ ?_
   refine rn ?_
   cases h
   exact ⟨_,rfl,(wk_gc (live:=[0,1,5]) (keep:=[]) kr)⟩
  refine wcF (wg [] [] ?_)
  refine wp_exit ?_
  cases h
  exact ⟨kr,rfl⟩
 intro x14 h out hx
 subst hx
 rcases x14 with x15 | x16
 ·dsimp only at h ⊢
  cases h
  show fnOut _ _ _ _=_
  kernel_rfl
 ·dsimp only at h ⊢
  refine sq (wg [4] [] ?_)
  cases h
  exact wp_ret (show fnOut _ _ _ _=_ from by kernel_rfl)
theorem g_slices_Concat_int_int_ok (p0:(List (List Int))) (x:(List Int)) (h:g_slices_Concat_int_int p0=some x):CallOk Try.prog 70 [z2 p0] (.ret (.ref 0 0 x.length) [oR true 1 eI x]):=by
 refine fn_ok [] Try.func70 rfl (by decide +kernel) rfl ?_
 unfold g_slices_Concat_int_int at h
 refine wp_eqB (base':=0) (st':=⟨[(0,z2 p0)],[],36⟩) kr kr ?_
 refine sq (sq (wp_seq (wp_seq (reg_in (sz 1 1 ?_)))))
 refine lenL (enc:=z1) (l:=p0) (fl:=false) kr gE ?_
 refine sz 1 3 (reg_end rfl (wp_block ?_))
 refine wwh h (fun s1=>⟨[(0,z2 p0),(3,vI s1.1),(9,z2 p0),(10,vI (zn p0)),(11,vI s1.2)],[],36⟩) (fun v out=>out=.go (.exit 0) ⟨[(0,z2 p0),(3,vI v)],[],36⟩) (wk_gc (live:=[0,3,9,10,11]) (keep:=[]) kr) ?_ ?_
 ·intro s1 o h
  unfold g_slices_Concat_int_int_b0 at h
  refine sq (wp_seq ?_)
  refine wb [12] h (fun q3 h=>?_) (fun q3 h=>?_)
  ·refine wcT (wp_skip (wp_seq (wp_block (wp_seq (reg_in ?_)))))
   refine bind_elim h (fun a4 q5 h=>?_)
   refine idxL' (enc:=z1) (l:=p0) (n:=s1.2) (fl:=false) (w:=1) (a:=a4) kr rfl gE q5 ?_
   refine sz 2 3 (reg_end rfl (wp_seq (reg_in (sz 2 2 ?_))))
   refine lenL (enc:=eI) (l:=a4) (fl:=true) kr gE ?_
   refine sz 2 5 (reg_end rfl (wp_seq ?_))
   refine wgc [0,3,9,10,11] [] ⟨[(0,z2 p0),(3,vI (zw (s1.1+(zn a4)))),(9,z2 p0),(10,vI (zn p0)),(11,vI s1.2)],[],36⟩ ?_
   refine rn ?_
   refine wb [20] h (fun q7 h=>?_) (fun q7 h=>?_)
   ·refine wcT (reg_in ?_)
    cases h
   refine wcF (wp_skip (rn ?_))
   cases h
   exact ⟨_,rfl,(wk_gc (live:=[0,3,9,10,11]) (keep:=[]) kr)⟩
  refine wcF (wg [0,3] [] ?_)
  refine wp_exit ?_
  cases h
  exact ⟨kr,rfl⟩
 intro x9 h out hx
 subst hx
 refine wp_seq (reg_in (sz 1 1 ?_))
 refine inlR (f:=94) (fn:=Try.f94) (as0:=[.nils,vI x9]) kr Try.func94 rfl (by decide +kernel) rfl ?_
 refine wp_eqB (base':=0) (st':=⟨[(0,.nils),(1,vI x9)],[],27⟩) kr kr ?_
 refine sq (wp_seq (sq ?_))
 refine wb [6] h (fun q11 h=>?_) (fun q11 h=>?_)
 ·refine wcT (reg_in ?_)
  cases h
 refine wcF (wp_skip (wp_seq (sq (wp_seq (wg [0,1] [] (rn ?_))))))
 refine wb [16] h (fun q13 h=>?_) (fun q13 h=>?_)
 ·refine wcT (reg_in (sz 3 3 (sz 1 4 (sz 1 5 ?_))))
  refine appZ (enc:=eI) (z:=(0:Int)) (n:=zw (x9 - 0)) (w:=1) (bytes:=8) kr gE kr h (fun h=>?_)
  refine sz 2 8 ?_
  refine sliceP (enc:=eI) (l:=(List.replicate (zt (zw (x9 - 0))) (0:Int))) (ob:=0) (ro:=false) (nr:=true) (fl:=true) (lo:=none) (hi:=(some (vI 0))) (a:=0) (b:=0) (w:=1) kr kr rfl rfl gE h (fun _ h=>?_)
  refine sz 1 10 (reg_end rfl (wp_seq ?_))
  refine wgc [0] [0] ⟨[(0,.ref 0 0 0)],[oR true 1 eI (List.replicate (zt (zw (x9 - 0))) (0:Int))],27⟩ ?_
  refine rn (wg [4] [0] ?_)
  refine wp_ret ?_
  refine ⟨⟨[(0,z2 p0),(3,vI x9),(23,vI x9),(24,.ref 0 0 0)],[oR true 1 eI (List.replicate (zt (zw (x9 - 0))) (0:Int))],36⟩,by as_aux_lemma=>kernel_rfl,?_⟩
  refine sz 1 3 (reg_end rfl (wp_seq (wp_seq (reg_in (sz 1 1 ?_)))))
  refine lenL (enc:=z1) (l:=p0) (fl:=false) kr gE ?_
  refine sgz 1 3 (S:=⟨[(0,z2 p0),(3,vI x9),(23,vI x9),(24,.ref 0 0 0),(6,.ref 0 0 0),(25,z2 p0),(26,vI (zn p0)),(27,vI 0)],[oR true 1 eI (List.replicate (zt (zw (x9 - 0))) (0:Int))],36⟩) ?_
  refine reg_end rfl (wp_block ?_)
  refine wp_wk (wk_take 0 0 (enc:=eI) (l:=(List.replicate (zt (zw (x9 - 0))) (0:Int))) (st':=⟨[(0,z2 p0),(3,vI x9),(23,vI x9),(24,.ref 0 0 (([]:(List Int)).length)),(6,.ref 0 0 (([]:(List Int)).length)),(25,z2 p0),(26,vI (zn p0)),(27,vI 0)],[oR true 1 eI ([]:(List Int))],36⟩) rfl kr) ?_
  refine wwh h (fun s15=>⟨[(6,.ref 0 0 s15.2.length),(25,z2 p0),(26,vI (zn p0)),(27,vI s15.1)],[oR true 1 eI s15.2],36⟩) (fun v out=>out=.go (.exit 2) ⟨[(6,.ref 0 0 v.length)],[oR true 1 eI v],36⟩) (wk_gc (live:=[6,25,26,27]) (keep:=[0]) kr) ?_ ?_
  ·intro s15 o h
   unfold g_slices_Concat_int_int_b1 at h
   refine sq (wp_seq ?_)
   refine wb [28] h (fun q17 h=>?_) (fun q17 h=>?_)
   ·refine wcT (wp_skip (wp_seq (wp_block (wp_seq (reg_in ?_)))))
    refine bind_elim h (fun a18 q19 h=>?_)
    refine idxL' (enc:=z1) (l:=p0) (n:=s15.1) (fl:=false) (w:=1) (a:=a18) kr rfl gE q19 ?_
    refine sz 2 3 (reg_end rfl (reg_in (sz 2 2 ?_)))
    refine appR (enc:=eI) (l:=s15.2) (m:=a18) (w:=1) (bytes:=8) (ob:=0) (nr:=true) (fl:=true) (nr':=true) (fl':=true) (b:=z1 a18) (rds:=[]) false kr kr (elems_lst (fun _=>rfl)) rfl gE kr h (fun h=>?_)
    refine sz 1 4 (reg_end rfl ?_)
    refine wgc [6,25,26,27] [1] ⟨[(6,.ref 0 0 ((s15.2++a18).length)),(25,z2 p0),(26,vI (zn p0)),(27,vI s15.1)],[oR true 1 eI (s15.2++a18)],36⟩ ?_
    refine rn ?_
    cases h
    exact ⟨_,rfl,(wk_gc (live:=[6,25,26,27]) (keep:=[0]) kr)⟩
   refine wcF (wg [6] [0] ?_)
   refine wp_exit ?_
   cases h
   exact ⟨kr,rfl⟩
  intro x21 h out hx
  subst hx
  refine sq (wg [2] [0] ?_)
  cases h
  exact wp_ret (show fnOut _ _ _ _=_ from by kernel_rfl)
 refine wcF (wp_skip (sq ?_))
 refine wgc [4] [] ⟨[(4,.nils)],[],27⟩ ?_
 refine wp_ret ?_
 refine ⟨⟨[(0,z2 p0),(3,vI x9),(23,vI x9),(24,.nils)],[],36⟩,by as_aux_lemma=>kernel_rfl,?_⟩
 refine sz 1 3 (reg_end rfl (wp_seq (wp_seq (reg_in (sz 1 1 ?_)))))
 refine lenL (enc:=z1) (l:=p0) (fl:=false) kr gE ?_
 refine sz 1 3 (reg_end rfl (wp_block ?_))
 refine wwh h (fun s22=>⟨[(6,.ref 0 0 s22.2.length),(25,z2 p0),(26,vI (zn p0)),(27,vI s22.1)],[oR true 1 eI s22.2],36⟩) (fun v out=>out=.go (.exit 2) ⟨[(6,.ref 0 0 v.length)],[oR true 1 eI v],36⟩) (wk_trans (wk_gc (live:=[6,25,26,27]) (keep:=[]) (st':=⟨[(6,.nils),(25,z2 p0),(26,vI (zn p0)),(27,vI 0)],[],36⟩) kr) (wk_trans (wk_nil 6 1 true true (st':=⟨[(6,.ref 0 0 0),(25,z2 p0),(26,vI (zn p0)),(27,vI 0)],[.row false false true true 1 []],36⟩) kr) (wk_gc (live:=[6,25,26,27]) (keep:=[0]) kr))) ?_ ?_
 ·intro s22 o h
  unfold g_slices_Concat_int_int_b2 at h
  refine sq (wp_seq ?_)
  refine wb [28] h (fun q24 h=>?_) (fun q24 h=>?_)
  ·refine wcT (wp_skip (wp_seq (wp_block (wp_seq (reg_in ?_)))))
   refine bind_elim h (fun a25 q26 h=>?_)
   refine idxL' (enc:=z1) (l:=p0) (n:=s22.1) (fl:=false) (w:=1) (a:=a25) kr rfl gE q26 ?_
   refine sz 2 3 (reg_end rfl (reg_in (sz 2 2 ?_)))
   refine appR (enc:=eI) (l:=s22.2) (m:=a25) (w:=1) (bytes:=8) (ob:=0) (nr:=true) (fl:=true) (nr':=true) (fl':=true) (b:=z1 a25) (rds:=[]) false kr kr (elems_lst (fun _=>rfl)) rfl gE kr h (fun h=>?_)
   refine sz 1 4 (reg_end rfl ?_)
   refine wgc [6,25,26,27] [1] ⟨[(6,.ref 0 0 ((s22.2++a25).length)),(25,z2 p0),(26,vI (zn p0)),(27,vI s22.1)],[oR true 1 eI (s22.2++a25)],36⟩ ?_
   refine rn ?_
   cases h
   exact ⟨_,rfl,(wk_gc (live:=[6,25,26,27]) (keep:=[0]) kr)⟩
  refine wcF (wg [6] [0] ?_)
  refine wp_exit ?_
  cases h
  exact ⟨kr,rfl⟩
 intro x28 h out hx
 subst hx
 refine sq (wg [2] [0] ?_)
 cases h
 exact wp_ret (show fnOut _ _ _ _=_ from by kernel_rfl)
theorem g_math_bits_Mul64_ok (p0:Int) (p1:Int) (x:(Int × Int)) (h:g_math_bits_Mul64 p0 p1=some x):CallOk Try.prog 113 [.int .u64 p0,.int .u64 p1] (.ret (.tup [.int .u64 x.1,.int .u64 x.2]) []):=by
 refine fn_ok [] Try.func113 rfl (by decide +kernel) rfl ?_
 unfold g_math_bits_Mul64 at h
 refine wp_eqB (base':=0) (st':=⟨[(0,.int .u64 p0),(1,.int .u64 p1)],[],51⟩) kr kr ?_
 refine sq (sq (sq (wp_seq (wg [0,1,6,7] [] (rn (sq (sq (wp_seq ?_))))))))
 refine wgc [0,1,6,7,8,9,10] [] ⟨[(0,.int .u64 p0),(1,.int .u64 p1),(6,.int .u64 (zv (BitVec.ofInt (IntKind.bits .u64) p0 &&& BitVec.ofInt (IntKind.bits .u64) 4294967295).toNat)),(7,.int .u64 (Int.fdiv p0 (2^min (zt 32) (IntKind.bits .u64)))),(8,.int .u64 (zv (BitVec.ofInt (IntKind.bits .u64) p1 &&& BitVec.ofInt (IntKind.bits .u64) 4294967295).toNat)),(9,.int .u64 (Int.fdiv p1 (2^min (zt 32) (IntKind.bits .u64)))),(10,.int .u64 (zv ((zv (BitVec.ofInt (IntKind.bits .u64) p0 &&& BitVec.ofInt (IntKind.bits .u64) 4294967295).toNat)*(zv (BitVec.ofInt (IntKind.bits .u64) p1 &&& BitVec.ofInt (IntKind.bits .u64) 4294967295).toNat))))],[],51⟩ ?_
 refine rn (wp_seq (wg [0,1,6,7,9,11] [] (rn (sq (wp_seq (wg [0,1,6,7,9,12,13] [] (rn (wp_seq ?_))))))))
 refine wgc [0,1,7,9,12,13] [] ⟨[(0,.int .u64 p0),(1,.int .u64 p1),(7,.int .u64 (Int.fdiv p0 (2^min (zt 32) (IntKind.bits .u64)))),(9,.int .u64 (Int.fdiv p1 (2^min (zt 32) (IntKind.bits .u64)))),(12,.int .u64 (zv ((zv (BitVec.ofInt (IntKind.bits .u64) (zv ((zv ((Int.fdiv p0 (2^min (zt 32) (IntKind.bits .u64)))*(zv (BitVec.ofInt (IntKind.bits .u64) p1 &&& BitVec.ofInt (IntKind.bits .u64) 4294967295).toNat)))+(Int.fdiv (zv ((zv (BitVec.ofInt (IntKind.bits .u64) p0 &&& BitVec.ofInt (IntKind.bits .u64) 4294967295).toNat)*(zv (BitVec.ofInt (IntKind.bits .u64) p1 &&& BitVec.ofInt (IntKind.bits .u64) 4294967295).toNat))) (2^min (zt 32) (IntKind.bits .u64))))) &&& BitVec.ofInt (IntKind.bits .u64) 4294967295).toNat)+(zv ((zv (BitVec.ofInt (IntKind.bits .u64) p0 &&& BitVec.ofInt (IntKind.bits .u64) 4294967295).toNat)*(Int.fdiv p1 (2^min (zt 32) (IntKind.bits .u64)))))))),(13,.int .u64 (Int.fdiv (zv ((zv ((Int.fdiv p0 (2^min (zt 32) (IntKind.bits .u64)))*(zv (BitVec.ofInt (IntKind.bits .u64) p1 &&& BitVec.ofInt (IntKind.bits .u64) 4294967295).toNat)))+(Int.fdiv (zv ((zv (BitVec.ofInt (IntKind.bits .u64) p0 &&& BitVec.ofInt (IntKind.bits .u64) 4294967295).toNat)*(zv (BitVec.ofInt (IntKind.bits .u64) p1 &&& BitVec.ofInt (IntKind.bits .u64) 4294967295).toNat))) (2^min (zt 32) (IntKind.bits .u64))))) (2^min (zt 32) (IntKind.bits .u64))))],[],51⟩ ?_
 refine rn (wp_seq (wg [0,1,4] [] (rn (wg [4,5] [] ?_))))
 cases h
 exact wp_ret (show fnOut _ _ _ _=_ from by kernel_rfl)
theorem g_math_bits_Mul_ok (p0:Int) (p1:Int) (x:(Int × Int)) (h:g_math_bits_Mul p0 p1=some x):CallOk Try.prog 95 [.int .u64 p0,.int .u64 p1] (.ret (.tup [.int .u64 x.1,.int .u64 x.2]) []):=by
 refine fn_ok [] Try.func95 rfl (by decide +kernel) rfl ?_
 unfold g_math_bits_Mul at h
 refine wp_eqB (base':=0) (st':=⟨[(0,.int .u64 p0),(1,.int .u64 p1)],[],30⟩) kr kr ?_
 refine sq (wp_seq (wcF (wp_skip (wp_seq (reg_in (sz 2 2 ?_))))))
 refine callW bodyB_113 (g_math_bits_Mul64_ok p0 p1) h (fun x1 _ h=>?_)
 refine sz 5 8 (reg_end rfl (wp_seq ?_))
 refine wgc [8,9] [] ⟨[(8,.int .u64 x1.1),(9,.int .u64 x1.2)],[],30⟩ ?_
 refine rn (wg [4,5] [] ?_)
 cases h
 exact wp_ret (show fnOut _ _ _ _=_ from by kernel_rfl)
theorem g_slices_Repeat_int_int_ok (p0:(List Int)) (p1:Int) (x:(List Int)) (h:g_slices_Repeat_int_int p0 p1=some x):CallOk Try.prog 71 [z1 p0,vI p1] (.ret (.ref 0 0 x.length) [oR true 1 eI x]):=by
 refine fn_ok [] Try.func71 rfl (by decide +kernel) rfl ?_
 unfold g_slices_Repeat_int_int at h
 refine wp_eqB (base':=0) (st':=⟨[(0,z1 p0),(1,vI p1)],[],48⟩) kr kr ?_
 refine sq (wp_seq (sq ?_))
 refine wb [10] h (fun q2 h=>?_) (fun q2 h=>?_)
 ·refine wcT (reg_in ?_)
  cases h
 refine wcF (wp_skip (wp_seq (reg_in (sz 1 1 ?_))))
 refine lenL (enc:=eI) (l:=p0) (fl:=true) kr gE ?_
 refine sz 3 5 ?_
 refine callW bodyB_95 (g_math_bits_Mul_ok (zv ((zn p0))) (zv (p1))) h (fun x3 _ h=>?_)
 refine sz 5 11 (reg_end rfl (wp_seq (wp_seq ?_)))
 refine wgc [0,5,6] [] ⟨[(0,z1 p0),(5,.int .u64 x3.1),(6,.int .u64 x3.2)],[],48⟩ ?_
 refine reg_in (sz 3 3 ?_)
 refine rb [22,23] h (fun q6 h=>?_) (fun q6 h=>?_)
 ·refine sz 3 6 (reg_end rfl (wcT (wg [0,6] [] (reg_in ?_))))
  cases h
 refine sz 3 6 (reg_end rfl ?_)
 refine wbz h (fun q8 h=>?_) (fun q8 h=>?_)
 ·refine wgc [0,6] [] ⟨[(0,z1 p0),(6,.int .u64 x3.2)],[],48⟩ ?_
  refine reg_in ?_
  cases h
 refine wp_skip (wp_seq (wg [0,6] [] (reg_in (sz 2 2 ?_))))
 refine mkL (enc:=eI) (z:=(0:Int)) (z0:=vI 0) (n:=zw (x3.2)) (m:=zw (x3.2)) (w:=1) (bytes:=8) [] true kr rfl gE kr h (fun h=>?_)
 refine sz 1 4 (reg_end rfl (wp_seq (reg_in (sz 2 2 ?_))))
 refine cpR (enc:=eI) (l:=(List.replicate (zt (zw (x3.2))) (0:Int))) (m:=p0) (w:=1) (ob:=0) (i0:=0) (n0:=(List.replicate (zt (zw (x3.2))) (0:Int)).length) (nr:=true) (fl:=true) (fl':=true) (b:=z1 p0) (rds:=[]) kr kr (elems_lst (fun _=>rfl)) full_le gE kr ?_
 refine rknN (n:=(List.replicate (zt (zw (x3.2))) (0:Int)).length) (m:=(ovr (List.replicate (zt (zw (x3.2))) (0:Int)) 0 (List.take ((List.replicate (zt (zw (x3.2))) (0:Int)).length) p0)).length) (S:=fun n17=>⟨[(0,z1 p0),(6,.int .u64 x3.2),(28,.int .u64 x3.2),(29,vI (zw (x3.2))),(30,.ref 0 0 n17),(7,.ref 0 0 n17),(31,.ref 0 0 n17),(32,z1 p0),(33,vI ((min p0.length ((List.replicate (zt (zw (x3.2))) (0:Int)).length):Nat):Int))],[oR true 1 eI (ovr (List.replicate (zt (zw (x3.2))) (0:Int)) 0 (List.take ((List.replicate (zt (zw (x3.2))) (0:Int)).length) p0))],48⟩) (ovr_len ..) ?_
 refine sz 1 4 (reg_end rfl (wp_seq (wp_block ?_)))
 refine wwh h (fun s9=>⟨[(7,.ref 0 0 s9.2.length),(8,vI s9.1)],[oR true 1 eI s9.2],48⟩) (fun v out=>out=.go (.exit 0) ⟨[(7,.ref 0 0 v.length)],[oR true 1 eI v],48⟩) (wk_gc (live:=[7,8]) (keep:=[0]) kr) ?_ ?_
 ·intro s9 o h
  unfold g_slices_Repeat_int_int_b0 at h
  refine wp_seq (sq ?_)
  refine wb [37] h (fun q11 h=>?_) (fun q11 h=>?_)
  ·refine wcT (wp_skip (wp_block (rga hfol (sy 3 3 ?_))))
   refine sliceP (enc:=eI) (l:=s9.2) (ob:=0) (ro:=false) (nr:=true) (fl:=true) (lo:=(some (vI s9.1))) (hi:=none) (a:=s9.1) (b:=(zn s9.2)) (w:=1) kr kr rfl rfl gE h (fun q12 h=>?_)
   refine sy 2 6 ?_
   refine sliceP (enc:=eI) (l:=s9.2) (ob:=0) (ro:=false) (nr:=true) (fl:=true) (lo:=none) (hi:=(some (vI s9.1))) (a:=0) (b:=s9.1) (w:=1) kr kr rfl rfl gE h (fun q13 h=>?_)
   refine cpR (enc:=eI) (l:=s9.2) (m:=(sub s9.2 0 s9.1)) (w:=1) (ob:=0) (i0:=(zt s9.1)) (n0:=(zt (zn s9.2) - zt s9.1)) (nr:=true) (fl:=true) (fl':=true) (b:=.ref 0 0 (zt s9.1 - zt (0:Int))) (rds:=[0]) kr kr (elems_part (ob:=0) (a:=0) (b:=s9.1) (ro:=false) kr q13) (part_le q12) gE kr ?_
   refine rknN (n:=s9.2.length) (m:=(ovr s9.2 (zt s9.1) (List.take (zt (zn s9.2) - zt s9.1) (sub s9.2 0 s9.1))).length) (S:=fun n14=>⟨[(7,.ref 0 0 n14),(8,vI s9.1),(34,vI s9.1),(35,.ref 0 0 n14),(36,vI (zn s9.2)),(37,vB true),(38,vI s9.1),(39,.ref 0 0 n14),(40,vI s9.1),(41,.ref 0 (zt s9.1) (zt (zn s9.2) - zt s9.1)),(42,.ref 0 0 n14),(43,vI s9.1),(44,.ref 0 0 (zt s9.1 - zt (0:Int))),(45,vI ((min (sub s9.2 0 s9.1).length (zt (zn s9.2) - zt s9.1):Nat):Int))],[oR true 1 eI (ovr s9.2 (zt s9.1) (List.take (zt (zn s9.2) - zt s9.1) (sub s9.2 0 s9.1)))],48⟩) (ovr_len ..) ?_
   refine sy 2 10 (rgd ?_)
   cases h
   exact ⟨_,rfl,(wk_gc (live:=[7,8]) (keep:=[0]) kr)⟩
  refine wcF (wg [7] [0] ?_)
  refine wp_exit ?_
  cases h
  exact ⟨kr,rfl⟩
 intro x16 h out hx
 subst hx
 refine sq (wg [4] [0] ?_)
 cases h
 exact wp_ret (show fnOut _ _ _ _=_ from by kernel_rfl)
theorem g_hidden_sum_int_ok (p0:(List Int)) (x:Int) (h:g_hidden_sum_int p0=some x):CallOk Try.prog 79 [z1 p0] (.ret (vI x) []):=by
 refine fn_ok [] Try.func79 rfl (by decide +kernel) rfl ?_
 unfold g_hidden_sum_int at h
 refine wp_eqB (base':=0) (st':=⟨[(0,z1 p0)],[],17⟩) kr kr ?_
 refine sq (sq (wp_seq (wp_seq (reg_in (sz 1 1 ?_)))))
 refine lenL (enc:=eI) (l:=p0) (fl:=true) kr gE ?_
 refine sz 1 3 (reg_end rfl (wp_block ?_))
 refine wwh h (fun s1=>⟨[(3,vI s1.1),(6,z1 p0),(7,vI (zn p0)),(8,vI s1.2)],[],17⟩) (fun v out=>out=.go (.exit 0) ⟨[(3,vI v)],[],17⟩) (wk_gc (live:=[3,6,7,8]) (keep:=[]) kr) ?_ ?_
 ·intro s1 o h
  unfold g_hidden_sum_int_b0 at h
  refine sq (wp_seq ?_)
  refine wb [9] h (fun q3 h=>?_) (fun q3 h=>?_)
  ·refine wcT (wp_skip (wp_seq (wp_block (wp_seq (reg_in ?_)))))
   refine bind_elim h (fun a4 q5 h=>?_)
   refine idxL' (enc:=eI) (l:=p0) (n:=s1.2) (fl:=true) (w:=1) (a:=a4) kr rfl gE q5 ?_
   refine sz 2 3 (reg_end rfl (rn ?_))
   refine wgc [3,6,7,8] [] ⟨[(3,vI (zw (s1.1+a4))),(6,z1 p0),(7,vI (zn p0)),(8,vI s1.2)],[],17⟩ ?_
   refine rn ?_
   cases h
   exact ⟨_,rfl,(wk_gc (live:=[3,6,7,8]) (keep:=[]) kr)⟩
  refine wcF (wg [3] [] ?_)
  refine wp_exit ?_
  cases h
  exact ⟨kr,rfl⟩
 intro x7 h out hx
 subst hx
 refine sq (wg [2] [] ?_)
 cases h
 exact wp_ret (show fnOut _ _ _ _=_ from by kernel_rfl)
theorem g_hidden_watcher_possible_ok (p0:Thidden_watcher) (x:((List (List Int)) × Int)) (h:g_hidden_watcher_possible p0=some x):CallOk Try.prog 72 [.agg [vI p0.Hidden.Grain,z1 p0.Hidden.First,z2 p0.Hidden.Step,z2 p0.Hidden.Show,z1 p0.seen]] (.ret (.tup [.ref 0 0 x.1.length,vI x.2]) [oR false 1 z1 x.1]):=by
 refine fn_ok [] Try.func72 rfl (by decide +kernel) rfl ?_
 unfold g_hidden_watcher_possible at h
 refine wp_eqB (base':=0) (st':=⟨[(0,.agg [vI p0.Hidden.Grain,z1 p0.Hidden.First,z2 p0.Hidden.Step,z2 p0.Hidden.Show,z1 p0.seen])],[],16⟩) kr kr ?_
 refine wp_seq (reg_in ?_)
 refine sgL false [] [] false gE ?_
 refine sz 2 3 (reg_end rfl (wp_seq (reg_in (sz 1 1 ?_))))
 refine callW bodyB_61 (g_hidden_watcher_forward_ok p0) h (fun x1 _ h=>?_)
 refine sz 1 3 (reg_end rfl (wp_seq (wp_seq (wg [4] [1] (reg_in (sz 4 4 ?_))))))
 refine bind_elim h (fun a3 q4 h=>?_)
 refine idxR' (enc:=z1) (l:=x1) (n:=zw ((zn x1) - 1)) (w:=1) (ob:=0) (ro:=false) (nr:=true) (fl:=false) (a:=a3) kr kr gE q4 ?_
 refine loadR (enc:=z1) (l:=x1) (n:=zw ((zn x1) - 1)) (w:=1) (ob:=0) (c:=0) (bx:=false) (ro:=false) (nr:=true) (fl:=false) (a:=a3) kr kr q4 gE ?_
 refine callW bodyB_79 (g_hidden_sum_int_ok a3) h (fun x5 _ h=>?_)
 refine sz 1 8 (reg_end rfl ?_)
 refine wbz h (fun q8 h=>?_) (fun q8 h=>?_)
 ·refine wp_seq ?_
  refine wgc [] [] ⟨[],[],16⟩ ?_
  refine rn (wg [2,3] [] ?_)
  refine wp_wk (wk_nil 2 1 true false gE) ?_
  cases h
  exact wp_ret (show fnOut _ _ _ _=_ from by kernel_rfl)
 refine wp_skip (wp_seq ?_)
 refine wgc [4] [0] ⟨[(4,.ref 0 0 x1.length)],[oR false 1 z1 x1],16⟩ ?_
 refine rn (wg [2,3] [0] ?_)
 cases h
 exact wp_ret (show fnOut _ _ _ _=_ from by kernel_rfl)
theorem g_weigh_Ratio_ok (p0:Int) (p1:Int) (x:Tapi_Q) (h:g_weigh_Ratio p0 p1=some x):CallOk Try.prog 78 [vI p0,vI p1] (.ret (.agg [vI x.N,vI x.D]) []):=by
 refine fn_ok [] Try.func78 rfl (by decide +kernel) rfl ?_
 unfold g_weigh_Ratio at h
 refine wp_eqB (base':=0) (st':=⟨[(0,vI p0),(1,vI p1)],[],25⟩) kr kr ?_
 refine sq (sq (wp_seq (wp_block ?_)))
 refine wwh h (fun s1=>⟨[(0,vI p0),(1,vI p1),(4,.ptr 0 0 0),(5,vI s1.1),(6,vI s1.2)],[oX true true 2 (.agg [vI 0,vI 0])],25⟩) (fun v out=>out=.go (.exit 0) ⟨[(0,vI p0),(1,vI p1),(4,.ptr 0 0 0),(5,vI v)],[oX true true 2 (.agg [vI 0,vI 0])],25⟩) (wk_gc (live:=[0,1,4,5,6]) (keep:=[0]) kr) ?_ ?_
 ·intro s1 o h
  unfold g_weigh_Ratio_b0 at h
  refine wp_seq (sq ?_)
  refine wb [13] h (fun q3 h=>?_) (fun q3 h=>?_)
  ·refine wcT (wp_skip (wp_block (rga hfol (sy 3 3 ?_))))
   refine remR (k:=.i64) (a:=s1.1) (b:=s1.2) kr gE h (fun h=>?_)
   refine sy 2 6 (rgd ?_)
   cases h
   exact ⟨_,rfl,(wk_gc (live:=[0,1,4,5,6]) (keep:=[0]) kr)⟩
  refine wcF (wg [0,1,4,5] [0] ?_)
  refine wp_exit ?_
  cases h
  exact ⟨kr,rfl⟩
 intro x5 h out hx
 subst hx
 refine wp_seq (rga hfol (sy 2 2 ?_))
 refine quoR (k:=.i64) (a:=p0) (b:=x5) kr gE h (fun h=>?_)
 refine sy 2 5 ?_
 refine quoR (k:=.i64) (a:=p1) (b:=x5) kr gE h (fun h=>?_)
 refine sy 2 8 (rgd (wg [4] [0] ?_))
 cases h
 exact wp_ret (show fnOut _ _ _ _=_ from by kernel_rfl)
theorem g_hidden_divide_int_ok (p0:(List Int)) (x:(List Tapi_Q)) (h:g_hidden_divide_int p0=some x):CallOk Try.prog 73 [z1 p0] (.ret (.ref 0 0 x.length) [oR true 2 eTapi_Q x]):=by
 refine fn_ok [] Try.func73 rfl (by decide +kernel) rfl ?_
 unfold g_hidden_divide_int at h
 refine wp_eqB (base':=0) (st':=⟨[(0,z1 p0)],[],27⟩) kr kr ?_
 refine sq (wp_seq (reg_in (sz 1 1 ?_)))
 refine callW bodyB_79 (g_hidden_sum_int_ok p0) h (fun x1 _ h=>?_)
 refine sz 1 3 (reg_end rfl (wp_seq (reg_in (sz 1 1 ?_))))
 refine lenL (enc:=eI) (l:=p0) (fl:=true) kr gE ?_
 refine mkL (enc:=eTapi_Q) (z:=((Tapi_Q.mk 0 0):Tapi_Q)) (z0:=.agg [vI 0,vI 0]) (n:=(zn p0)) (m:=(zn p0)) (w:=2) (bytes:=16) [] true kr rfl gE kr h (fun h=>?_)
 refine sz 1 4 (reg_end rfl (wp_seq (wp_seq ?_)))
 refine wgc [0,3,4] [0] ⟨[(0,z1 p0),(3,vI x1),(4,.ref 0 0 ((List.replicate (zt (zn p0)) ((Tapi_Q.mk 0 0):Tapi_Q)).length))],[oR true 2 eTapi_Q (List.replicate (zt (zn p0)) ((Tapi_Q.mk 0 0):Tapi_Q))],27⟩ ?_
 refine reg_in (sz 1 1 ?_)
 refine lenL (enc:=eI) (l:=p0) (fl:=true) kr gE ?_
 refine sz 1 3 (reg_end rfl (wp_block ?_))
 refine wwh h (fun s3=>⟨[(3,vI x1),(4,.ref 0 0 s3.2.length),(12,z1 p0),(13,vI (zn p0)),(14,vI s3.1)],[oR true 2 eTapi_Q s3.2],27⟩) (fun v out=>out=.go (.exit 0) ⟨[(4,.ref 0 0 v.length)],[oR true 2 eTapi_Q v],27⟩) (wk_gc (live:=[3,4,12,13,14]) (keep:=[0]) kr) ?_ ?_
 ·intro s3 o h
  unfold g_hidden_divide_int_b0 at h
  refine sq (wp_seq ?_)
  refine wb [15] h (fun q5 h=>?_) (fun q5 h=>?_)
  ·refine wcT (wp_skip (wp_seq (wp_block (wp_seq (reg_in (sz 1 1 ?_))))))
   refine bind_elim h (fun a6 q7 h=>?_)
   refine idxL' (enc:=eI) (l:=p0) (n:=s3.1) (fl:=true) (w:=1) (a:=a6) kr rfl gE q7 ?_
   refine sz 3 5 (reg_end rfl (reg_in (sz 4 4 ?_)))
   refine callW bodyB_78 (g_weigh_Ratio_ok a6 x1) h (fun x8 _ h=>?_)
   refine bind_elim h (fun a10 q11 h=>?_)
   refine idxR' (enc:=eTapi_Q) (l:=s3.2) (n:=s3.1) (w:=2) (ob:=0) (ro:=false) (nr:=true) (fl:=true) (a:=a10) kr kr gE q11 ?_
   refine storeR (enc:=eTapi_Q) (l:=s3.2) (n:=s3.1) (ob:=0) (w:=2) (bx:=false) (nr:=true) (fl:=true) (c:=0) (a:=a10) (a':=x8) (v:=.agg [vI x8.N,vI x8.D]) false kr kr q11 kr rfl kr gE kr ?_
   refine rl [4,19] (n:=s3.2.length) (m:=(List.set s3.2 (zt s3.1) x8).length) (by simp only [List.length_set]) ?_
   refine reg_end rfl ?_
   refine wgc [3,4,12,13,14] [0] ⟨[(3,vI x1),(4,.ref 0 0 ((List.set s3.2 (zt s3.1) x8).length)),(12,z1 p0),(13,vI (zn p0)),(14,vI s3.1)],[oR true 2 eTapi_Q (List.set s3.2 (zt s3.1) x8)],27⟩ ?_
   refine rn ?_
   cases h
   exact ⟨_,rfl,(wk_gc (live:=[3,4,12,13,14]) (keep:=[0]) kr)⟩
  refine wcF (wg [4] [0] ?_)
  refine wp_exit ?_
  cases h
  exact ⟨kr,rfl⟩
 intro x14 h out hx
 subst hx
 refine sq (wg [2] [0] ?_)
 cases h
 exact wp_ret (show fnOut _ _ _ _=_ from by kernel_rfl)
noncomputable abbrev s22_4 (x1:(Thidden_watcher × Int)):List AObj:=[oX true false 5 (.agg [vI x1.1.Hidden.Grain,z1 x1.1.Hidden.First,z2 x1.1.Hidden.Step,z2 x1.1.Hidden.Show,z1 x1.1.seen])]
theorem g_hidden_Predict_ok (p0:Tapi_Hidden) (p1:(List Int)) (p2:Int) (x:((List Tapi_Q) × Int)) (h:g_hidden_Predict p0 p1 p2=some x):CallOk Try.prog 22 [.agg [vI p0.Grain,z1 p0.First,z2 p0.Step,z2 p0.Show],z1 p1,vI p2] (.ret (.tup [.ref 0 0 x.1.length,vI x.2]) [oR true 2 eTapi_Q x.1]):=by
 refine fn_ok [] Try.func22 rfl (by decide +kernel) rfl ?_
 unfold g_hidden_Predict at h
 refine wp_eqB (base':=0) (st':=⟨[(0,.agg [vI p0.Grain,z1 p0.First,z2 p0.Step,z2 p0.Show]),(1,z1 p1),(2,vI p2)],[],51⟩) kr kr ?_
 refine wp_seq (reg_in ?_)
 refine sgL false [] [] false gE ?_
 refine sz 2 3 (reg_end rfl (wp_seq (reg_in (sz 2 2 ?_))))
 refine callW bodyB_60 (g_hidden_newWatcher_ok p0 p1) h (fun x1 _ h=>?_)
 refine sz 3 6 ?_
 refine sgL false [] [] false gE ?_
 refine sz 2 9 (reg_end rfl (wp_seq (wp_seq ?_)))
 refine wgc [1,2,8,9] [1] ⟨[(1,z1 p1),(2,vI p2),(8,.ptr 0 0 0),(9,vI x1.2)],(s22_4 x1),51⟩ ?_
 refine rn ?_
 refine wb [18] h (fun q4 h=>?_) (fun q4 h=>?_)
 ·refine wcT (wp_seq (wg [9] [] (rn (wg [6,7] [] ?_))))
  refine wp_wk (wk_nil 6 2 true true gE) ?_
  cases h
  exact wp_ret (show fnOut _ _ _ _=_ from by kernel_rfl)
 refine wcF (wp_skip (wp_seq (wp_seq (reg_in (sz 3 3 (rwg [1,2,8,22] [0] ?_))))))
 refine rb [22] h (fun q6 h=>?_) (fun q6 h=>?_)
 ·refine sz 6 9 (reg_end rfl (wcT (wp_seq ?_)))
  refine wgc [] [] ⟨[],[],51⟩ ?_
  refine rn (wg [6,7] [] ?_)
  refine wp_wk (wk_nil 6 2 true true gE) ?_
  cases h
  exact wp_ret (show fnOut _ _ _ _=_ from by kernel_rfl)
 refine sz 2 5 ?_
 refine lenL (enc:=eI) (l:=p1) (fl:=true) kr gE ?_
 refine sz 3 9 (reg_end rfl ?_)
 refine wbz h (fun q8 h=>?_) (fun q8 h=>?_)
 ·refine wp_seq ?_
  refine wgc [] [] ⟨[],[],51⟩ ?_
  refine rn (wg [6,7] [] ?_)
  refine wp_wk (wk_nil 6 2 true true gE) ?_
  cases h
  exact wp_ret (show fnOut _ _ _ _=_ from by kernel_rfl)
 refine wp_skip (wp_seq ?_)
 refine wgc [1,2,8] [0] ⟨[(1,z1 p1),(2,vI p2),(8,.ptr 0 0 0)],(s22_4 x1),51⟩ ?_
 refine reg_in (sz 1 1 ?_)
 refine sgL false [] [] true gE ?_
 refine sz 1 3 ?_
 refine callR (as0:=[.ref 1 0 1,vI p2]) (ids:=[1]) (S:=fun x9=>⟨[(1,z1 p1),(2,vI p2),(8,.ptr 0 0 0),(29,z1 p1),(30,.ref 1 0 1),(31,vI p2),(32,.ref 2 0 x9.length)],[oX true false 5 (.agg [vI x1.1.Hidden.Grain,z1 x1.1.Hidden.First,z2 x1.1.Hidden.Step,z2 x1.1.Hidden.Show,z1 x1.1.seen]),.row false false true true 1 [vI (-1)],oR true 1 eI x9],51⟩) kr bodyB_71 (msnap_cons (show snap _ _ _=some (_,[1]) from kr) (msnap_cons rfl msnap_nil (by rfl)) (by rfl)) (fun x9 q10=>g_slices_Repeat_int_int_ok [-1] p2 x9 q10) (fun _=>by as_aux_lemma=>kernel_rfl) h (fun x9 q10 h=>?_)
 refine bsR (parts:=[(0,z1 p1),(1,z1 x9)]) (ids:=[2]) (es:=[(2,.row false true true true 1 (List.map eI x9)),(3,.row false false true (List.all [z1 p1,z1 x9] AV.scs) 1 [z1 p1,z1 x9])]) (S:=⟨[(1,z1 p1),(2,vI p2),(8,.ptr 0 0 0),(29,z1 p1),(30,.ref 1 0 1),(31,vI p2),(32,.ref 2 0 x9.length),(33,.ref 3 0 2)],[oX true false 5 (.agg [vI x1.1.Hidden.Grain,z1 x1.1.Hidden.First,z2 x1.1.Hidden.Step,z2 x1.1.Hidden.Show,z1 x1.1.seen]),.row false false true true 1 [vI (-1)],.row false true true true 1 (List.map eI x9),.row false false true false 1 [z1 p1,z1 x9]],51⟩) [.lst true] false rfl (sparts_keep rfl (sparts_snap rfl (snap_full (w:=1) (bx:=false) (ro:=false) kr) sparts_nil (by rfl))) kr ?_
 refine callR (as0:=[.ref 3 0 2]) (ids:=[3]) kr bodyB_70 (msnap_cons (show snap _ _ _=some (_,[3]) from kr) msnap_nil (by rfl)) (fun x11 q12=>g_slices_Concat_int_int_ok [p1,x9] x11 q12) gF h (fun x11 q12 h=>?_)
 refine sz 2 8 (reg_end rfl (wp_seq (wg [8] [0,4] (reg_in (sz 1 1 ?_)))))
 refine callR (as0:=[.agg [vI x1.1.Hidden.Grain,z1 x1.1.Hidden.First,z2 x1.1.Hidden.Step,z2 x1.1.Hidden.Show,.ref 1 0 x11.length]]) (ids:=[1]) kr bodyB_72 (msnap_cons (snap_agg (msnap_cons rfl (msnap_cons rfl (msnap_cons rfl (msnap_cons rfl (msnap_cons (snap_full (w:=1) (bx:=false) (ro:=false) kr) msnap_nil (by rfl)) (by rfl)) (by rfl)) (by rfl)) (by rfl))) msnap_nil (by rfl)) (fun x13 q14=>g_hidden_watcher_possible_ok (Thidden_watcher.mk x1.1.Hidden x11) x13 q14) gF h (fun x13 q14 h=>?_)
 refine sz 5 7 (reg_end rfl (wp_seq (wp_seq (wg [10,9] [2] (rn ?_)))))
 refine wb [42] h (fun q16 h=>?_) (fun q16 h=>?_)
 ·refine wcT (sq ?_)
  refine wgc [6,7] [] ⟨[(6,.nils),(7,vI x13.2)],[],51⟩ ?_
  refine wp_wk (wk_nil 6 2 true true gE) ?_
  cases h
  exact wp_ret (show fnOut _ _ _ _=_ from by kernel_rfl)
 refine wcF (wp_skip (wp_seq (reg_in (sz 4 4 ?_))))
 refine bind_elim h (fun a17 q18 h=>?_)
 refine idxR' (enc:=z1) (l:=x13.1) (n:=zw ((zn x13.1) - 1)) (w:=1) (ob:=0) (ro:=false) (nr:=true) (fl:=false) (a:=a17) kr kr gE q18 ?_
 refine loadR (enc:=z1) (l:=x13.1) (n:=zw ((zn x13.1) - 1)) (w:=1) (ob:=0) (c:=0) (bx:=false) (ro:=false) (nr:=true) (fl:=false) (a:=a17) kr kr q18 gE ?_
 refine callW bodyB_73 (g_hidden_divide_int_ok a17) h (fun x19 _ h=>?_)
 refine sz 2 9 (reg_end rfl ?_)
 refine wgc [6,7] [1] ⟨[(6,.ref 0 0 x19.length),(7,vI 0)],[oR true 2 eTapi_Q x19],51⟩ ?_
 cases h
 exact wp_ret (show fnOut _ _ _ _=_ from by kernel_rfl)
theorem g_weigh_Whole_ok (p0:Int) (p1:Int) (x:Int) (h:g_weigh_Whole p0 p1=some x):CallOk Try.prog 80 [vI p0,vI p1] (.ret (vI x) []):=by
 refine fn_ok [] Try.func80 rfl (by decide +kernel) rfl ?_
 unfold g_weigh_Whole at h
 refine wp_eqB (base':=0) (st':=⟨[(0,vI p0),(1,vI p1)],[],14⟩) kr kr ?_
 refine sq (sq (wp_seq (sq (wp_block ?_))))
 refine wwh h (fun s1=>⟨[(0,vI p0),(5,vI s1.1),(6,vI p1),(7,vI s1.2)],[],14⟩) (fun v out=>out=.go (.exit 0) ⟨[(5,vI v)],[],14⟩) (wk_gc (live:=[0,5,6,7]) (keep:=[]) kr) ?_ ?_
 ·intro s1 o h
  unfold g_weigh_Whole_b0 at h
  refine sq (wp_seq ?_)
  refine wb [8] h (fun q3 h=>?_) (fun q3 h=>?_)
  ·refine wcT (wp_skip (wp_seq (wp_block (rn (rn ?_)))))
   cases h
   exact ⟨_,rfl,(wk_gc (live:=[0,5,6,7]) (keep:=[]) kr)⟩
  refine wcF (wg [5] [] ?_)
  refine wp_exit ?_
  cases h
  exact ⟨kr,rfl⟩
 intro x5 h out hx
 subst hx
 refine sq (wg [4] [] ?_)
 cases h
 exact wp_ret (show fnOut _ _ _ _=_ from by kernel_rfl)
theorem g_hidden_Prob_ok (p0:Tapi_Hidden) (p1:(List Int)) (x:(Tapi_Q × Int)) (h:g_hidden_Prob p0 p1=some x):CallOk Try.prog 26 [.agg [vI p0.Grain,z1 p0.First,z2 p0.Step,z2 p0.Show],z1 p1] (.ret (.tup [.agg [vI x.1.N,vI x.1.D],vI x.2]) []):=by
 refine fn_ok [] Try.func26 rfl (by decide +kernel) rfl ?_
 unfold g_hidden_Prob at h
 refine wp_eqB (base':=0) (st':=⟨[(0,.agg [vI p0.Grain,z1 p0.First,z2 p0.Step,z2 p0.Show]),(1,z1 p1)],[],34⟩) kr kr ?_
 refine wp_seq (reg_in ?_)
 refine sgL false [] [] false gE ?_
 refine sz 2 3 (reg_end rfl (wp_seq (reg_in (sz 2 2 ?_))))
 refine callW bodyB_60 (g_hidden_newWatcher_ok p0 p1) h (fun x1 _ h=>?_)
 refine sz 3 6 ?_
 refine sgL false [] [] false gE ?_
 refine sz 2 9 (reg_end rfl (wp_seq (wp_seq ?_)))
 refine wgc [1,4,6,7] [1,2] ⟨[(1,z1 p1),(4,.ptr 0 0 0),(6,.ptr 1 0 0),(7,vI x1.2)],[oX true true 2 (.agg [vI 0,vI 0]),oX true false 5 (.agg [vI x1.1.Hidden.Grain,z1 x1.1.Hidden.First,z2 x1.1.Hidden.Step,z2 x1.1.Hidden.Show,z1 x1.1.seen])],34⟩ ?_
 refine rn ?_
 refine wb [15] h (fun q4 h=>?_) (fun q4 h=>?_)
 ·refine wcT (sq (wg [4,5] [0] ?_))
  cases h
  exact wp_ret (show fnOut _ _ _ _=_ from by kernel_rfl)
 refine wcF (wp_skip (wp_seq (rga hfol (sy 1 1 ?_))))
 refine callW bodyB_61 (fun x5 q6=>CallOk.froz (g_hidden_watcher_forward_ok x1.1 x5 q6) (snap_full (w:=1) (bx:=false) (ro:=false) rfl)) h (fun x5 q6 h=>?_)
 refine sy 1 3 ?_
 refine lenL (enc:=eI) (l:=p1) (fl:=true) kr gE ?_
 refine sy 1 5 ?_
 refine bind_elim h (fun a7 q8 h=>?_)
 refine idxL' (enc:=z1) (l:=x5) (n:=zw ((zn p1) - 1)) (fl:=false) (w:=1) (a:=a7) kr rfl gE q8 ?_
 refine sy 1 7 ?_
 refine callW bodyB_79 (g_hidden_sum_int_ok a7) h (fun x9 _ h=>?_)
 refine sy 4 12 ?_
 refine lenL (enc:=eI) (l:=p1) (fl:=true) kr gE ?_
 refine sy 1 14 ?_
 refine callW bodyB_80 (g_weigh_Whole_ok x1.1.Hidden.Grain (zw (2*(zn p1)))) h (fun x11 _ h=>?_)
 refine callW bodyB_78 (g_weigh_Ratio_ok x9 x11) h (fun x13 _ h=>?_)
 refine sy 2 18 (rgd ?_)
 refine wgc [4,5] [0] ⟨[(4,.ptr 0 0 0),(5,vI 0)],[oX true true 2 (.agg [vI x13.N,vI x13.D])],34⟩ ?_
 cases h
 exact wp_ret (show fnOut _ _ _ _=_ from by kernel_rfl)
theorem g_ref01_cut_ok (p0:(List Int)) (x:(List Int)) (h:g_ref01_cut p0=some x):CallOk Try.prog 126 [z1 p0] (.ret (z1 x) []):=by
 refine fn_ok [[.lst true]] Try.func126 rfl (by decide +kernel) rfl ?_
 unfold g_ref01_cut at h
 refine wp_eqB (base':=0) (st':=⟨[(0,z1 p0)],[],21⟩) kr kr ?_
 refine sq (wp_seq (wp_block ?_))
 refine wwh h (fun s1=>⟨[(0,z1 s1)],[],21⟩) (fun v out=>out=.go (.exit 0) ⟨[(0,z1 v)],[],21⟩) (wk_gc (live:=[0]) (keep:=[]) kr) ?_ ?_
 ·intro s1 o h
  unfold g_ref01_cut_b0 at h
  refine wp_seq (wp_seq (reg_in (sz 1 1 ?_)))
  refine lenL (enc:=eI) (l:=s1) (fl:=true) kr gE ?_
  refine sz 2 4 ?_
  refine rb [5,6] h (fun q3 h=>?_) (fun q3 h=>?_)
  ·refine sz 2 6 ?_
   refine lenL (enc:=eI) (l:=s1) (fl:=true) kr gE ?_
   refine sz 1 8 ?_
   refine bind_elim h (fun a4 q5 h=>?_)
   refine idxL' (enc:=eI) (l:=s1) (n:=zw ((zn s1) - 1)) (fl:=true) (w:=1) (a:=a4) kr rfl gE q5 ?_
   refine sz 3 12 (reg_end rfl ?_)
   refine wbz h (fun q7 h=>?_) (fun q7 h=>?_)
   ·refine wp_skip (wp_block ?_)
    refine wgc [0] [] ⟨[(0,z1 s1)],[],21⟩ ?_
    refine reg_in (sz 2 2 ?_)
    refine lenL (enc:=eI) (l:=s1) (fl:=true) kr gE ?_
    refine sz 1 4 ?_
    refine sliceL (enc:=eI) (l:=s1) (fl:=true) (lo:=none) (hi:=(some (vI (zw ((zn s1) - 1))))) (a:=0) (b:=zw ((zn s1) - 1)) (w:=1) kr (fun _=>rfl) rfl rfl gE h (fun h=>?_)
    refine sz 1 6 (reg_end rfl ?_)
    cases h
    exact ⟨_,rfl,(wk_gc (live:=[0]) (keep:=[]) kr)⟩
   refine wgc [0] [] ⟨[(0,z1 s1)],[],21⟩ ?_
   refine wp_exit ?_
   cases h
   exact ⟨kr,rfl⟩
  refine sz 8 12 (reg_end rfl (wcF (wg [0] [] ?_)))
  refine wp_exit ?_
  cases h
  exact ⟨kr,rfl⟩
 intro x9 h out hx
 subst hx
 refine sq (wg [2] [] ?_)
 cases h
 exact wp_ret (show fnOut _ _ _ _=_ from by kernel_rfl)
theorem g_ref01_compare_ok (p0:(List Int)) (p1:(List Int)) (x:Int) (h:g_ref01_compare p0 p1=some x):CallOk Try.prog 127 [z1 p0,z1 p1] (.ret (vI x) []):=by
 refine fn_ok [] Try.func127 rfl (by decide +kernel) rfl ?_
 unfold g_ref01_compare at h
 refine wp_eqB (base':=0) (st':=⟨[(0,z1 p0),(1,z1 p1)],[],41⟩) kr kr ?_
 refine sq (wp_seq (wp_seq (reg_in (sz 1 1 ?_))))
 refine lenL (enc:=eI) (l:=p0) (fl:=true) kr gE ?_
 refine sz 1 3 ?_
 refine lenL (enc:=eI) (l:=p1) (fl:=true) kr gE ?_
 refine sz 1 5 (reg_end rfl ?_)
 refine wbz h (fun q2 h=>?_) (fun q2 h=>?_)
 ·refine wp_seq (wp_seq (wg [0,1] [] (reg_in (sz 1 1 ?_))))
  refine lenL (enc:=eI) (l:=p0) (fl:=true) kr gE ?_
  refine sz 1 3 ?_
  refine lenL (enc:=eI) (l:=p1) (fl:=true) kr gE ?_
  refine sz 1 5 (reg_end rfl ?_)
  refine wbz h (fun q4 h=>?_) (fun q4 h=>?_)
  ·refine wp_seq ?_
   refine wgc [] [] ⟨[],[],41⟩ ?_
   refine rn (wg [4] [] ?_)
   cases h
   exact wp_ret (show fnOut _ _ _ _=_ from by kernel_rfl)
  refine wp_skip (wp_seq ?_)
  refine wgc [] [] ⟨[],[],41⟩ ?_
  refine rn (wg [4] [] ?_)
  cases h
  exact wp_ret (show fnOut _ _ _ _=_ from by kernel_rfl)
 refine wp_skip (wp_seq (wp_seq (wg [0,1] [] (reg_in (sz 1 1 ?_)))))
 refine lenL (enc:=eI) (l:=p0) (fl:=true) kr gE ?_
 refine sz 2 4 (reg_end rfl (wp_block ?_))
 refine wwh h (fun s5=>⟨[(0,z1 p0),(1,z1 p1),(5,vI s5)],[],41⟩) (fun x out=>out=match x with | .inl v=>.go (.ret) ⟨[(4,vI v)],[],41⟩ | .inr v=>.go (.exit 0) ⟨[],[],41⟩) (wk_gc (live:=[0,1,5]) (keep:=[]) kr) ?_ ?_
 ·intro s5 o h
  unfold g_ref01_compare_b0 at h
  refine wp_seq (sq ?_)
  refine wb [20] h (fun q7 h=>?_) (fun q7 h=>?_)
  ·refine wcT (wp_skip (wp_seq (wp_block (wp_seq (rga hfol (sy 2 2 ?_))))))
   refine bind_elim h (fun a8 q9 h=>?_)
   refine idxL' (enc:=eI) (l:=p0) (n:=s5) (fl:=true) (w:=1) (a:=a8) kr rfl gE q9 ?_
   refine sy 3 6 ?_
   refine bind_elim h (fun a10 q11 h=>?_)
   refine idxL' (enc:=eI) (l:=p1) (n:=s5) (fl:=true) (w:=1) (a:=a10) kr rfl gE q11 ?_
   refine sy 2 9 (rgd ?_)
   refine wbz h (fun q13 h=>?_) (fun q13 h=>?_)
   ·refine wp_seq (wp_seq ?_)
    refine wgc [0,1,5] [] ⟨[(0,z1 p0),(1,z1 p1),(5,vI s5)],[],41⟩ ?_
    refine rga hfol (sy 2 2 ?_)
    refine idxL' (enc:=eI) (l:=p0) (n:=s5) (fl:=true) (w:=1) (a:=a8) kr rfl gE q9 ?_
    refine sy 3 6 ?_
    refine idxL' (enc:=eI) (l:=p1) (n:=s5) (fl:=true) (w:=1) (a:=a10) kr rfl gE q11 ?_
    refine sy 2 9 (rgd ?_)
    refine wbz h (fun q15 h=>?_) (fun q15 h=>?_)
    ·refine wp_seq (wg [] [] (rn (wg [4] [] ?_)))
     refine wp_ret ?_
     cases h
     exact ⟨kr,rfl⟩
    refine wp_skip (wp_seq (wg [] [] (rn ?_)))
    refine wgc [4] [] ⟨[(4,vI 1)],[],41⟩ ?_
    refine wp_ret ?_
    cases h
    exact ⟨kr,rfl⟩
   refine wp_skip ?_
   refine wgc [0,1,5] [] ⟨[(0,z1 p0),(1,z1 p1),(5,vI s5)],[],41⟩ ?_
   refine rn ?_
   cases h
   exact ⟨_,rfl,(wk_gc (live:=[0,1,5]) (keep:=[]) kr)⟩
  refine wcF (wg [] [] ?_)
  refine wp_exit ?_
  cases h
  exact ⟨kr,rfl⟩
 intro x16 h out hx
 subst hx
 rcases x16 with x17 | x18
 ·dsimp only at h ⊢
  cases h
  show fnOut _ _ _ _=_
  kernel_rfl
 ·dsimp only at h ⊢
  refine sq (wg [4] [] ?_)
  cases h
  exact wp_ret (show fnOut _ _ _ _=_ from by kernel_rfl)
theorem g_ref01_times_ok (p0:(List Int)) (p1:(List Int)) (x:(List Int)) (h:g_ref01_times p0 p1=some x):CallOk Try.prog 128 [z1 p0,z1 p1] (.ret (z1 x) []):=by
 refine fn_ok [[.lst true]] Try.func128 rfl (by decide +kernel) rfl ?_
 unfold g_ref01_times at h
 refine wp_eqB (base':=0) (st':=⟨[(0,z1 p0),(1,z1 p1)],[],65⟩) kr kr ?_
 refine sq (wp_seq (reg_in (sz 1 1 ?_)))
 refine lenL (enc:=eI) (l:=p0) (fl:=true) kr gE ?_
 refine sz 1 3 ?_
 refine lenL (enc:=eI) (l:=p1) (fl:=true) kr gE ?_
 refine sz 1 5 ?_
 refine mkL (enc:=eI) (z:=(0:Int)) (z0:=vI 0) (n:=zw ((zn p0)+(zn p1))) (m:=zw ((zn p0)+(zn p1))) (w:=1) (bytes:=8) [] true kr rfl gE kr h (fun h=>?_)
 refine sz 1 7 (reg_end rfl (wp_seq (wp_seq (wg [0,1,5] [0] (rn (wp_block ?_))))))
 refine wwh h (fun s1=>⟨[(0,z1 p0),(1,z1 p1),(5,.ref 0 0 s1.2.length),(6,vI s1.1)],[oR true 1 eI s1.2],65⟩) (fun v out=>out=.go (.exit 0) ⟨[(5,.ref 0 0 v.length)],[oR true 1 eI v],65⟩) (wk_gc (live:=[0,1,5,6]) (keep:=[0]) kr) ?_ ?_
 ·intro s1 o h
  unfold g_ref01_times_b1 at h
  refine wp_seq (wp_seq (reg_in (sz 2 2 ?_)))
  refine lenL (enc:=eI) (l:=p0) (fl:=true) kr gE ?_
  refine sz 1 4 (reg_end rfl ?_)
  refine wb [18] h (fun q3 h=>?_) (fun q3 h=>?_)
  ·refine wcT (wp_skip (wp_seq (wp_block (sq (sq (wp_block ?_))))))
   refine wwh h (fun s4=>⟨[(0,z1 p0),(1,z1 p1),(5,.ref 0 0 s4.2.2.length),(6,vI s1.1),(7,vI s4.1),(8,vI s4.2.1)],[oR true 1 eI s4.2.2],65⟩) (fun v out=>out=.go (.exit 2) ⟨[(0,z1 p0),(1,z1 p1),(5,.ref 0 0 v.length),(6,vI s1.1)],[oR true 1 eI v],65⟩) (wk_gc (live:=[0,1,5,6,7,8]) (keep:=[0]) kr) ?_ ?_
   ·intro s4 o h
    unfold g_ref01_times_b0 at h
    refine wp_seq (wp_seq (reg_in (sz 2 2 ?_)))
    refine lenL (enc:=eI) (l:=p1) (fl:=true) kr gE ?_
    refine sz 2 5 (rwg [0,1,5,6,7,8,25] [0] ?_)
    refine rb [25] h (fun q6 h=>?_) (fun q6 h=>?_)
    ·refine sz 3 8 (reg_end rfl (wcT (wp_skip (wp_seq (wp_block (wp_seq (reg_in (sz 5 5 ?_))))))))
     refine bind_elim h (fun a7 q8 h=>?_)
     refine idxR' (enc:=eI) (l:=s4.2.2) (n:=zw (s1.1+s4.2.1)) (w:=1) (ob:=0) (ro:=false) (nr:=true) (fl:=true) (a:=a7) kr kr gE q8 ?_
     refine loadR (enc:=eI) (l:=s4.2.2) (n:=zw (s1.1+s4.2.1)) (w:=1) (ob:=0) (c:=0) (bx:=false) (ro:=false) (nr:=true) (fl:=true) (a:=a7) kr kr q8 gE ?_
     refine sz 2 9 (reg_end rfl (wp_seq (wp_seq ?_)))
     refine wgc [0,1,5,6,7,8] [0] ⟨[(0,z1 p0),(1,z1 p1),(5,.ref 0 0 s4.2.2.length),(6,vI s1.1),(7,vI (zw (s4.1+a7))),(8,vI s4.2.1)],[oR true 1 eI s4.2.2],65⟩ ?_
     refine reg_in (sz 2 2 ?_)
     refine lenL (enc:=eI) (l:=p1) (fl:=true) kr gE ?_
     refine sz 1 4 (reg_end rfl ?_)
     refine wk [42] q6 ?_
     refine wcT (rga hfol (sy 3 3 ?_))
     refine bind_elim h (fun a10 q11 h=>?_)
     refine idxL' (enc:=eI) (l:=p0) (n:=s1.1) (fl:=true) (w:=1) (a:=a10) kr rfl gE q11 ?_
     refine sy 3 7 ?_
     refine bind_elim h (fun a12 q13 h=>?_)
     refine idxL' (enc:=eI) (l:=p1) (n:=s4.2.1) (fl:=true) (w:=1) (a:=a12) kr rfl gE q13 ?_
     refine sy 4 12 (rgd (wp_seq ?_))
     refine wgc [0,1,5,6,7,8] [0] ⟨[(0,z1 p0),(1,z1 p1),(5,.ref 0 0 s4.2.2.length),(6,vI s1.1),(7,vI (zw ((zw (s4.1+a7))+(zw (a10*a12))))),(8,vI s4.2.1)],[oR true 1 eI s4.2.2],65⟩ ?_
     refine reg_in (sz 6 6 ?_)
     refine idxR' (enc:=eI) (l:=s4.2.2) (n:=zw (s1.1+s4.2.1)) (w:=1) (ob:=0) (ro:=false) (nr:=true) (fl:=true) (a:=a7) kr kr gE q8 ?_
     refine bind_elim h (fun a14 q15 h=>?_)
     refine storeR (enc:=eI) (l:=s4.2.2) (n:=(zw (s1.1+s4.2.1))) (ob:=0) (w:=1) (bx:=false) (nr:=true) (fl:=true) (c:=0) (a:=a14) (a':=Int.tmod (zw ((zw (s4.1+a7))+(zw (a10*a12)))) 10000) (v:=vI (Int.tmod (zw ((zw (s4.1+a7))+(zw (a10*a12)))) 10000)) false kr kr q15 kr rfl kr gE kr ?_
     refine rl [5,54] (n:=s4.2.2.length) (m:=(List.set s4.2.2 (zt (zw (s1.1+s4.2.1))) (Int.tmod (zw ((zw (s4.1+a7))+(zw (a10*a12)))) 10000)).length) (by simp only [List.length_set]) ?_
     refine reg_end rfl (wg [0,1,5,6,7,8] [0] (rn (rn ?_)))
     cases h
     exact ⟨_,rfl,(wk_gc (live:=[0,1,5,6,7,8]) (keep:=[0]) kr)⟩
    refine sz 3 8 (reg_end rfl ?_)
    refine wb [27,28] h (fun q18 h=>?_) (fun q18 h=>?_)
    ·refine wcT (wp_skip (wp_seq (wp_block (wp_seq (reg_in (sz 5 5 ?_))))))
     refine bind_elim h (fun a19 q20 h=>?_)
     refine idxR' (enc:=eI) (l:=s4.2.2) (n:=zw (s1.1+s4.2.1)) (w:=1) (ob:=0) (ro:=false) (nr:=true) (fl:=true) (a:=a19) kr kr gE q20 ?_
     refine loadR (enc:=eI) (l:=s4.2.2) (n:=zw (s1.1+s4.2.1)) (w:=1) (ob:=0) (c:=0) (bx:=false) (ro:=false) (nr:=true) (fl:=true) (a:=a19) kr kr q20 gE ?_
     refine sz 2 9 (reg_end rfl (wp_seq (wp_seq ?_)))
     refine wgc [0,1,5,6,7,8] [0] ⟨[(0,z1 p0),(1,z1 p1),(5,.ref 0 0 s4.2.2.length),(6,vI s1.1),(7,vI (zw (s4.1+a19))),(8,vI s4.2.1)],[oR true 1 eI s4.2.2],65⟩ ?_
     refine reg_in (sz 2 2 ?_)
     refine lenL (enc:=eI) (l:=p1) (fl:=true) kr gE ?_
     refine sz 1 4 (reg_end rfl ?_)
     refine wk [42] q6 ?_
     refine wcF (wp_skip (wp_seq (reg_in (sz 6 6 ?_))))
     refine idxR' (enc:=eI) (l:=s4.2.2) (n:=zw (s1.1+s4.2.1)) (w:=1) (ob:=0) (ro:=false) (nr:=true) (fl:=true) (a:=a19) kr kr gE q20 ?_
     refine bind_elim h (fun a22 q23 h=>?_)
     refine storeR (enc:=eI) (l:=s4.2.2) (n:=(zw (s1.1+s4.2.1))) (ob:=0) (w:=1) (bx:=false) (nr:=true) (fl:=true) (c:=0) (a:=a22) (a':=Int.tmod (zw (s4.1+a19)) 10000) (v:=vI (Int.tmod (zw (s4.1+a19)) 10000)) false kr kr q23 kr rfl kr gE kr ?_
     refine rl [5,54] (n:=s4.2.2.length) (m:=(List.set s4.2.2 (zt (zw (s1.1+s4.2.1))) (Int.tmod (zw (s4.1+a19)) 10000)).length) (by simp only [List.length_set]) ?_
     refine reg_end rfl ?_
     refine wgc [0,1,5,6,7,8] [0] ⟨[(0,z1 p0),(1,z1 p1),(5,.ref 0 0 ((List.set s4.2.2 (zt (zw (s1.1+s4.2.1))) (Int.tmod (zw (s4.1+a19)) 10000)).length)),(6,vI s1.1),(7,vI (zw (s4.1+a19))),(8,vI s4.2.1)],[oR true 1 eI (List.set s4.2.2 (zt (zw (s1.1+s4.2.1))) (Int.tmod (zw (s4.1+a19)) 10000))],65⟩ ?_
     refine rn (rn ?_)
     cases h
     exact ⟨_,rfl,(wk_gc (live:=[0,1,5,6,7,8]) (keep:=[0]) kr)⟩
    refine wcF (wg [0,1,5,6] [0] ?_)
    refine wp_exit ?_
    cases h
    exact ⟨kr,rfl⟩
   intro x26 h out hx
   subst hx
   refine rn ?_
   cases h
   exact ⟨_,rfl,(wk_gc (live:=[0,1,5,6]) (keep:=[0]) kr)⟩
  refine wcF (wg [5] [0] ?_)
  refine wp_exit ?_
  cases h
  exact ⟨kr,rfl⟩
 intro x28 h out hx
 subst hx
 refine wp_seq (reg_in (sz 1 1 ?_))
 refine callR (as0:=[.ref 0 0 x28.length]) (ids:=[0]) kr bodyB_126 (msnap_cons (snap_full (w:=1) (bx:=false) (ro:=false) kr) msnap_nil (by rfl)) (fun x29 q30=>g_ref01_cut_ok x28 x29 q30) gF h (fun x29 q30 h=>?_)
 refine sz 1 3 (reg_end rfl (wg [4] [] ?_))
 cases h
 exact wp_ret (show fnOut _ _ _ _=_ from by kernel_rfl)
theorem g_ref01_minus_ok (p0:(List Int)) (p1:(List Int)) (x:(List Int)) (h:g_ref01_minus p0 p1=some x):CallOk Try.prog 129 [z1 p0,z1 p1] (.ret (z1 x) []):=by
 refine fn_ok [[.lst true]] Try.func129 rfl (by decide +kernel) rfl ?_
 unfold g_ref01_minus at h
 refine wp_eqB (base':=0) (st':=⟨[(0,z1 p0),(1,z1 p1)],[],41⟩) kr kr ?_
 refine sq (sq (sq (wp_seq (sq (wp_block ?_)))))
 refine wwh h (fun s1=>⟨[(0,z1 p0),(1,z1 p1),(5,.ref 0 0 s1.2.2.length),(6,vI s1.1),(7,vI s1.2.1)],[oR true 1 eI s1.2.2],41⟩) (fun v out=>out=.go (.exit 0) ⟨[(5,.ref 0 0 v.length)],[oR true 1 eI v],41⟩) (wk_trans (wk_gc (live:=[0,1,5,6,7]) (keep:=[]) (st':=⟨[(0,z1 p0),(1,z1 p1),(5,.nils),(6,vI 0),(7,vI 0)],[],41⟩) kr) (wk_trans (wk_nil 5 1 true true (st':=⟨[(0,z1 p0),(1,z1 p1),(5,.ref 0 0 0),(6,vI 0),(7,vI 0)],[.row false false true true 1 []],41⟩) kr) (wk_gc (live:=[0,1,5,6,7]) (keep:=[0]) kr))) ?_ ?_
 ·intro s1 o h
  unfold g_ref01_minus_b0 at h
  refine wp_seq (wp_seq (reg_in (sz 2 2 ?_)))
  refine lenL (enc:=eI) (l:=p0) (fl:=true) kr gE ?_
  refine sz 1 4 (reg_end rfl ?_)
  refine wb [12] h (fun q3 h=>?_) (fun q3 h=>?_)
  ·refine wcT (wp_skip (wp_seq (wp_block (wp_seq (reg_in (sz 2 2 ?_))))))
   refine bind_elim h (fun a4 q5 h=>?_)
   refine idxL' (enc:=eI) (l:=p0) (n:=s1.2.1) (fl:=true) (w:=1) (a:=a4) kr rfl gE q5 ?_
   refine sz 4 7 (reg_end rfl (wp_seq (wp_seq ?_)))
   refine wgc [0,1,5,7,8] [0] ⟨[(0,z1 p0),(1,z1 p1),(5,.ref 0 0 s1.2.2.length),(7,vI s1.2.1),(8,vI (zw (a4 - s1.1)))],[oR true 1 eI s1.2.2],41⟩ ?_
   refine reg_in (sz 2 2 ?_)
   refine lenL (enc:=eI) (l:=p1) (fl:=true) kr gE ?_
   refine sz 1 4 (reg_end rfl ?_)
   refine wb [24] h (fun q7 h=>?_) (fun q7 h=>?_)
   ·refine wcT (reg_in (sz 3 3 ?_))
    refine bind_elim h (fun a8 q9 h=>?_)
    refine idxL' (enc:=eI) (l:=p1) (n:=s1.2.1) (fl:=true) (w:=1) (a:=a8) kr rfl gE q9 ?_
    refine sz 3 7 (reg_end rfl (wp_seq ?_))
    refine wgc [0,1,5,7,8] [0] ⟨[(0,z1 p0),(1,z1 p1),(5,.ref 0 0 s1.2.2.length),(7,vI s1.2.1),(8,vI (zw ((zw (a4 - s1.1)) - a8)))],[oR true 1 eI s1.2.2],41⟩ ?_
    refine rn (wp_seq (sq ?_))
    refine wb [32] h (fun q11 h=>?_) (fun q11 h=>?_)
    ·refine wcT (sq (wg [0,1,5,7,8] [0] (rn (reg_in (sz 2 2 ?_)))))
     refine sgL false [] [] true gE ?_
     refine appR (enc:=eI) (l:=s1.2.2) (m:=([zw ((zw ((zw (a4 - s1.1)) - a8))+10000)]:(List Int))) (w:=1) (bytes:=8) (ob:=0) (nr:=true) (fl:=true) (nr':=true) (fl':=true) (b:=.ref 1 0 1) (rds:=[1]) false kr kr kr rfl gE kr h (fun h=>?_)
     refine sz 1 5 (reg_end rfl ?_)
     refine wgc [0,1,5,7,6] [2] ⟨[(0,z1 p0),(1,z1 p1),(5,.ref 0 0 ((s1.2.2++([zw ((zw ((zw (a4 - s1.1)) - a8))+10000)]:(List Int))).length)),(7,vI s1.2.1),(6,vI 1)],[oR true 1 eI (s1.2.2++([zw ((zw ((zw (a4 - s1.1)) - a8))+10000)]:(List Int)))],41⟩ ?_
     refine rn ?_
     cases h
     exact ⟨_,rfl,(wk_gc (live:=[0,1,5,6,7]) (keep:=[0]) kr)⟩
    refine wcF (wp_skip (reg_in (sz 2 2 ?_)))
    refine sgL false [] [] true gE ?_
    refine appR (enc:=eI) (l:=s1.2.2) (m:=([zw ((zw (a4 - s1.1)) - a8)]:(List Int))) (w:=1) (bytes:=8) (ob:=0) (nr:=true) (fl:=true) (nr':=true) (fl':=true) (b:=.ref 1 0 1) (rds:=[1]) false kr kr kr rfl gE kr h (fun h=>?_)
    refine sz 1 5 (reg_end rfl ?_)
    refine wgc [0,1,5,7,6] [2] ⟨[(0,z1 p0),(1,z1 p1),(5,.ref 0 0 ((s1.2.2++([zw ((zw (a4 - s1.1)) - a8)]:(List Int))).length)),(7,vI s1.2.1),(6,vI 0)],[oR true 1 eI (s1.2.2++([zw ((zw (a4 - s1.1)) - a8)]:(List Int)))],41⟩ ?_
    refine rn ?_
    cases h
    exact ⟨_,rfl,(wk_gc (live:=[0,1,5,6,7]) (keep:=[0]) kr)⟩
   refine wcF (wp_skip (sq (wp_seq (sq ?_))))
   refine wbz h (fun q13 h=>?_) (fun q13 h=>?_)
   ·refine wp_seq ?_
    refine wgc [0,1,5,7,8] [0] ⟨[(0,z1 p0),(1,z1 p1),(5,.ref 0 0 s1.2.2.length),(7,vI s1.2.1),(8,vI (zw (a4 - s1.1)))],[oR true 1 eI s1.2.2],41⟩ ?_
    refine rn (rn (reg_in (sz 2 2 ?_)))
    refine sgL false [] [] true gE ?_
    refine appR (enc:=eI) (l:=s1.2.2) (m:=([zw ((zw (a4 - s1.1))+10000)]:(List Int))) (w:=1) (bytes:=8) (ob:=0) (nr:=true) (fl:=true) (nr':=true) (fl':=true) (b:=.ref 1 0 1) (rds:=[1]) false kr kr kr rfl gE kr h (fun h=>?_)
    refine sz 1 5 (reg_end rfl (wg [0,1,5,7,6] [2] (rn ?_)))
    cases h
    exact ⟨_,rfl,(wk_gc (live:=[0,1,5,6,7]) (keep:=[0]) kr)⟩
   refine wp_skip ?_
   refine wgc [0,1,5,7,8,6] [0] ⟨[(0,z1 p0),(1,z1 p1),(5,.ref 0 0 s1.2.2.length),(7,vI s1.2.1),(8,vI (zw (a4 - s1.1))),(6,vI 0)],[oR true 1 eI s1.2.2],41⟩ ?_
   refine reg_in (sz 2 2 ?_)
   refine sgL false [] [] true gE ?_
   refine appR (enc:=eI) (l:=s1.2.2) (m:=([zw (a4 - s1.1)]:(List Int))) (w:=1) (bytes:=8) (ob:=0) (nr:=true) (fl:=true) (nr':=true) (fl':=true) (b:=.ref 1 0 1) (rds:=[1]) false kr kr kr rfl gE kr h (fun h=>?_)
   refine sz 1 5 (reg_end rfl (wg [0,1,5,7,6] [2] (rn ?_)))
   cases h
   exact ⟨_,rfl,(wk_gc (live:=[0,1,5,6,7]) (keep:=[0]) kr)⟩
  refine wcF (wg [5] [0] ?_)
  refine wp_exit ?_
  cases h
  exact ⟨kr,rfl⟩
 intro x15 h out hx
 subst hx
 refine wp_seq (reg_in (sz 1 1 ?_))
 refine callR (as0:=[.ref 0 0 x15.length]) (ids:=[0]) kr bodyB_126 (msnap_cons (snap_full (w:=1) (bx:=false) (ro:=false) kr) msnap_nil (by rfl)) (fun x16 q17=>g_ref01_cut_ok x15 x16 q17) gF h (fun x16 q17 h=>?_)
 refine sz 1 3 (reg_end rfl (wg [4] [] ?_))
 cases h
 exact wp_ret (show fnOut _ _ _ _=_ from by kernel_rfl)
theorem g_ref01_divide_ok (p0:(List Int)) (p1:(List Int)) (x:((List Int) × (List Int))) (h:g_ref01_divide p0 p1=some x):CallOk Try.prog 115 [z1 p0,z1 p1] (.ret (.tup [z1 x.1,z1 x.2]) []):=by
 refine fn_ok [[.lst true],[.lst true]] Try.func115 rfl (by decide +kernel) rfl ?_
 unfold g_ref01_divide at h
 refine wp_eqB (base':=0) (st':=⟨[(0,z1 p0),(1,z1 p1)],[],124⟩) kr kr ?_
 refine sq (wp_seq (reg_in (sz 1 1 ?_)))
 refine lenL (enc:=eI) (l:=p1) (fl:=true) kr gE ?_
 refine sz 2 4 (reg_end rfl (wp_seq (wp_seq (wg [0,1,6] [] (reg_in (sz 1 1 ?_))))))
 refine lenL (enc:=eI) (l:=p0) (fl:=true) kr gE ?_
 refine sz 2 4 (reg_end rfl ?_)
 refine wb [22] h (fun q2 h=>?_) (fun q2 h=>?_)
 ·refine wcT (wp_seq ?_)
  refine wgc [0] [] ⟨[(0,z1 p0)],[],124⟩ ?_
  refine reg_in (sz 2 2 ?_)
  refine appN (enc:=eI) (m:=p0) (w:=1) (bytes:=8) (nr':=true) (fl':=true) (a:=.emp) (b:=z1 p0) (rds:=[]) false kr (.inr rfl) (elems_lst (fun _=>rfl)) rfl gE kr h (fun h=>?_)
  refine sz 2 5 (reg_end rfl ?_)
  refine wgc [4,5] [0] ⟨[(4,.nils),(5,.ref 0 0 p0.length)],[oR true 1 eI p0],124⟩ ?_
  refine wp_wk (wk_snap 5 (st':=⟨[(4,.nils),(5,z1 p0)],[.row false true true true 1 (List.map eI p0)],124⟩) (y:=z1 p0) (ids:=[0]) rfl (snap_full (w:=1) (bx:=false) (ro:=false) kr) kr) ?_
  cases h
  exact wp_ret (show fnOut _ _ _ _=_ from by kernel_rfl)
 refine wcF (wp_skip (wp_seq (reg_in (sz 1 1 ?_))))
 refine lenL (enc:=eI) (l:=p0) (fl:=true) kr gE ?_
 refine sz 2 4 ?_
 refine mkL (enc:=eI) (z:=(0:Int)) (z0:=vI 0) (n:=zw ((zn p0) - (zw ((zn p1) - 1)))) (m:=zw ((zn p0) - (zw ((zn p1) - 1)))) (w:=1) (bytes:=8) [] true kr rfl gE kr h (fun h=>?_)
 refine sz 1 6 (reg_end rfl (wp_seq ?_))
 refine wgc [0,1,6,7] [0] ⟨[(0,z1 p0),(1,z1 p1),(6,vI (zw ((zn p1) - 1))),(7,.ref 0 0 ((List.replicate (zt (zw ((zn p0) - (zw ((zn p1) - 1))))) (0:Int)).length))],[oR true 1 eI (List.replicate (zt (zw ((zn p0) - (zw ((zn p1) - 1))))) (0:Int))],124⟩ ?_
 refine reg_in (sz 3 3 ?_)
 refine lenL (enc:=eI) (l:=p0) (fl:=true) kr gE ?_
 refine sz 2 6 ?_
 refine sliceL (enc:=eI) (l:=p0) (fl:=true) (lo:=(some (vI (zw ((zn p0) - (zw ((zn p1) - 1))))))) (hi:=none) (a:=zw ((zn p0) - (zw ((zn p1) - 1)))) (b:=(zn p0)) (w:=1) kr (fun _=>rfl) rfl rfl gE h (fun h=>?_)
 refine appN (enc:=eI) (m:=(sub p0 (zw ((zn p0) - (zw ((zn p1) - 1)))) (zn p0))) (w:=1) (bytes:=8) (nr':=true) (fl':=true) (a:=.emp) (b:=z1 (sub p0 (zw ((zn p0) - (zw ((zn p1) - 1)))) (zn p0))) (rds:=[]) false kr (.inr rfl) (elems_lst (fun _=>rfl)) rfl gE kr h (fun h=>?_)
 refine sz 1 9 (reg_end rfl (wp_seq (wp_seq (wg [0,1,6,7,8] [0,1] ?_))))
 refine rgN (S:=⟨[(0,z1 p0),(1,z1 p1),(6,vI (zw ((zn p1) - 1))),(7,.ref 0 0 ((List.replicate (zt (zw ((zn p0) - (zw ((zn p1) - 1))))) (0:Int)).length)),(8,.ref 1 0 ((sub p0 (zw ((zn p0) - (zw ((zn p1) - 1)))) (zn p0)).length))]++[(39,.ref 0 0 ((List.replicate (zt (zw ((zn p0) - (zw ((zn p1) - 1))))) (0:Int)).length)),(40,vI (((List.replicate (zt (zw ((zn p0) - (zw ((zn p1) - 1))))) (0:Int)).length):Int)),(41,vI (zw ((((List.replicate (zt (zw ((zn p0) - (zw ((zn p1) - 1))))) (0:Int)).length):Int) - 1))),(9,vI (zw ((((List.replicate (zt (zw ((zn p0) - (zw ((zn p1) - 1))))) (0:Int)).length):Int) - 1)))],[oR true 1 eI (List.replicate (zt (zw ((zn p0) - (zw ((zn p1) - 1))))) (0:Int)),oR true 1 eI (sub p0 (zw ((zn p0) - (zw ((zn p1) - 1)))) (zn p0))],124⟩) ?_
 refine wp_block ?_
 refine wwh h (fun s3=>⟨[(0,z1 p0),(1,z1 p1),(6,vI (zw ((zn p1) - 1))),(7,.ref 0 0 s3.2.2.length),(8,z1 s3.1),(9,vI s3.2.1)],[oR true 1 eI s3.2.2],124⟩) (fun v out=>out=.go (.exit 0) ⟨[(7,.ref 0 0 v.2.length),(8,z1 v.1)],[oR true 1 eI v.2],124⟩) (wk_trans (wk_gc (live:=[0,1,6,7,8,9]) (keep:=[0,1]) (st':=⟨[(0,z1 p0),(1,z1 p1),(6,vI (zw ((zn p1) - 1))),(7,.ref 0 0 ((List.replicate (zt (zw ((zn p0) - (zw ((zn p1) - 1))))) (0:Int)).length)),(8,.ref 1 0 ((sub p0 (zw ((zn p0) - (zw ((zn p1) - 1)))) (zn p0)).length))]++[(9,vI (zw ((((List.replicate (zt (zw ((zn p0) - (zw ((zn p1) - 1))))) (0:Int)).length):Int) - 1)))],[oR true 1 eI (List.replicate (zt (zw ((zn p0) - (zw ((zn p1) - 1))))) (0:Int)),oR true 1 eI (sub p0 (zw ((zn p0) - (zw ((zn p1) - 1)))) (zn p0))],124⟩) kr) (wk_trans (wk_snap (st':=⟨[(0,z1 p0),(1,z1 p1),(6,vI (zw ((zn p1) - 1))),(7,.ref 0 0 ((List.replicate (zt (zw ((zn p0) - (zw ((zn p1) - 1))))) (0:Int)).length))]++[(8,z1 (sub p0 (zw ((zn p0) - (zw ((zn p1) - 1)))) (zn p0))),(9,vI (zw ((((List.replicate (zt (zw ((zn p0) - (zw ((zn p1) - 1))))) (0:Int)).length):Int) - 1)))],[oR true 1 eI (List.replicate (zt (zw ((zn p0) - (zw ((zn p1) - 1))))) (0:Int)),.row false true true true 1 (List.map eI (sub p0 (zw ((zn p0) - (zw ((zn p1) - 1)))) (zn p0)))],124⟩) 8 (y:=z1 (sub p0 (zw ((zn p0) - (zw ((zn p1) - 1)))) (zn p0))) (ids:=[1]) rfl (snap_full (w:=1) (bx:=false) (ro:=false) kr) kr) (wk_gc (live:=[0,1,6,7,8,9]) (keep:=[0]) kr))) ?_ ?_
 ·intro s3 o h
  unfold g_ref01_divide_b2 at h
  refine wp_seq (sq ?_)
  refine wb [43] h (fun q5 h=>?_) (fun q5 h=>?_)
  ·refine wcT (wp_skip (wp_seq (wp_block (wp_seq (reg_in (sz 2 2 ?_))))))
   refine bind_elim h (fun a6 q7 h=>?_)
   refine idxL' (enc:=eI) (l:=p0) (n:=s3.2.1) (fl:=true) (w:=1) (a:=a6) kr rfl gE q7 ?_
   refine sz 1 4 ?_
   refine sgL false [] [] true gE ?_
   refine sz 1 6 ?_
   refine appR (enc:=eI) (l:=([a6]:(List Int))) (m:=s3.1) (w:=1) (bytes:=8) (ob:=1) (nr:=true) (fl:=true) (nr':=true) (fl':=true) (b:=z1 s3.1) (rds:=[]) false kr kr (elems_lst (fun _=>rfl)) rfl gE kr h (fun h=>?_)
   refine callR (as0:=[.ref 2 0 ((([a6]:(List Int))++s3.1).length)]) (ids:=[2]) kr bodyB_126 (msnap_cons (snap_full (w:=1) (bx:=false) (ro:=false) kr) msnap_nil (by rfl)) (fun x8 q9=>g_ref01_cut_ok (([a6]:(List Int))++s3.1) x8 q9) gF h (fun x8 q9 h=>?_)
   refine sz 1 9 (reg_end rfl (wp_seq ?_))
   refine wgc [0,1,6,7,8,9] [0] ⟨[(0,z1 p0),(1,z1 p1),(6,vI (zw ((zn p1) - 1))),(7,.ref 0 0 s3.2.2.length),(8,z1 x8),(9,vI s3.2.1)],[oR true 1 eI s3.2.2],124⟩ ?_
   refine rn (wp_seq (sq (wp_block ?_)))
   refine wwh h (fun s10=>⟨[(0,z1 p0),(1,z1 p1),(6,vI (zw ((zn p1) - 1))),(7,.ref 0 0 s3.2.2.length),(8,z1 x8),(9,vI s3.2.1),(10,vI s10.1),(11,vI s10.2.1),(12,vI s10.2.2)],[oR true 1 eI s3.2.2],124⟩) (fun v out=>out=.go (.exit 2) ⟨[(0,z1 p0),(1,z1 p1),(6,vI (zw ((zn p1) - 1))),(7,.ref 0 0 s3.2.2.length),(8,z1 x8),(9,vI s3.2.1)]++[(10,vI v.1),(11,vI v.2)],[oR true 1 eI s3.2.2],124⟩) (wk_gc (live:=[0,1,6,7,8,9,10,11,12]) (keep:=[0]) kr) ?_ ?_
   ·intro s10 o h
    unfold g_ref01_divide_b0 at h
    refine wp_seq (sq ?_)
    refine wbz h (fun q12 h=>?_) (fun q12 h=>?_)
    ·refine wp_skip (wp_seq (wp_block (wp_seq (wg [0,1,6,7,8,9,10,11,12] [0] (rn (wp_seq (wp_seq (reg_in (sz 2 2 ?_)))))))))
     refine lenL (enc:=eI) (l:=x8) (fl:=true) kr gE ?_
     refine sz 1 4 (reg_end rfl ?_)
     refine wbz h (fun q14 h=>?_) (fun q14 h=>?_)
     ·refine wgc [0,1,6,7,8,9,10,11,12] [0] ⟨[(0,z1 p0),(1,z1 p1),(6,vI (zw ((zn p1) - 1))),(7,.ref 0 0 s3.2.2.length),(8,z1 x8),(9,vI s3.2.1),(10,vI s10.1),(11,vI (zw (s10.2.1*10000))),(12,vI s10.2.2)],[oR true 1 eI s3.2.2],124⟩ ?_
      refine reg_in (sz 3 3 ?_)
      refine bind_elim h (fun a15 q16 h=>?_)
      refine idxL' (enc:=eI) (l:=x8) (n:=s10.2.2) (fl:=true) (w:=1) (a:=a15) kr rfl gE q16 ?_
      refine sz 3 7 (reg_end rfl (wp_seq (wg [0,1,6,7,8,9,10,11,12] [0] (rn ?_))))
      refine wb [77] h (fun q18 h=>?_) (fun q18 h=>?_)
      ·refine wcT (reg_in (sz 4 4 ?_))
       refine bind_elim h (fun a19 q20 h=>?_)
       refine idxL' (enc:=eI) (l:=p1) (n:=s10.2.2) (fl:=true) (w:=1) (a:=a19) kr rfl gE q20 ?_
       refine sz 3 8 (reg_end rfl ?_)
       refine wgc [0,1,6,7,8,9,10,11,12] [0] ⟨[(0,z1 p0),(1,z1 p1),(6,vI (zw ((zn p1) - 1))),(7,.ref 0 0 s3.2.2.length),(8,z1 x8),(9,vI s3.2.1),(10,vI (zw ((zw (s10.1*10000))+a19))),(11,vI (zw ((zw (s10.2.1*10000))+a15))),(12,vI s10.2.2)],[oR true 1 eI s3.2.2],124⟩ ?_
       refine rn ?_
       cases h
       exact ⟨_,rfl,(wk_gc (live:=[0,1,6,7,8,9,10,11,12]) (keep:=[0]) kr)⟩
      refine wcF (wp_skip (rn ?_))
      cases h
      exact ⟨_,rfl,(wk_gc (live:=[0,1,6,7,8,9,10,11,12]) (keep:=[0]) kr)⟩
     refine wp_skip (wp_seq ?_)
     refine wgc [0,1,6,7,8,9,10,11,12] [0] ⟨[(0,z1 p0),(1,z1 p1),(6,vI (zw ((zn p1) - 1))),(7,.ref 0 0 s3.2.2.length),(8,z1 x8),(9,vI s3.2.1),(10,vI s10.1),(11,vI (zw (s10.2.1*10000))),(12,vI s10.2.2)],[oR true 1 eI s3.2.2],124⟩ ?_
     refine rn ?_
     refine wb [77] h (fun q22 h=>?_) (fun q22 h=>?_)
     ·refine wcT (reg_in (sz 4 4 ?_))
      refine bind_elim h (fun a23 q24 h=>?_)
      refine idxL' (enc:=eI) (l:=p1) (n:=s10.2.2) (fl:=true) (w:=1) (a:=a23) kr rfl gE q24 ?_
      refine sz 3 8 (reg_end rfl (wg [0,1,6,7,8,9,10,11,12] [0] (rn ?_)))
      cases h
      exact ⟨_,rfl,(wk_gc (live:=[0,1,6,7,8,9,10,11,12]) (keep:=[0]) kr)⟩
     refine wcF (wp_skip (rn ?_))
     cases h
     exact ⟨_,rfl,(wk_gc (live:=[0,1,6,7,8,9,10,11,12]) (keep:=[0]) kr)⟩
    refine wg [0,1,6,7,8,9,10,11] [0] ?_
    refine wp_exit ?_
    cases h
    exact ⟨kr,rfl⟩
   intro x26 h out hx
   subst hx
   refine wp_seq (rga hfol (sy 3 3 ?_))
   refine quoR (k:=.i64) (a:=x26.2) (b:=zw (x26.1+1)) kr gE h (fun h=>?_)
   refine sy 2 6 ?_
   refine quoR (k:=.i64) (a:=x26.2) (b:=x26.1) kr gE h (fun h=>?_)
   refine sy 2 9 (rgd (wp_seq (wp_block ?_)))
   refine wwh h (fun s27=>⟨[(0,z1 p0),(1,z1 p1),(6,vI (zw ((zn p1) - 1))),(7,.ref 0 0 s3.2.2.length),(8,z1 x8),(9,vI s3.2.1),(13,vI s27.1),(14,vI s27.2)],[oR true 1 eI s3.2.2],124⟩) (fun v out=>out=.go (.exit 4) ⟨[(0,z1 p0),(1,z1 p1),(6,vI (zw ((zn p1) - 1))),(7,.ref 0 0 s3.2.2.length),(8,z1 x8),(9,vI s3.2.1)]++[(13,vI v)],[oR true 1 eI s3.2.2],124⟩) (wk_gc (live:=[0,1,6,7,8,9,13,14]) (keep:=[0]) kr) ?_ ?_
   ·intro s27 o h
    unfold g_ref01_divide_b1 at h
    refine wp_seq (sq ?_)
    refine wb [94] h (fun q29 h=>?_) (fun q29 h=>?_)
    ·refine wcT (wp_skip (wp_block (sq (wp_seq (wg [0,1,6,7,8,9,13,14,15] [0] (reg_in (sz 2 2 ?_)))))))
     refine sgL false [] [] true gE ?_
     refine callR (as0:=[z1 p1,.ref 1 0 1]) (ids:=[1]) kr bodyB_128 (msnap_cons rfl (msnap_cons (show snap _ _ _=some (_,[1]) from kr) msnap_nil (by rfl)) (by rfl)) (fun x30 q31=>g_ref01_times_ok p1 [zw (Int.tdiv (zw ((zw (s27.1+s27.2))+1)) 2)] x30 q31) gF h (fun x30 q31 h=>?_)
     refine sz 1 5 ?_
     refine callW bodyB_127 (g_ref01_compare_ok x30 x8) h (fun x32 _ h=>?_)
     refine sz 1 7 (reg_end rfl ?_)
     refine wbz h (fun q35 h=>?_) (fun q35 h=>?_)
     ·refine wgc [0,1,6,7,8,9,14,15] [0] ⟨[(0,z1 p0),(1,z1 p1),(6,vI (zw ((zn p1) - 1))),(7,.ref 0 0 s3.2.2.length),(8,z1 x8),(9,vI s3.2.1),(14,vI s27.2),(15,vI (zw (Int.tdiv (zw ((zw (s27.1+s27.2))+1)) 2)))],[oR true 1 eI s3.2.2],124⟩ ?_
      refine rn ?_
      cases h
      exact ⟨_,rfl,(wk_gc (live:=[0,1,6,7,8,9,13,14]) (keep:=[0]) kr)⟩
     refine wgc [0,1,6,7,8,9,13,15] [0] ⟨[(0,z1 p0),(1,z1 p1),(6,vI (zw ((zn p1) - 1))),(7,.ref 0 0 s3.2.2.length),(8,z1 x8),(9,vI s3.2.1),(13,vI s27.1),(15,vI (zw (Int.tdiv (zw ((zw (s27.1+s27.2))+1)) 2)))],[oR true 1 eI s3.2.2],124⟩ ?_
     refine rn ?_
     cases h
     exact ⟨_,rfl,(wk_gc (live:=[0,1,6,7,8,9,13,14]) (keep:=[0]) kr)⟩
    refine wcF (wg [0,1,6,7,8,9,13] [0] ?_)
    refine wp_exit ?_
    cases h
    exact ⟨kr,rfl⟩
   intro x37 h out hx
   subst hx
   refine wp_seq (reg_in (sz 3 3 ?_))
   refine bind_elim h (fun a38 q39 h=>?_)
   refine idxR' (enc:=eI) (l:=s3.2.2) (n:=s3.2.1) (w:=1) (ob:=0) (ro:=false) (nr:=true) (fl:=true) (a:=a38) kr kr gE q39 ?_
   refine storeR (enc:=eI) (l:=s3.2.2) (n:=s3.2.1) (ob:=0) (w:=1) (bx:=false) (nr:=true) (fl:=true) (c:=0) (a:=a38) (a':=x37) (v:=vI x37) false kr kr q39 kr rfl kr gE kr ?_
   refine rl [7,110] (n:=s3.2.2.length) (m:=(List.set s3.2.2 (zt s3.2.1) x37).length) (by simp only [List.length_set]) ?_
   refine reg_end rfl (reg_in (sz 3 3 ?_))
   refine sgL false [] [] true gE ?_
   refine callR (as0:=[.ref 1 0 1]) (ids:=[1]) kr bodyB_126 (msnap_cons (show snap _ _ _=some (_,[1]) from kr) msnap_nil (by rfl)) (fun x40 q41=>g_ref01_cut_ok [x37] x40 q41) gF h (fun x40 q41 h=>?_)
   refine callW bodyB_128 (g_ref01_times_ok p1 x40) h (fun x42 _ h=>?_)
   refine callW bodyB_129 (g_ref01_minus_ok x8 x42) h (fun x44 _ h=>?_)
   refine sz 1 8 (reg_end rfl ?_)
   refine wgc [0,1,6,7,8,9] [0] ⟨[(0,z1 p0),(1,z1 p1),(6,vI (zw ((zn p1) - 1))),(7,.ref 0 0 ((List.set s3.2.2 (zt s3.2.1) x37).length)),(8,z1 x44),(9,vI s3.2.1)],[oR true 1 eI (List.set s3.2.2 (zt s3.2.1) x37)],124⟩ ?_
   refine rn ?_
   cases h
   exact ⟨_,rfl,(wk_gc (live:=[0,1,6,7,8,9]) (keep:=[0]) kr)⟩
  refine wcF (wg [7,8] [0] ?_)
  refine wp_exit ?_
  cases h
  exact ⟨kr,rfl⟩
 intro x48 h out hx
 subst hx
 refine wp_seq (reg_in (sz 1 1 ?_))
 refine callR (as0:=[.ref 0 0 x48.2.length]) (ids:=[0]) kr bodyB_126 (msnap_cons (snap_full (w:=1) (bx:=false) (ro:=false) kr) msnap_nil (by rfl)) (fun x49 q50=>g_ref01_cut_ok x48.2 x49 q50) gF h (fun x49 q50 h=>?_)
 refine sz 3 5 (reg_end rfl (wg [4,5] [] ?_))
 cases h
 exact wp_ret (show fnOut _ _ _ _=_ from by kernel_rfl)
theorem g_ref01_gcd_ok (p0:(List Int)) (p1:(List Int)) (x:(List Int)) (h:g_ref01_gcd p0 p1=some x):CallOk Try.prog 114 [z1 p0,z1 p1] (.ret (z1 x) []):=by
 refine fn_ok [[.lst true]] Try.func114 rfl (by decide +kernel) rfl ?_
 unfold g_ref01_gcd at h
 refine wp_eqB (base':=0) (st':=⟨[(0,z1 p0),(1,z1 p1)],[],19⟩) kr kr ?_
 refine sq (wp_seq (wp_block ?_))
 refine wwh h (fun s1=>⟨[(0,z1 s1.1),(1,z1 s1.2)],[],19⟩) (fun v out=>out=.go (.exit 0) ⟨[(0,z1 v)],[],19⟩) (wk_gc (live:=[0,1]) (keep:=[]) kr) ?_ ?_
 ·intro s1 o h
  unfold g_ref01_gcd_b0 at h
  refine wp_seq (wp_seq (reg_in (sz 1 1 ?_)))
  refine lenL (enc:=eI) (l:=s1.2) (fl:=true) kr gE ?_
  refine sz 1 3 (reg_end rfl ?_)
  refine wb [9] h (fun q3 h=>?_) (fun q3 h=>?_)
  ·refine wcT (wp_skip (wp_block (wp_seq (reg_in (sz 2 2 ?_)))))
   refine callW bodyB_115 (g_ref01_divide_ok s1.1 s1.2) h (fun x4 _ h=>?_)
   refine sz 5 8 (reg_end rfl (wp_seq ?_))
   refine wgc [1,6] [] ⟨[(1,z1 s1.2),(6,z1 x4.2)],[],19⟩ ?_
   refine rn (rn ?_)
   cases h
   exact ⟨_,rfl,(wk_gc (live:=[0,1]) (keep:=[]) kr)⟩
  refine wcF (wg [0] [] ?_)
  refine wp_exit ?_
  cases h
  exact ⟨kr,rfl⟩
 intro x7 h out hx
 subst hx
 refine sq (wg [4] [] ?_)
 cases h
 exact wp_ret (show fnOut _ _ _ _=_ from by kernel_rfl)
theorem g_ref01_digits_ok (p0:Int) (x:(List Int)) (h:g_ref01_digits p0=some x):CallOk Try.prog 99 [vI p0] (.ret (.ref 0 0 x.length) [oR true 1 eI x]):=by
 refine fn_ok [] Try.func99 rfl (by decide +kernel) rfl ?_
 unfold g_ref01_digits at h
 refine wp_eqB (base':=0) (st':=⟨[(0,vI p0)],[],19⟩) kr kr ?_
 refine sq (sq (wp_seq (wp_block ?_)))
 refine wwh h (fun s1=>⟨[(0,vI s1.1),(3,.ref 0 0 s1.2.length)],[oR true 1 eI s1.2],19⟩) (fun v out=>out=.go (.exit 0) ⟨[(3,.ref 0 0 v.length)],[oR true 1 eI v],19⟩) (wk_trans (wk_gc (live:=[0,3]) (keep:=[]) (st':=⟨[(0,vI p0),(3,.nils)],[],19⟩) kr) (wk_trans (wk_nil 3 1 true true (st':=⟨[(0,vI p0),(3,.ref 0 0 0)],[.row false false true true 1 []],19⟩) kr) (wk_gc (live:=[0,3]) (keep:=[0]) kr))) ?_ ?_
 ·intro s1 o h
  unfold g_ref01_digits_b0 at h
  refine wp_seq (sq ?_)
  refine wb [6] h (fun q3 h=>?_) (fun q3 h=>?_)
  ·refine wcT (wp_skip (wp_block (sq (wp_seq (reg_in (sz 5 5 ?_))))))
   refine sgL false [] [] true gE ?_
   refine appR (enc:=eI) (l:=s1.2) (m:=([(if (zw (0 - (Int.tmod s1.1 10000))) > (Int.tmod s1.1 10000) then (zw (0 - (Int.tmod s1.1 10000))) else (Int.tmod s1.1 10000))]:(List Int))) (w:=1) (bytes:=8) (ob:=0) (nr:=true) (fl:=true) (nr':=true) (fl':=true) (b:=.ref 1 0 1) (rds:=[1]) false kr kr kr rfl gE kr h (fun h=>?_)
   refine sz 1 8 (reg_end rfl ?_)
   refine wgc [0,3] [2] ⟨[(0,vI s1.1),(3,.ref 0 0 ((s1.2++([(if (zw (0 - (Int.tmod s1.1 10000))) > (Int.tmod s1.1 10000) then (zw (0 - (Int.tmod s1.1 10000))) else (Int.tmod s1.1 10000))]:(List Int))).length))],[oR true 1 eI (s1.2++([(if (zw (0 - (Int.tmod s1.1 10000))) > (Int.tmod s1.1 10000) then (zw (0 - (Int.tmod s1.1 10000))) else (Int.tmod s1.1 10000))]:(List Int)))],19⟩ ?_
   refine rn ?_
   cases h
   exact ⟨_,rfl,(wk_gc (live:=[0,3]) (keep:=[0]) kr)⟩
  refine wcF (wg [3] [0] ?_)
  refine wp_exit ?_
  cases h
  exact ⟨kr,rfl⟩
 intro x5 h out hx
 subst hx
 refine sq (wg [2] [0] ?_)
 cases h
 exact wp_ret (show fnOut _ _ _ _=_ from by kernel_rfl)
theorem g_ref01_value_ok (p0:(List Int)) (x:(Int × Bool)) (h:g_ref01_value p0=some x):CallOk Try.prog 116 [z1 p0] (.ret (.tup [vI x.1,vB x.2]) []):=by
 refine fn_ok [] Try.func116 rfl (by decide +kernel) rfl ?_
 unfold g_ref01_value at h
 refine wp_eqB (base':=0) (st':=⟨[(0,z1 p0)],[],25⟩) kr kr ?_
 refine sq (wp_seq (wp_seq (reg_in (sz 1 1 ?_))))
 refine callW bodyB_99 (g_ref01_digits_ok 4611686018427387903) h (fun x1 _ h=>?_)
 refine callR (as0:=[z1 p0,.ref 0 0 x1.length]) (ids:=[0]) kr bodyB_127 (msnap_cons rfl (msnap_cons (snap_full (w:=1) (bx:=false) (ro:=false) kr) msnap_nil (by rfl)) (by rfl)) (fun x3 q4=>g_ref01_compare_ok p0 x1 x3 q4) gF h (fun x3 q4 h=>?_)
 refine sz 1 4 (reg_end rfl ?_)
 refine wbz h (fun q6 h=>?_) (fun q6 h=>?_)
 ·refine wp_seq (wg [] [] (rn ?_))
  refine wgc [2,3] [] ⟨[(2,vI 0),(3,vB false)],[],25⟩ ?_
  cases h
  exact wp_ret (show fnOut _ _ _ _=_ from by kernel_rfl)
 refine wp_skip (wp_seq (wg [0] [] (rn (wp_seq (wp_seq (reg_in (sz 1 1 ?_)))))))
 refine lenL (enc:=eI) (l:=p0) (fl:=true) kr gE ?_
 refine sz 2 4 (reg_end rfl (wp_block ?_))
 refine wwh h (fun s7=>⟨[(0,z1 p0),(4,vI s7.1),(5,vI s7.2)],[],25⟩) (fun v out=>out=.go (.exit 0) ⟨[(4,vI v)],[],25⟩) (wk_gc (live:=[0,4,5]) (keep:=[]) kr) ?_ ?_
 ·intro s7 o h
  unfold g_ref01_value_b0 at h
  refine wp_seq (sq ?_)
  refine wb [14] h (fun q9 h=>?_) (fun q9 h=>?_)
  ·refine wcT (wp_skip (wp_seq (wp_block (reg_in (sz 4 4 ?_)))))
   refine bind_elim h (fun a10 q11 h=>?_)
   refine idxL' (enc:=eI) (l:=p0) (n:=s7.2) (fl:=true) (w:=1) (a:=a10) kr rfl gE q11 ?_
   refine sz 3 8 (reg_end rfl ?_)
   refine wgc [0,4,5] [] ⟨[(0,z1 p0),(4,vI (zw ((zw (10000*s7.1))+a10))),(5,vI s7.2)],[],25⟩ ?_
   refine rn ?_
   cases h
   exact ⟨_,rfl,(wk_gc (live:=[0,4,5]) (keep:=[]) kr)⟩
  refine wcF (wg [4] [] ?_)
  refine wp_exit ?_
  cases h
  exact ⟨kr,rfl⟩
 intro x13 h out hx
 subst hx
 refine sq (wg [2,3] [] ?_)
 cases h
 exact wp_ret (show fnOut _ _ _ _=_ from by kernel_rfl)
theorem g_ref01_made_ok (p0:Bool) (p1:(List Int)) (p2:(List Int)) (x:(Tapi_Q × Bool)) (h:g_ref01_made p0 p1 p2=some x):CallOk Try.prog 98 [vB p0,z1 p1,z1 p2] (.ret (.tup [.agg [vI x.1.N,vI x.1.D],vB x.2]) []):=by
 refine fn_ok [] Try.func98 rfl (by decide +kernel) rfl ?_
 unfold g_ref01_made at h
 refine wp_eqB (base':=0) (st':=⟨[(0,vB p0),(1,z1 p1),(2,z1 p2)],[],51⟩) kr kr ?_
 refine sq (wp_seq (reg_in (sz 2 2 ?_)))
 refine callW bodyB_114 (g_ref01_gcd_ok p1 p2) h (fun x1 _ h=>?_)
 refine sz 1 4 (reg_end rfl (wp_seq (reg_in (sz 2 2 ?_))))
 refine callW bodyB_115 (g_ref01_divide_ok p1 x1) h (fun x3 _ h=>?_)
 refine sz 4 7 (reg_end rfl (wp_seq ?_))
 refine wgc [0,1,2,6,8] [0] ⟨[(0,vB p0),(1,z1 x3.1),(2,z1 p2),(6,.ptr 0 0 0),(8,z1 x1)],[oX true true 2 (.agg [vI 0,vI 0])],51⟩ ?_
 refine reg_in (sz 2 2 ?_)
 refine callW bodyB_115 (g_ref01_divide_ok p2 x1) h (fun x5 _ h=>?_)
 refine sz 4 7 (reg_end rfl (wp_seq (wg [0,1,2,6] [0] (reg_in (sz 1 1 ?_)))))
 refine callW bodyB_116 (g_ref01_value_ok x3.1) h (fun x7 _ h=>?_)
 refine sz 5 7 (reg_end rfl (wp_seq ?_))
 refine wgc [0,2,6,9,10] [0] ⟨[(0,vB p0),(2,z1 x5.1),(6,.ptr 0 0 0),(9,vI x7.1),(10,vB x7.2)],[oX true true 2 (.agg [vI 0,vI 0])],51⟩ ?_
 refine reg_in (sz 1 1 ?_)
 refine callW bodyB_116 (g_ref01_value_ok x5.1) h (fun x9 _ h=>?_)
 refine sz 5 7 (reg_end rfl (wp_seq (wp_seq (wg [0,6,9,10,11,12] [0] (reg_in (sz 3 3 ?_))))))
 refine rb [39,40] h (fun q12 h=>?_) (fun q12 h=>?_)
 ·refine sz 3 6 (reg_end rfl (wcT (wp_seq ?_)))
  refine wgc [6] [0] ⟨[(6,.ptr 0 0 0)],[oX true true 2 (.agg [vI 0,vI 0])],51⟩ ?_
  refine rn (wg [6,7] [0] ?_)
  cases h
  exact wp_ret (show fnOut _ _ _ _=_ from by kernel_rfl)
 refine sz 3 6 (reg_end rfl ?_)
 refine wbz h (fun q14 h=>?_) (fun q14 h=>?_)
 ·refine wp_seq ?_
  refine wgc [6] [0] ⟨[(6,.ptr 0 0 0)],[oX true true 2 (.agg [vI 0,vI 0])],51⟩ ?_
  refine rn (wg [6,7] [0] ?_)
  cases h
  exact wp_ret (show fnOut _ _ _ _=_ from by kernel_rfl)
 refine wp_skip (wp_seq (wp_seq ?_))
 refine wgc [0,6,9,11] [0] ⟨[(0,vB p0),(6,.ptr 0 0 0),(9,vI x7.1),(11,vI x9.1)],[oX true true 2 (.agg [vI 0,vI 0])],51⟩ ?_
 refine rn ?_
 refine wb [0,45] h (fun q16 h=>?_) (fun q16 h=>?_)
 ·refine wcT (rn (sq (wg [6,7] [0] ?_)))
  cases h
  exact wp_ret (show fnOut _ _ _ _=_ from by kernel_rfl)
 refine wcF (wp_skip (sq (wg [6,7] [0] ?_)))
 cases h
 exact wp_ret (show fnOut _ _ _ _=_ from by kernel_rfl)
theorem g_ref01_Make_ok (p0:Int) (p1:Int) (x:(Tapi_Q × Bool)) (h:g_ref01_Make p0 p1=some x):CallOk Try.prog 83 [vI p0,vI p1] (.ret (.tup [.agg [vI x.1.N,vI x.1.D],vB x.2]) []):=by
 refine fn_ok [] Try.func83 rfl (by decide +kernel) rfl ?_
 unfold g_ref01_Make at h
 refine wp_eqB (base':=0) (st':=⟨[(0,vI p0),(1,vI p1)],[],18⟩) kr kr ?_
 refine sq (wp_seq (reg_in (sz 6 6 ?_)))
 refine callW bodyB_99 (g_ref01_digits_ok p0) h (fun x1 _ h=>?_)
 refine sz 1 8 ?_
 refine callW bodyB_99 (g_ref01_digits_ok p1) h (fun x3 _ h=>?_)
 refine callR (as0:=[vB (!((decide (p0 < 0))==(decide (p1 < 0)))),.ref 1 0 x1.length,.ref 2 0 x3.length]) (ids:=[1,2]) kr bodyB_98 (msnap_cons rfl (msnap_cons (snap_full (w:=1) (bx:=false) (ro:=false) kr) (msnap_cons (snap_full (w:=1) (bx:=false) (ro:=false) kr) msnap_nil (by rfl)) (by rfl)) (by rfl)) (fun x5 q6=>g_ref01_made_ok (!((decide (p0 < 0))==(decide (p1 < 0)))) x1 x3 x5 q6) gF h (fun x5 q6 h=>?_)
 refine sz 4 14 (reg_end rfl ?_)
 refine wgc [4,5] [0] ⟨[(4,.ptr 0 0 0),(5,vB x5.2)],[oX true true 2 (.agg [vI x5.1.N,vI x5.1.D])],18⟩ ?_
 cases h
 exact wp_ret (show fnOut _ _ _ _=_ from by kernel_rfl)
theorem g_ref01_Of_ok (p0:Int) (p1:Int) (x:Tapi_Q) (h:g_ref01_Of p0 p1=some x):CallOk Try.prog 35 [vI p0,vI p1] (.ret (.agg [vI x.N,vI x.D]) []):=by
 refine fn_ok [] Try.func35 rfl (by decide +kernel) rfl ?_
 unfold g_ref01_Of at h
 refine wp_eqB (base':=0) (st':=⟨[(0,vI p0),(1,vI p1)],[],14⟩) kr kr ?_
 refine sq (wp_seq (reg_in (sz 2 2 ?_)))
 refine callW bodyB_83 (g_ref01_Make_ok p0 p1) h (fun x1 _ h=>?_)
 refine sz 6 9 (reg_end rfl (wp_seq (wg [4,5] [0,1] (rn ?_))))
 refine wgc [4] [0] ⟨[(4,.ptr 0 0 0)],[oX true true 2 (.agg [vI x1.1.N,vI x1.1.D])],14⟩ ?_
 cases h
 exact wp_ret (show fnOut _ _ _ _=_ from by kernel_rfl)
theorem g_law17_q_ok (p0:Int) (p1:Int) (x:Tapi_Q) (h:g_law17_q p0 p1=some x):CallOk Try.prog 28 [vI p0,vI p1] (.ret (.agg [vI x.N,vI x.D]) []):=by
 refine fn_ok [] Try.func28 rfl (by decide +kernel) rfl ?_
 unfold g_law17_q at h
 refine wp_eqB (base':=0) (st':=⟨[(0,vI p0),(1,vI p1)],[],8⟩) kr kr ?_
 refine sq (wp_seq (reg_in (sz 2 2 ?_)))
 refine callW bodyB_35 (g_ref01_Of_ok p0 p1) h (fun x1 _ h=>?_)
 refine sz 1 4 (reg_end rfl (wg [4] [0] ?_))
 cases h
 exact wp_ret (show fnOut _ _ _ _=_ from by kernel_rfl)
end Go.Ab
