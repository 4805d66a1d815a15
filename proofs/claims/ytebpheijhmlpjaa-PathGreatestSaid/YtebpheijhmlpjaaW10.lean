/- What functions compute. No conditions. -/
import Derived.Test.YtebpheijhmlpjaaProg
import Derived.Test.YtebpheijhmlpjaaW9
import Derived.KernelRfl
set_option linter.all false
namespace Go.Ab
open Go Go.Proofs
set_option maxRecDepth 100000
set_option maxHeartbeats 4000000
noncomputable abbrev s63_1 (p0:Thidden_watcher):List (Nat × AV):=[(0,.agg [vI p0.Hidden.Grain,z1 p0.Hidden.First,z2 p0.Hidden.Step,z2 p0.Hidden.Show,z1 p0.seen])]
noncomputable abbrev s63_2 (p0:Thidden_watcher):List (Nat × AV):=(s63_1 p0)++[(1,.ptr 0 0 0),(2,.nils),(10,.agg [vI p0.Hidden.Grain,z1 p0.Hidden.First,z2 p0.Hidden.Step,z2 p0.Hidden.Show,z1 p0.seen])]
noncomputable abbrev s63_5 (p0:Thidden_watcher):List (Nat × AV):=(s63_1 p0)++[(1,.ptr 1 0 0),(2,.nils),(5,.ptr 1 0 4),(6,z1 p0.seen),(7,vI (zn p0.seen)),(8,.ref 2 0 ((List.replicate (zt (zn p0.seen)) ([]:(List Int))).length)),(3,.ref 2 0 ((List.replicate (zt (zn p0.seen)) ([]:(List Int))).length))]
noncomputable abbrev s63_6 (p0:Thidden_watcher):List AObj:=[oX true false 5 (.agg [vI p0.Hidden.Grain,z1 p0.Hidden.First,z2 p0.Hidden.Step,z2 p0.Hidden.Show,z1 p0.seen]),oX true false 5 (.agg [vI p0.Hidden.Grain,z1 p0.Hidden.First,z2 p0.Hidden.Step,z2 p0.Hidden.Show,z1 p0.seen]),.refs 3 (eF eI (List.replicate (zt (zn p0.seen)) ([]:(List Int)))),.fam 1 true (eF eI (List.replicate (zt (zn p0.seen)) ([]:(List Int))))]
noncomputable abbrev s63_16 (s1:(Int × (List (List Int)))) (p0:Thidden_watcher):List (Nat × AV):=[(1,.ptr 1 0 0),(3,.ref 2 0 s1.2.length),(10,vI (((List.replicate (zt (zn p0.seen)) ([]:(List Int))).length):Int)),(11,vI s1.1)]
noncomputable abbrev s63_19 (p0:Thidden_watcher) (s1:(Int × (List (List Int)))):List AObj:=[oX true false 5 (.agg [vI p0.Hidden.Grain,z1 p0.Hidden.First,z2 p0.Hidden.Step,z2 p0.Hidden.Show,z1 p0.seen]),oX true false 5 (.agg [vI p0.Hidden.Grain,z1 p0.Hidden.First,z2 p0.Hidden.Step,z2 p0.Hidden.Show,z1 p0.seen]),.refs 3 (eF eI (List.set s1.2 (zt s1.1) (List.replicate (zt (zn p0.Hidden.First)) (0:Int)))),.fam 1 true (eF eI (List.set s1.2 (zt s1.1) (List.replicate (zt (zn p0.Hidden.First)) (0:Int)))),.dead]
noncomputable abbrev s63_31 (p0:Thidden_watcher):List (Nat × AV):=[(0,.agg [vI p0.Hidden.Grain,z1 p0.Hidden.First,z2 p0.Hidden.Step,z2 p0.Hidden.Show,z1 p0.seen]),(1,vI 0)]
noncomputable abbrev s63_66 (s9:(Int × (List (List Int)))) (p0:Thidden_watcher) (s12:(Int × (List (List Int)))):List (Nat × AV):=[(1,.ptr 0 0 0),(3,.ptr 1 0 0),(4,vI s9.1),(17,z1 p0.Hidden.First),(18,vI (zn p0.Hidden.First)),(19,vI s12.1)]
theorem g_hidden_watcher_forward_ok (p0:Thidden_watcher) (x:(List (List Int))) (h:g_hidden_watcher_forward p0=some x):CallOk Try.prog 63 [.agg [vI p0.Hidden.Grain,z1 p0.Hidden.First,z2 p0.Hidden.Step,z2 p0.Hidden.Show,z1 p0.seen]] (.ret (.ref 0 0 x.length) [oR false 1 z1 x]):=by
 refine fn_ok [] Try.func63 rfl (by decide +kernel) rfl ?_
 unfold g_hidden_watcher_forward at h
 refine wp_eqB (base':=0) (st':=⟨(s63_1 p0),[],66⟩) kr kr ?_
 refine wp_seq (reg_in ?_)
 refine sgL false [] [] false gE ?_
 refine sz 1 2 (reg_end rfl (wp_seq ?_))
 refine wp_post ?_
 refine reg_in (sz 1 1 ?_)
 refine inlR (f:=87) (fn:=Try.f87) (as0:=[.agg [vI p0.Hidden.Grain,z1 p0.Hidden.First,z2 p0.Hidden.Step,z2 p0.Hidden.Show,z1 p0.seen]]) kr Try.func87 rfl (by decide +kernel) rfl ?_
 refine wp_eqB (base':=1) (st':=⟨(s63_1 p0),[oX true false 5 (.agg [vI p0.Hidden.Grain,z1 p0.Hidden.First,z2 p0.Hidden.Step,z2 p0.Hidden.Show,z1 p0.seen])],24⟩) kr kr ?_
 refine wp_seq (reg_in ?_)
 refine sgL false [] [] false gE ?_
 refine sz 1 2 (reg_end rfl (wp_seq ?_))
 refine wp_post ?_
 refine reg_in (sz 2 2 ?_)
 refine lenL (enc:=eI) (l:=p0.seen) (fl:=true) kr gE ?_
 refine mkL (enc:=fun _=>AV.nils) (z:=([]:(List Int))) (z0:=AV.nils) (n:=(zn p0.seen)) (m:=(zn p0.seen)) (w:=1) (bytes:=24) [] false kr rfl gE kr h (fun h=>?_)
 refine sgz 1 5 (S:=⟨(s63_5 p0),[oX true false 5 (.agg [vI p0.Hidden.Grain,z1 p0.Hidden.First,z2 p0.Hidden.Step,z2 p0.Hidden.Show,z1 p0.seen]),oX true false 5 (.agg [vI p0.Hidden.Grain,z1 p0.Hidden.First,z2 p0.Hidden.Step,z2 p0.Hidden.Show,z1 p0.seen]),.row false false true false 1 (List.map (fun _=>AV.nils) (List.replicate (zt (zn p0.seen)) ([]:(List Int))))],24⟩) ?_
 refine reg_end rfl ?_
 refine ⟨⟨(s63_5 p0),(s63_6 p0),24⟩,(wk_fam 2 1 true eI (x0:=([]:List Int)) (enc1:=fun _=>AV.nils) (st':=⟨(s63_5 p0),(s63_6 p0),24⟩) rfl rfl rfl (by kernel_rfl)),?_⟩
 refine wp_seq (wp_seq (wg [1,3] [1,2,3] (rn (wp_block ?_))))
 refine wwh h (fun s1=>⟨(s63_16 s1 p0),[oX true false 5 (.agg [vI p0.Hidden.Grain,z1 p0.Hidden.First,z2 p0.Hidden.Step,z2 p0.Hidden.Show,z1 p0.seen]),oX true false 5 (.agg [vI p0.Hidden.Grain,z1 p0.Hidden.First,z2 p0.Hidden.Step,z2 p0.Hidden.Show,z1 p0.seen]),.refs 3 (eF eI s1.2),.fam 1 true (eF eI s1.2)],24⟩) (fun v out=>out=.go (.exit 0) ⟨[(3,.ref 1 0 v.length)],[oX true false 5 (.agg [vI p0.Hidden.Grain,z1 p0.Hidden.First,z2 p0.Hidden.Step,z2 p0.Hidden.Show,z1 p0.seen]),.refs 2 (eF eI v),.fam 1 true (eF eI v)],24⟩) (wk_gc (live:=[1,3,10,11]) (keep:=[1,2,3]) kr) ?_ ?_
 ·intro s1 o h
  unfold g_hidden_watcher_forward_b0 at h
  refine sq (wp_seq ?_)
  refine wb [12] h (fun q3 h=>?_) (fun q3 h=>?_)
  ·refine wcT (wp_skip (wp_seq (wp_block (sq ?_))))
   refine wp_post ?_
   refine reg_in (sz 5 5 ?_)
   refine lenL (enc:=eI) (l:=p0.Hidden.First) (fl:=true) kr gE ?_
   refine mkL (enc:=eI) (z:=(0:Int)) (z0:=vI 0) (n:=(zn p0.Hidden.First)) (m:=(zn p0.Hidden.First)) (w:=1) (bytes:=8) [] true kr rfl gE kr h (fun h=>?_)
   refine bind_elim h (fun a4 q5 h=>?_)
   refine idxF (enc:=eI) (ls:=s1.2) (x:=a4) (n:=s1.1) (ob:=2) (j:=3) kr kr q5 gE ?_
   refine storeF (enc:=eI) (ls:=s1.2) (x:=a4) (n:=s1.1) (ob:=2) (j:=3) (m:=4) (q:=(List.replicate (zt (zn p0.Hidden.First)) (0:Int)).length) (S:=⟨(s63_16 s1 p0)++[(12,vB true),(13,vI s1.1),(4,vI s1.1),(14,.ref 2 0 s1.2.length),(15,vI s1.1),(16,.ptr 1 0 0),(17,.ptr 1 0 1),(18,z1 p0.Hidden.First),(19,vI (zn p0.Hidden.First)),(20,.ref 4 0 ((List.replicate (zt (zn p0.Hidden.First)) (0:Int)).length)),(21,.ptr 2 (zt s1.1) 0)],[oX true false 5 (.agg [vI p0.Hidden.Grain,z1 p0.Hidden.First,z2 p0.Hidden.Step,z2 p0.Hidden.Show,z1 p0.seen]),oX true false 5 (.agg [vI p0.Hidden.Grain,z1 p0.Hidden.First,z2 p0.Hidden.Step,z2 p0.Hidden.Show,z1 p0.seen]),.row false false false false 1 ((famRefs 3 0 (eF eI s1.2)).set (zt s1.1) (.ref 4 0 ((List.replicate (zt (zn p0.Hidden.First)) (0:Int)).length))),.fam 1 true (eF eI s1.2),oR true 1 eI (List.replicate (zt (zn p0.Hidden.First)) (0:Int))],24⟩) kr kr q5 kr kr kr ?_
   refine reg_end rfl ?_
   refine ⟨⟨[(1,.ptr 1 0 0),(3,.ref 2 0 ((List.set s1.2 (zt s1.1) (List.replicate (zt (zn p0.Hidden.First)) (0:Int))).length)),(10,vI (((List.replicate (zt (zn p0.seen)) ([]:(List Int))).length):Int)),(11,vI s1.1)]++[(12,vB true),(13,vI s1.1),(4,vI s1.1),(14,.ref 2 0 ((List.set s1.2 (zt s1.1) (List.replicate (zt (zn p0.Hidden.First)) (0:Int))).length)),(15,vI s1.1),(16,.ptr 1 0 0),(17,.ptr 1 0 1),(18,z1 p0.Hidden.First),(19,vI (zn p0.Hidden.First)),(21,.ptr 2 (zt s1.1) 0)],(s63_19 p0 s1),24⟩,(wk_trans (wk_adopt 2 3 4 (enc:=eI) (ls:=s1.2) (x:=a4) (b:=(List.replicate (zt (zn p0.Hidden.First)) (0:Int))) (n:=s1.1) [1,3,10,11,12,13,4,14,15,16,17,18,19,21] (st':=⟨(s63_16 s1 p0)++[(12,vB true),(13,vI s1.1),(4,vI s1.1),(14,.ref 2 0 s1.2.length),(15,vI s1.1),(16,.ptr 1 0 0),(17,.ptr 1 0 1),(18,z1 p0.Hidden.First),(19,vI (zn p0.Hidden.First)),(21,.ptr 2 (zt s1.1) 0)],(s63_19 p0 s1),24⟩) rfl rfl rfl q5 (by kernel_rfl) (by kernel_rfl)) (wk_eq (congrArg (fun n6=>(⟨[(1,.ptr 1 0 0),(3,.ref 2 0 n6),(10,vI (((List.replicate (zt (zn p0.seen)) ([]:(List Int))).length):Int)),(11,vI s1.1),(12,vB true),(13,vI s1.1),(4,vI s1.1),(14,.ref 2 0 n6),(15,vI s1.1),(16,.ptr 1 0 0),(17,.ptr 1 0 1),(18,z1 p0.Hidden.First),(19,vI (zn p0.Hidden.First)),(21,.ptr 2 (zt s1.1) 0)],(s63_19 p0 s1),24⟩:St)) (show s1.2.length=(List.set s1.2 (zt s1.1) (List.replicate (zt (zn p0.Hidden.First)) (0:Int))).length by simp only [List.length_set])))),?_⟩
   refine wg [1,3,10,11] [1,2,3] (rn ?_)
   cases h
   exact ⟨_,rfl,(wk_gc (live:=[1,3,10,11]) (keep:=[1,2,3]) kr)⟩
  refine wcF (wg [3] [2,3] ?_)
  refine wp_exit ?_
  cases h
  exact ⟨kr,rfl⟩
 intro x8 h out hx
 subst hx
 refine sq (wg [2] [1,2] ?_)
 refine wp_ret ?_
 refine ⟨⟨(s63_2 p0)++[(11,.ref 1 0 x8.length)],[oX true false 5 (.agg [vI p0.Hidden.Grain,z1 p0.Hidden.First,z2 p0.Hidden.Step,z2 p0.Hidden.Show,z1 p0.seen]),.refs 2 (eF eI x8),.fam 1 true (eF eI x8)],66⟩,by as_aux_lemma=>kernel_rfl,?_⟩
 refine sgL false [] [] false gE ?_
 refine sz 1 4 (reg_end rfl ?_)
 refine ⟨_,wk_refl,?_⟩
 refine wp_seq (wp_seq ?_)
 refine wp_post ?_
 refine reg_in (sz 1 1 ?_)
 refine inlR (f:=88) (fn:=Try.f88) (as0:=[.agg [vI p0.Hidden.Grain,z1 p0.Hidden.First,z2 p0.Hidden.Step,z2 p0.Hidden.Show,z1 p0.seen],vI 0]) kr Try.func88 rfl (by decide +kernel) rfl ?_
 refine wp_eqB (base':=4) (st':=⟨(s63_31 p0),[oX true false 5 (.agg [vI p0.Hidden.Grain,z1 p0.Hidden.First,z2 p0.Hidden.Step,z2 p0.Hidden.Show,z1 p0.seen]),.refs 2 (eF eI x8),.fam 1 true (eF eI x8),oX false false 1 (.ref 1 0 x8.length)],12⟩) kr kr ?_
 refine wp_seq (reg_in ?_)
 refine sgL false [] [] false gE ?_
 refine sz 1 2 (reg_end rfl (wp_seq ?_))
 refine wp_post ?_
 refine reg_in (sz 1 1 ?_)
 refine sgL false [] [] false gE ?_
 refine sz 1 3 (reg_end rfl ?_)
 refine ⟨_,wk_refl,?_⟩
 refine wp_seq ?_
 refine wp_post ?_
 refine rga hfol (sy 4 4 ?_)
 refine inlN (f:=107) (fn:=Try.f107) (as0:=[.agg [vI p0.Hidden.Grain,z1 p0.Hidden.First,z2 p0.Hidden.Step,z2 p0.Hidden.Show,z1 p0.seen]]) kr kr Try.func107 rfl (by decide +kernel) rfl ?_
 refine wp_eqB (base':=6) (st':=⟨(s63_1 p0),[.dead,.dead,.dead,.dead,.dead,.dead],4⟩) kr kr ?_
 refine wp_seq (reg_in ?_)
 refine sgL false [] [] false gE ?_
 refine sz 1 2 (reg_end rfl (sq (wg [2] [6] ?_)))
 refine wp_ret ?_
 refine ⟨⟨(s63_31 p0)++[(2,.ptr 4 0 0),(4,.nilf),(6,.agg [.fn (.func 107) [] [],.fn (.func 108) [] []]),(5,.ptr 5 0 0),(7,vI 0),(8,.ptr 5 0 0),(9,.fn (.func 107) [] []),(10,.agg [vI p0.Hidden.Grain,z1 p0.Hidden.First,z2 p0.Hidden.Step,z2 p0.Hidden.Show,z1 p0.seen])]++[(11,.fn (.func 117) [] [.ptr 6 0 0])],[oX true false 5 (.agg [vI p0.Hidden.Grain,z1 p0.Hidden.First,z2 p0.Hidden.Step,z2 p0.Hidden.Show,z1 p0.seen]),.refs 2 (eF eI x8),.fam 1 true (eF eI x8),oX false false 1 (.ref 1 0 x8.length),oX true false 5 (.agg [vI p0.Hidden.Grain,z1 p0.Hidden.First,z2 p0.Hidden.Step,z2 p0.Hidden.Show,z1 p0.seen]),oX true false 2 (.agg [.fn (.func 107) [] [],.fn (.func 108) [] []]),oX true false 5 (.agg [vI p0.Hidden.Grain,z1 p0.Hidden.First,z2 p0.Hidden.Step,z2 p0.Hidden.Show,z1 p0.seen])],12⟩,by as_aux_lemma=>kernel_rfl,?_⟩
 refine sy 1 6 (rgd ?_)
 refine ⟨_,wk_refl,?_⟩
 refine wg [4] [6] ?_
 refine wp_ret ?_
 refine ⟨⟨(s63_2 p0)++[(11,.ref 1 0 x8.length),(3,.ptr 3 0 0),(12,.agg [vI p0.Hidden.Grain,z1 p0.Hidden.First,z2 p0.Hidden.Step,z2 p0.Hidden.Show,z1 p0.seen])]++[(13,.fn (.func 117) [] [.ptr 4 0 0])],[oX true false 5 (.agg [vI p0.Hidden.Grain,z1 p0.Hidden.First,z2 p0.Hidden.Step,z2 p0.Hidden.Show,z1 p0.seen]),.refs 2 (eF eI x8),.fam 1 true (eF eI x8),oX false false 1 (.ref 1 0 x8.length),oX true false 5 (.agg [vI p0.Hidden.Grain,z1 p0.Hidden.First,z2 p0.Hidden.Step,z2 p0.Hidden.Show,z1 p0.seen])],66⟩,by as_aux_lemma=>kernel_rfl,?_⟩
 refine reg_end rfl ?_
 refine ⟨_,wk_refl,?_⟩
 refine wp_block ?_
 refine wgc [1,3,13] [0,3,4,1,2] ⟨[(1,.ptr 0 0 0),(3,.ptr 1 0 0),(13,.fn (.func 117) [] [.ptr 2 0 0])],[oX true false 5 (.agg [vI p0.Hidden.Grain,z1 p0.Hidden.First,z2 p0.Hidden.Step,z2 p0.Hidden.Show,z1 p0.seen]),oX false false 1 (.ref 3 0 x8.length),oX true false 5 (.agg [vI p0.Hidden.Grain,z1 p0.Hidden.First,z2 p0.Hidden.Step,z2 p0.Hidden.Show,z1 p0.seen]),.refs 4 (eF eI x8),.fam 1 true (eF eI x8)],66⟩ ?_
 refine wp_range (f:=117) (fn:=Try.f117) (first:=[]) (caps:=[.ptr 2 0 0]) rfl Try.func117 rfl (by decide +kernel) rfl rfl ?_
 refine wp_eqB (base':=6) (st':=⟨[(0,.yld 5),(1,.ptr 2 0 0)],[oX true false 5 (.agg [vI p0.Hidden.Grain,z1 p0.Hidden.First,z2 p0.Hidden.Step,z2 p0.Hidden.Show,z1 p0.seen]),oX false false 1 (.ref 3 0 x8.length),oX true false 5 (.agg [vI p0.Hidden.Grain,z1 p0.Hidden.First,z2 p0.Hidden.Step,z2 p0.Hidden.Show,z1 p0.seen]),.refs 4 (eF eI x8),.fam 1 true (eF eI x8),.loop 66 [(1,.ptr 0 0 0),(3,.ptr 1 0 0),(13,.fn (.func 117) [] [.ptr 2 0 0])] [14] (cA Try.f63 [true,true,false,true,true]) (cB Try.f63 [true,true,false,true,true]) .ready none],15⟩) kr kr ?_
 refine wp_seq ?_
 refine wp_post ?_
 refine reg_in (sz 2 2 ?_)
 refine lenL (enc:=eI) (l:=p0.seen) (fl:=true) kr gE ?_
 refine sz 1 4 (reg_end rfl ?_)
 refine ⟨_,wk_refl,?_⟩
 refine wp_block ?_
 refine wwh h (fun s9=>⟨[(0,.yld 5),(6,vI (zn p0.seen)),(7,vI s9.1)],[oX true false 5 (.agg [vI p0.Hidden.Grain,z1 p0.Hidden.First,z2 p0.Hidden.Step,z2 p0.Hidden.Show,z1 p0.seen]),oX false false 1 (.ref 3 0 s9.2.length),oX true false 5 (.agg [vI p0.Hidden.Grain,z1 p0.Hidden.First,z2 p0.Hidden.Step,z2 p0.Hidden.Show,z1 p0.seen]),.refs 4 (eF eI s9.2),.fam 1 true (eF eI s9.2),.loop 66 [(1,.ptr 0 0 0),(3,.ptr 1 0 0),(13,.fn (.func 117) [] [.ptr 2 0 0])] [14] (cA Try.f63 [true,true,false,true,true]) (cB Try.f63 [true,true,false,true,true]) .ready none],15⟩) (fun v out=>out=.go (.exit 0) ⟨[],[oX true false 5 (.agg [vI p0.Hidden.Grain,z1 p0.Hidden.First,z2 p0.Hidden.Step,z2 p0.Hidden.Show,z1 p0.seen]),oX false false 1 (.ref 3 0 v.length),oX true false 5 (.agg [vI p0.Hidden.Grain,z1 p0.Hidden.First,z2 p0.Hidden.Step,z2 p0.Hidden.Show,z1 p0.seen]),.refs 4 (eF eI v),.fam 1 true (eF eI v),.loop 66 [(1,.ptr 0 0 0),(3,.ptr 1 0 0),(13,.fn (.func 117) [] [.ptr 2 0 0])] [14] (cA Try.f63 [true,true,false,true,true]) (cB Try.f63 [true,true,false,true,true]) .ready none],15⟩) (wk_gc (live:=[0,6,7]) (keep:=[]) kr) ?_ ?_
 ·intro s9 o h
  unfold g_hidden_watcher_forward_b3 at h
  refine sq (wp_seq ?_)
  refine wb [8] h (fun q11 h=>?_) (fun q11 h=>?_)
  ·refine wcT (wp_skip (wp_seq (wp_block (sq (wp_seq ?_)))))
   refine wp_post ?_
   refine reg_in (sz 2 2 ?_)
   refine yldR (l:=5) (nt:=66) (us:=[vI s9.1]) (sl:=[(1,.ptr 0 0 0),(3,.ptr 1 0 0),(13,.fn (.func 117) [] [.ptr 2 0 0])]) (ps:=[14]) (assign:=cA Try.f63 [true,true,false,true,true]) (body:=cB Try.f63 [true,true,false,true,true]) (pe:=none) kr rfl rfl ?_
   refine wp_eqB (base':=6) (st':=⟨[(1,.ptr 0 0 0),(3,.ptr 1 0 0),(13,.fn (.func 117) [] [.ptr 2 0 0]),(14,vI s9.1)],[oX true false 5 (.agg [vI p0.Hidden.Grain,z1 p0.Hidden.First,z2 p0.Hidden.Step,z2 p0.Hidden.Show,z1 p0.seen]),oX false false 1 (.ref 3 0 s9.2.length),oX true false 5 (.agg [vI p0.Hidden.Grain,z1 p0.Hidden.First,z2 p0.Hidden.Step,z2 p0.Hidden.Show,z1 p0.seen]),.refs 4 (eF eI s9.2),.fam 1 true (eF eI s9.2),.loop 66 [(1,.ptr 0 0 0),(3,.ptr 1 0 0),(13,.fn (.func 117) [] [.ptr 2 0 0])] [14] (cA Try.f63 [true,true,false,true,true]) (cB Try.f63 [true,true,false,true,true]) .ready none],66⟩) kr kr ?_
   refine rn ?_
   refine ⟨⟨[(1,.ptr 0 0 0),(3,.ptr 1 0 0),(13,.fn (.func 117) [] [.ptr 2 0 0]),(14,vI s9.1),(4,vI s9.1)],[oX true false 5 (.agg [vI p0.Hidden.Grain,z1 p0.Hidden.First,z2 p0.Hidden.Step,z2 p0.Hidden.Show,z1 p0.seen]),oX false false 1 (.ref 3 0 s9.2.length),oX true false 5 (.agg [vI p0.Hidden.Grain,z1 p0.Hidden.First,z2 p0.Hidden.Step,z2 p0.Hidden.Show,z1 p0.seen]),.refs 4 (eF eI s9.2),.fam 1 true (eF eI s9.2),.loop 66 [(1,.ptr 0 0 0),(3,.ptr 1 0 0),(13,.fn (.func 117) [] [.ptr 2 0 0])] [14] (cA Try.f63 [true,true,false,true,true]) (cB Try.f63 [true,true,false,true,true]) .busy none],66⟩,by as_aux_lemma=>kernel_rfl,?_⟩
   refine wp_block (wp_seq ?_)
   refine wp_post ?_
   refine reg_in (sz 3 3 ?_)
   refine lenL (enc:=eI) (l:=p0.Hidden.First) (fl:=true) kr gE ?_
   refine sz 1 5 (reg_end rfl ?_)
   refine ⟨_,wk_refl,?_⟩
   refine wp_block ?_
   refine wwh h (fun s12=>⟨(s63_66 s9 p0 s12),[oX true false 5 (.agg [vI p0.Hidden.Grain,z1 p0.Hidden.First,z2 p0.Hidden.Step,z2 p0.Hidden.Show,z1 p0.seen]),oX false false 1 (.ref 3 0 s12.2.length),oX true false 5 (.agg [vI p0.Hidden.Grain,z1 p0.Hidden.First,z2 p0.Hidden.Step,z2 p0.Hidden.Show,z1 p0.seen]),.refs 4 (eF eI s12.2),.fam 1 true (eF eI s12.2),.loop 66 [(1,.ptr 0 0 0),(3,.ptr 1 0 0),(13,.fn (.func 117) [] [.ptr 2 0 0])] [14] (cA Try.f63 [true,true,false,true,true]) (cB Try.f63 [true,true,false,true,true]) .busy none],66⟩) (fun v out=>out=.go (.exit 2) ⟨[],[oX true false 5 (.agg [vI p0.Hidden.Grain,z1 p0.Hidden.First,z2 p0.Hidden.Step,z2 p0.Hidden.Show,z1 p0.seen]),oX false false 1 (.ref 3 0 v.length),oX true false 5 (.agg [vI p0.Hidden.Grain,z1 p0.Hidden.First,z2 p0.Hidden.Step,z2 p0.Hidden.Show,z1 p0.seen]),.refs 4 (eF eI v),.fam 1 true (eF eI v),.loop 66 [(1,.ptr 0 0 0),(3,.ptr 1 0 0),(13,.fn (.func 117) [] [.ptr 2 0 0])] [14] (cA Try.f63 [true,true,false,true,true]) (cB Try.f63 [true,true,false,true,true]) .busy none],66⟩) (wk_gc (live:=[1,3,4,17,18,19]) (keep:=[]) kr) ?_ ?_
   ·intro s12 o h
    unfold g_hidden_watcher_forward_b2 at h
    refine sq (wp_seq ?_)
    refine wb [20] h (fun q14 h=>?_) (fun q14 h=>?_)
    ·refine wcT (wp_skip (wp_seq (wp_block (wp_seq ?_))))
     refine wp_post ?_
     refine reg_in (sz 1 1 ?_)
     refine bind_elim h (fun a15 q16 h=>?_)
     refine idxL' (enc:=eI) (l:=p0.Hidden.First) (n:=s12.1) (fl:=true) (w:=1) (a:=a15) kr rfl gE q16 ?_
     refine sz 3 5 (reg_end rfl ?_)
     refine ⟨_,wk_refl,?_⟩
     refine sq (wp_seq (wp_seq ?_))
     refine wgc [1,3,4,17,18,19,5,7] [] ⟨[(1,.ptr 0 0 0),(3,.ptr 1 0 0),(4,vI s9.1),(17,z1 p0.Hidden.First),(18,vI (zn p0.Hidden.First)),(19,vI s12.1),(5,vI s12.1),(7,vI a15)],[oX true false 5 (.agg [vI p0.Hidden.Grain,z1 p0.Hidden.First,z2 p0.Hidden.Step,z2 p0.Hidden.Show,z1 p0.seen]),oX false false 1 (.ref 3 0 s12.2.length),oX true false 5 (.agg [vI p0.Hidden.Grain,z1 p0.Hidden.First,z2 p0.Hidden.Step,z2 p0.Hidden.Show,z1 p0.seen]),.refs 4 (eF eI s12.2),.fam 1 true (eF eI s12.2),.loop 66 [(1,.ptr 0 0 0),(3,.ptr 1 0 0),(13,.fn (.func 117) [] [.ptr 2 0 0])] [14] (cA Try.f63 [true,true,false,true,true]) (cB Try.f63 [true,true,false,true,true]) .busy none],66⟩ ?_
     refine rn ?_
     refine wb [26] h (fun q18 h=>?_) (fun q18 h=>?_)
     ·refine wcT (sq (wp_seq ?_))
      refine wp_post ?_
      refine reg_in (sz 3 3 ?_)
      refine bind_elim h (fun a19 q20 h=>?_)
      refine idxF (enc:=eI) (ls:=s12.2) (x:=a19) (n:=zw (s9.1 - 1)) (ob:=3) (j:=4) kr kr q20 gE ?_
      refine loadF (enc:=eI) (ls:=s12.2) (x:=a19) (n:=zw (s9.1 - 1)) (ob:=3) (j:=4) kr kr q20 gE ?_
      refine sgz 2 7 (S:=⟨(s63_66 s9 p0 s12)++[(5,vI s12.1),(7,vI 0),(25,vI s9.1),(26,vB true),(27,.ref 3 0 s12.2.length),(28,vI s9.1),(29,vI (zw (s9.1 - 1))),(30,.ptr 3 (zt (zw (s9.1 - 1))) 0),(31,.ref (fid 4 (zt (zw (s9.1 - 1)))) 0 a19.length),(32,vI (zn a19)),(33,vI 0)],[oX true false 5 (.agg [vI p0.Hidden.Grain,z1 p0.Hidden.First,z2 p0.Hidden.Step,z2 p0.Hidden.Show,z1 p0.seen]),oX false false 1 (.ref 3 0 s12.2.length),oX true false 5 (.agg [vI p0.Hidden.Grain,z1 p0.Hidden.First,z2 p0.Hidden.Step,z2 p0.Hidden.Show,z1 p0.seen]),.refs 4 (eF eI s12.2),.fam 1 true (eF eI s12.2),.loop 66 [(1,.ptr 0 0 0),(3,.ptr 1 0 0),(13,.fn (.func 117) [] [.ptr 2 0 0])] [14] (cA Try.f63 [true,true,false,true,true]) (cB Try.f63 [true,true,false,true,true]) .busy none],66⟩) ?_
      refine reg_end rfl ?_
      refine ⟨⟨(s63_66 s9 p0 s12)++[(5,vI s12.1),(7,vI 0),(25,vI s9.1),(26,vB true),(27,.ref 3 0 s12.2.length),(28,vI s9.1),(29,vI (zw (s9.1 - 1))),(30,.ptr 3 (zt (zw (s9.1 - 1))) 0),(31,.lin 4 (zt (zw (s9.1 - 1))) a19.length),(32,vI (zn a19)),(33,vI 0)],[oX true false 5 (.agg [vI p0.Hidden.Grain,z1 p0.Hidden.First,z2 p0.Hidden.Step,z2 p0.Hidden.Show,z1 p0.seen]),oX false false 1 (.ref 3 0 s12.2.length),oX true false 5 (.agg [vI p0.Hidden.Grain,z1 p0.Hidden.First,z2 p0.Hidden.Step,z2 p0.Hidden.Show,z1 p0.seen]),.refs 4 (eF eI s12.2),.fam 1 true (eF eI s12.2),.loop 66 [(1,.ptr 0 0 0),(3,.ptr 1 0 0),(13,.fn (.func 117) [] [.ptr 2 0 0])] [14] (cA Try.f63 [true,true,false,true,true]) (cB Try.f63 [true,true,false,true,true]) .busy none],66⟩,(wk_lin 31 (st':=⟨(s63_66 s9 p0 s12)++[(5,vI s12.1),(7,vI 0),(25,vI s9.1),(26,vB true),(27,.ref 3 0 s12.2.length),(28,vI s9.1),(29,vI (zw (s9.1 - 1))),(30,.ptr 3 (zt (zw (s9.1 - 1))) 0),(31,.lin 4 (zt (zw (s9.1 - 1))) a19.length),(32,vI (zn a19)),(33,vI 0)],[oX true false 5 (.agg [vI p0.Hidden.Grain,z1 p0.Hidden.First,z2 p0.Hidden.Step,z2 p0.Hidden.Show,z1 p0.seen]),oX false false 1 (.ref 3 0 s12.2.length),oX true false 5 (.agg [vI p0.Hidden.Grain,z1 p0.Hidden.First,z2 p0.Hidden.Step,z2 p0.Hidden.Show,z1 p0.seen]),.refs 4 (eF eI s12.2),.fam 1 true (eF eI s12.2),.loop 66 [(1,.ptr 0 0 0),(3,.ptr 1 0 0),(13,.fn (.func 117) [] [.ptr 2 0 0])] [14] (cA Try.f63 [true,true,false,true,true]) (cB Try.f63 [true,true,false,true,true]) .busy none],66⟩) rfl (by kernel_rfl)),?_⟩
      refine wp_block ?_
      refine wwh h (fun s21=>⟨[(1,.ptr 0 0 0),(3,.ptr 1 0 0),(4,vI s9.1),(5,vI s12.1),(7,vI s21.1),(17,z1 p0.Hidden.First),(18,vI (zn p0.Hidden.First)),(19,vI s12.1),(31,.lin 4 (zt (zw (s9.1 - 1))) a19.length),(32,vI (zn a19)),(33,vI s21.2)],[oX true false 5 (.agg [vI p0.Hidden.Grain,z1 p0.Hidden.First,z2 p0.Hidden.Step,z2 p0.Hidden.Show,z1 p0.seen]),oX false false 1 (.ref 3 0 s12.2.length),oX true false 5 (.agg [vI p0.Hidden.Grain,z1 p0.Hidden.First,z2 p0.Hidden.Step,z2 p0.Hidden.Show,z1 p0.seen]),.refs 4 (eF eI s12.2),.fam 1 true (eF eI s12.2),.loop 66 [(1,.ptr 0 0 0),(3,.ptr 1 0 0),(13,.fn (.func 117) [] [.ptr 2 0 0])] [14] (cA Try.f63 [true,true,false,true,true]) (cB Try.f63 [true,true,false,true,true]) .busy none],66⟩) (fun v out=>out=.go (.exit 4) ⟨[(1,.ptr 0 0 0),(3,.ptr 1 0 0),(4,vI s9.1),(5,vI s12.1),(7,vI v),(17,z1 p0.Hidden.First),(18,vI (zn p0.Hidden.First)),(19,vI s12.1)],[oX true false 5 (.agg [vI p0.Hidden.Grain,z1 p0.Hidden.First,z2 p0.Hidden.Step,z2 p0.Hidden.Show,z1 p0.seen]),oX false false 1 (.ref 3 0 s12.2.length),oX true false 5 (.agg [vI p0.Hidden.Grain,z1 p0.Hidden.First,z2 p0.Hidden.Step,z2 p0.Hidden.Show,z1 p0.seen]),.refs 4 (eF eI s12.2),.fam 1 true (eF eI s12.2),.loop 66 [(1,.ptr 0 0 0),(3,.ptr 1 0 0),(13,.fn (.func 117) [] [.ptr 2 0 0])] [14] (cA Try.f63 [true,true,false,true,true]) (cB Try.f63 [true,true,false,true,true]) .busy none],66⟩) (wk_gc (live:=[1,3,4,5,7,17,18,19,31,32,33]) (keep:=[]) kr) ?_ ?_
      ·intro s21 o h
       unfold g_hidden_watcher_forward_b1 at h
       refine sq (wp_seq ?_)
       refine wbr (S:=fun b22=>⟨[(1,.ptr 0 0 0),(3,.ptr 1 0 0),(4,vI s9.1),(5,vI s12.1),(7,vI s21.1),(17,z1 p0.Hidden.First),(18,vI (zn p0.Hidden.First)),(19,vI s12.1),(31,.lin 4 (zt (zw (s9.1 - 1))) a19.length),(32,vI (zn a19)),(33,vI s21.2)]++[(34,vB b22)],[oX true false 5 (.agg [vI p0.Hidden.Grain,z1 p0.Hidden.First,z2 p0.Hidden.Step,z2 p0.Hidden.Show,z1 p0.seen]),oX false false 1 (.ref 3 0 s12.2.length),oX true false 5 (.agg [vI p0.Hidden.Grain,z1 p0.Hidden.First,z2 p0.Hidden.Step,z2 p0.Hidden.Show,z1 p0.seen]),.refs 4 (eF eI s12.2),.fam 1 true (eF eI s12.2),.loop 66 [(1,.ptr 0 0 0),(3,.ptr 1 0 0),(13,.fn (.func 117) [] [.ptr 2 0 0])] [14] (cA Try.f63 [true,true,false,true,true]) (cB Try.f63 [true,true,false,true,true]) .busy none],66⟩) h (fun q23 h=>?_) (fun q23 h=>?_)
       ·refine wcT (wp_skip (wp_seq (wp_block (wp_seq ?_))))
        refine wp_wk (wk_unlin 31 (st':=⟨[(1,.ptr 0 0 0),(3,.ptr 1 0 0),(4,vI s9.1),(5,vI s12.1),(7,vI s21.1),(17,z1 p0.Hidden.First),(18,vI (zn p0.Hidden.First)),(19,vI s12.1)]++[(31,.ref (fid 4 (zt (zw (s9.1 - 1)))) 0 a19.length),(32,vI (zn a19)),(33,vI s21.2),(34,vB true)],[oX true false 5 (.agg [vI p0.Hidden.Grain,z1 p0.Hidden.First,z2 p0.Hidden.Step,z2 p0.Hidden.Show,z1 p0.seen]),oX false false 1 (.ref 3 0 s12.2.length),oX true false 5 (.agg [vI p0.Hidden.Grain,z1 p0.Hidden.First,z2 p0.Hidden.Step,z2 p0.Hidden.Show,z1 p0.seen]),.refs 4 (eF eI s12.2),.fam 1 true (eF eI s12.2),.loop 66 [(1,.ptr 0 0 0),(3,.ptr 1 0 0),(13,.fn (.func 117) [] [.ptr 2 0 0])] [14] (cA Try.f63 [true,true,false,true,true]) (cB Try.f63 [true,true,false,true,true]) .busy none],66⟩) rfl kr) ?_
        refine wp_post ?_
        refine reg_in (sz 1 1 ?_)
        refine bind_elim h (fun a24 q25 h=>?_)
        refine idxI (enc:=eI) (ls:=s12.2) (x:=a19) (y:=a24) (n:=zw (s9.1 - 1)) (c:=s21.2) (w:=1) (j:=4) (fl:=true) kr kr q20 q25 rfl gE ?_
        refine loadI (enc:=eI) (ls:=s12.2) (x:=a19) (y:=a24) (n:=zw (s9.1 - 1)) (m:=s21.2) (w:=1) (j:=4) (c:=0) (fl:=true) kr kr q20 q25 rfl gE ?_
        refine sgz 2 5 (S:=⟨[(1,.ptr 0 0 0),(3,.ptr 1 0 0),(4,vI s9.1),(5,vI s12.1),(7,vI s21.1),(17,z1 p0.Hidden.First),(18,vI (zn p0.Hidden.First)),(19,vI s12.1)]++[(31,.ref (fid 4 (zt (zw (s9.1 - 1)))) 0 a19.length),(32,vI (zn a19)),(33,vI s21.2),(34,vB true),(35,vI s21.2),(36,.ptr (fid 4 (zt (zw (s9.1 - 1)))) (zt s21.2) 0),(37,vI a24),(8,vI s21.2),(9,vI a24)],[oX true false 5 (.agg [vI p0.Hidden.Grain,z1 p0.Hidden.First,z2 p0.Hidden.Step,z2 p0.Hidden.Show,z1 p0.seen]),oX false false 1 (.ref 3 0 s12.2.length),oX true false 5 (.agg [vI p0.Hidden.Grain,z1 p0.Hidden.First,z2 p0.Hidden.Step,z2 p0.Hidden.Show,z1 p0.seen]),.refs 4 (eF eI s12.2),.fam 1 true (eF eI s12.2),.loop 66 [(1,.ptr 0 0 0),(3,.ptr 1 0 0),(13,.fn (.func 117) [] [.ptr 2 0 0])] [14] (cA Try.f63 [true,true,false,true,true]) (cB Try.f63 [true,true,false,true,true]) .busy none],66⟩) ?_
        refine reg_end rfl ?_
        refine ⟨⟨[(1,.ptr 0 0 0),(3,.ptr 1 0 0),(4,vI s9.1),(5,vI s12.1),(7,vI s21.1),(17,z1 p0.Hidden.First),(18,vI (zn p0.Hidden.First)),(19,vI s12.1),(31,.lin 4 (zt (zw (s9.1 - 1))) a19.length),(32,vI (zn a19)),(33,vI s21.2)]++[(34,vB true),(35,vI s21.2),(36,.ptr (fid 4 (zt (zw (s9.1 - 1)))) (zt s21.2) 0),(37,vI a24),(8,vI s21.2),(9,vI a24)],[oX true false 5 (.agg [vI p0.Hidden.Grain,z1 p0.Hidden.First,z2 p0.Hidden.Step,z2 p0.Hidden.Show,z1 p0.seen]),oX false false 1 (.ref 3 0 s12.2.length),oX true false 5 (.agg [vI p0.Hidden.Grain,z1 p0.Hidden.First,z2 p0.Hidden.Step,z2 p0.Hidden.Show,z1 p0.seen]),.refs 4 (eF eI s12.2),.fam 1 true (eF eI s12.2),.loop 66 [(1,.ptr 0 0 0),(3,.ptr 1 0 0),(13,.fn (.func 117) [] [.ptr 2 0 0])] [14] (cA Try.f63 [true,true,false,true,true]) (cB Try.f63 [true,true,false,true,true]) .busy none],66⟩,(wk_lin 31 (st':=⟨[(1,.ptr 0 0 0),(3,.ptr 1 0 0),(4,vI s9.1),(5,vI s12.1),(7,vI s21.1),(17,z1 p0.Hidden.First),(18,vI (zn p0.Hidden.First)),(19,vI s12.1),(31,.lin 4 (zt (zw (s9.1 - 1))) a19.length),(32,vI (zn a19)),(33,vI s21.2)]++[(34,vB true),(35,vI s21.2),(36,.ptr (fid 4 (zt (zw (s9.1 - 1)))) (zt s21.2) 0),(37,vI a24),(8,vI s21.2),(9,vI a24)],[oX true false 5 (.agg [vI p0.Hidden.Grain,z1 p0.Hidden.First,z2 p0.Hidden.Step,z2 p0.Hidden.Show,z1 p0.seen]),oX false false 1 (.ref 3 0 s12.2.length),oX true false 5 (.agg [vI p0.Hidden.Grain,z1 p0.Hidden.First,z2 p0.Hidden.Step,z2 p0.Hidden.Show,z1 p0.seen]),.refs 4 (eF eI s12.2),.fam 1 true (eF eI s12.2),.loop 66 [(1,.ptr 0 0 0),(3,.ptr 1 0 0),(13,.fn (.func 117) [] [.ptr 2 0 0])] [14] (cA Try.f63 [true,true,false,true,true]) (cB Try.f63 [true,true,false,true,true]) .busy none],66⟩) rfl (by kernel_rfl)),?_⟩
        refine wp_post ?_
        refine reg_in (sz 6 6 ?_)
        refine bind_elim h (fun a26 q27 h=>?_)
        refine idxL' (enc:=z1) (l:=p0.Hidden.Step) (n:=s21.2) (fl:=false) (w:=1) (a:=a26) kr rfl gE q27 ?_
        refine sz 2 9 ?_
        refine bind_elim h (fun a28 q29 h=>?_)
        refine idxL' (enc:=eI) (l:=a26) (n:=s12.1) (fl:=true) (w:=1) (a:=a28) kr rfl gE q29 ?_
        refine sz 4 14 (reg_end rfl ?_)
        refine ⟨_,wk_refl,?_⟩
        refine wgc [1,3,4,5,7,17,18,19,31,32,33] [] ⟨[(1,.ptr 0 0 0),(3,.ptr 1 0 0),(4,vI s9.1),(5,vI s12.1),(7,vI (zw (s21.1+(zw (a24*a28))))),(17,z1 p0.Hidden.First),(18,vI (zn p0.Hidden.First)),(19,vI s12.1),(31,.lin 4 (zt (zw (s9.1 - 1))) a19.length),(32,vI (zn a19)),(33,vI s21.2)],[oX true false 5 (.agg [vI p0.Hidden.Grain,z1 p0.Hidden.First,z2 p0.Hidden.Step,z2 p0.Hidden.Show,z1 p0.seen]),oX false false 1 (.ref 3 0 s12.2.length),oX true false 5 (.agg [vI p0.Hidden.Grain,z1 p0.Hidden.First,z2 p0.Hidden.Step,z2 p0.Hidden.Show,z1 p0.seen]),.refs 4 (eF eI s12.2),.fam 1 true (eF eI s12.2),.loop 66 [(1,.ptr 0 0 0),(3,.ptr 1 0 0),(13,.fn (.func 117) [] [.ptr 2 0 0])] [14] (cA Try.f63 [true,true,false,true,true]) (cB Try.f63 [true,true,false,true,true]) .busy none],66⟩ ?_
        refine rn ?_
        cases h
        exact ⟨_,rfl,(wk_gc (live:=[1,3,4,5,7,17,18,19,31,32,33]) (keep:=[]) kr)⟩
       refine wcF (wg [1,3,4,5,7,17,18,19] [] ?_)
       refine wp_exit ?_
       cases h
       exact ⟨kr,rfl⟩
      intro x31 h out hx
      subst hx
      refine wp_post ?_
      refine rga hfol (sy 2 2 ?_)
      refine bind_elim h (fun a32 q33 h=>?_)
      refine idxF (enc:=eI) (ls:=s12.2) (x:=a32) (n:=s9.1) (ob:=3) (j:=4) kr kr q33 gE ?_
      refine loadF (enc:=eI) (ls:=s12.2) (x:=a32) (n:=s9.1) (ob:=3) (j:=4) kr kr q33 gE ?_
      refine sy 5 9 ?_
      refine callW bodyB_89 (g_hidden_watcher_shown_ok p0 s9.1 s12.1) h (fun x34 _ h=>?_)
      refine sy 1 11 ?_
      refine bind_elim h (fun a36 q37 h=>?_)
      refine idxI (enc:=eI) (ls:=s12.2) (x:=a32) (y:=a36) (n:=s9.1) (c:=s12.1) (w:=1) (j:=4) (fl:=true) kr kr q33 q37 rfl gE ?_
      refine storeI (enc:=eI) (ls:=s12.2) (x:=a32) (y:=a36) (y':=zw (x31*x34)) (n:=s9.1) (m:=s12.1) (w:=1) (j:=4) (q:=3) (c:=0) (fl:=true) (v:=vI (zw (x31*x34))) kr kr kr q33 q37 rfl kr kr kr gE ?_
      refine rknN (n:=s12.2.length) (m:=(List.set s12.2 (zt s9.1) (List.set a32 (zt s12.1) (zw (x31*x34)))).length) (S:=fun n38=>⟨[(1,.ptr 0 0 0),(3,.ptr 1 0 0),(4,vI s9.1),(5,vI s12.1),(7,vI x31),(17,z1 p0.Hidden.First),(18,vI (zn p0.Hidden.First)),(19,vI s12.1)]++[(52,.ref 3 0 n38),(53,vI s9.1),(54,.ptr 3 (zt s9.1) 0),(55,.ref (fid 4 (zt s9.1)) 0 a32.length),(56,vI s12.1),(57,vI x31),(58,.agg [vI p0.Hidden.Grain,z1 p0.Hidden.First,z2 p0.Hidden.Step,z2 p0.Hidden.Show,z1 p0.seen]),(59,vI s9.1),(60,vI s12.1),(61,vI x34),(62,vI (zw (x31*x34))),(63,.ptr (fid 4 (zt s9.1)) (zt s12.1) 0)],[oX true false 5 (.agg [vI p0.Hidden.Grain,z1 p0.Hidden.First,z2 p0.Hidden.Step,z2 p0.Hidden.Show,z1 p0.seen]),oX false false 1 (.ref 3 0 n38),oX true false 5 (.agg [vI p0.Hidden.Grain,z1 p0.Hidden.First,z2 p0.Hidden.Step,z2 p0.Hidden.Show,z1 p0.seen]),.refs 4 (eF eI (List.set s12.2 (zt s9.1) (List.set a32 (zt s12.1) (zw (x31*x34))))),.fam 1 true (eF eI (List.set s12.2 (zt s9.1) (List.set a32 (zt s12.1) (zw (x31*x34))))),.loop 66 [(1,.ptr 0 0 0),(3,.ptr 1 0 0),(13,.fn (.func 117) [] [.ptr 2 0 0])] [14] (cA Try.f63 [true,true,false,true,true]) (cB Try.f63 [true,true,false,true,true]) .busy none],66⟩) (by simp only [List.length_set]) ?_
      refine rgd ?_
      refine ⟨_,wk_refl,?_⟩
      refine wg [1,3,4,17,18,19] [] (rn ?_)
      cases h
      exact ⟨_,rfl,(wk_gc (live:=[1,3,4,17,18,19]) (keep:=[]) kr)⟩
     refine wcF (wp_skip ?_)
     refine wp_post ?_
     refine rga hfol (sy 2 2 ?_)
     refine bind_elim h (fun a39 q40 h=>?_)
     refine idxF (enc:=eI) (ls:=s12.2) (x:=a39) (n:=s9.1) (ob:=3) (j:=4) kr kr q40 gE ?_
     refine loadF (enc:=eI) (ls:=s12.2) (x:=a39) (n:=s9.1) (ob:=3) (j:=4) kr kr q40 gE ?_
     refine sy 5 9 ?_
     refine callW bodyB_89 (g_hidden_watcher_shown_ok p0 s9.1 s12.1) h (fun x41 _ h=>?_)
     refine sy 1 11 ?_
     refine bind_elim h (fun a43 q44 h=>?_)
     refine idxI (enc:=eI) (ls:=s12.2) (x:=a39) (y:=a43) (n:=s9.1) (c:=s12.1) (w:=1) (j:=4) (fl:=true) kr kr q40 q44 rfl gE ?_
     refine storeI (enc:=eI) (ls:=s12.2) (x:=a39) (y:=a43) (y':=zw (a15*x41)) (n:=s9.1) (m:=s12.1) (w:=1) (j:=4) (q:=3) (c:=0) (fl:=true) (v:=vI (zw (a15*x41))) kr kr kr q40 q44 rfl kr kr kr gE ?_
     refine rknN (n:=s12.2.length) (m:=(List.set s12.2 (zt s9.1) (List.set a39 (zt s12.1) (zw (a15*x41)))).length) (S:=fun n45=>⟨[(1,.ptr 0 0 0),(3,.ptr 1 0 0),(4,vI s9.1),(17,z1 p0.Hidden.First),(18,vI (zn p0.Hidden.First)),(19,vI s12.1),(5,vI s12.1),(7,vI a15)]++[(25,vI s9.1),(26,vB false),(52,.ref 3 0 n45),(53,vI s9.1),(54,.ptr 3 (zt s9.1) 0),(55,.ref (fid 4 (zt s9.1)) 0 a39.length),(56,vI s12.1),(57,vI a15),(58,.agg [vI p0.Hidden.Grain,z1 p0.Hidden.First,z2 p0.Hidden.Step,z2 p0.Hidden.Show,z1 p0.seen]),(59,vI s9.1),(60,vI s12.1),(61,vI x41),(62,vI (zw (a15*x41))),(63,.ptr (fid 4 (zt s9.1)) (zt s12.1) 0)],[oX true false 5 (.agg [vI p0.Hidden.Grain,z1 p0.Hidden.First,z2 p0.Hidden.Step,z2 p0.Hidden.Show,z1 p0.seen]),oX false false 1 (.ref 3 0 n45),oX true false 5 (.agg [vI p0.Hidden.Grain,z1 p0.Hidden.First,z2 p0.Hidden.Step,z2 p0.Hidden.Show,z1 p0.seen]),.refs 4 (eF eI (List.set s12.2 (zt s9.1) (List.set a39 (zt s12.1) (zw (a15*x41))))),.fam 1 true (eF eI (List.set s12.2 (zt s9.1) (List.set a39 (zt s12.1) (zw (a15*x41))))),.loop 66 [(1,.ptr 0 0 0),(3,.ptr 1 0 0),(13,.fn (.func 117) [] [.ptr 2 0 0])] [14] (cA Try.f63 [true,true,false,true,true]) (cB Try.f63 [true,true,false,true,true]) .busy none],66⟩) (by simp only [List.length_set]) ?_
     refine rgd ?_
     refine ⟨_,wk_refl,?_⟩
     refine wg [1,3,4,17,18,19] [] (rn ?_)
     cases h
     exact ⟨_,rfl,(wk_gc (live:=[1,3,4,17,18,19]) (keep:=[]) kr)⟩
    refine wcF (wg [] [] ?_)
    refine wp_exit ?_
    cases h
    exact ⟨kr,rfl⟩
   intro x47 h out hx
   subst hx
   refine ⟨⟨[(0,.yld 5),(6,vI (zn p0.seen)),(7,vI s9.1),(8,vB true),(9,vI s9.1),(3,vI s9.1),(10,.yld 5),(11,vI s9.1),(12,vB true)],[oX true false 5 (.agg [vI p0.Hidden.Grain,z1 p0.Hidden.First,z2 p0.Hidden.Step,z2 p0.Hidden.Show,z1 p0.seen]),oX false false 1 (.ref 3 0 x47.length),oX true false 5 (.agg [vI p0.Hidden.Grain,z1 p0.Hidden.First,z2 p0.Hidden.Step,z2 p0.Hidden.Show,z1 p0.seen]),.refs 4 (eF eI x47),.fam 1 true (eF eI x47),.loop 66 [(1,.ptr 0 0 0),(3,.ptr 1 0 0),(13,.fn (.func 117) [] [.ptr 2 0 0])] [14] (cA Try.f63 [true,true,false,true,true]) (cB Try.f63 [true,true,false,true,true]) .ready none],15⟩,by as_aux_lemma=>kernel_rfl,?_⟩
   refine sz 1 4 (reg_end rfl ?_)
   refine ⟨_,wk_refl,?_⟩
   refine wcF (wp_skip (wg [0,6,7] [] (rn ?_)))
   cases h
   exact ⟨_,rfl,(wk_gc (live:=[0,6,7]) (keep:=[]) kr)⟩
  refine wcF (wg [] [] ?_)
  refine wp_exit ?_
  cases h
  exact ⟨kr,rfl⟩
 intro x49 h out hx
 subst hx
 refine ⟨.go .normal ⟨[(1,.ptr 0 0 0),(3,.ptr 1 0 0),(13,.fn (.func 117) [] [.ptr 2 0 0])],[oX true false 5 (.agg [vI p0.Hidden.Grain,z1 p0.Hidden.First,z2 p0.Hidden.Step,z2 p0.Hidden.Show,z1 p0.seen]),oX false false 1 (.ref 3 0 x49.length),oX true false 5 (.agg [vI p0.Hidden.Grain,z1 p0.Hidden.First,z2 p0.Hidden.Step,z2 p0.Hidden.Show,z1 p0.seen]),.refs 4 (eF eI x49),.fam 1 true (eF eI x49),.dead],66⟩,by as_aux_lemma=>kernel_rfl,?_⟩
 refine wp_seq ?_
 refine wp_post ?_
 refine rn ?_
 refine ⟨_,wk_refl,?_⟩
 refine wgc [2] [3,4] ⟨[(2,.ref 0 0 x49.length)],[.refs 1 (eF eI x49),.fam 1 true (eF eI x49)],66⟩ ?_
 refine wp_wk (wk_frzF 0 1 (enc:=eI) (ls:=x49) (st':=⟨[(2,.ref 0 0 x49.length)],[oR false 1 z1 x49,.dead],66⟩) rfl rfl kr) ?_
 cases h
 exact wp_ret (show fnOut _ _ _ _=_ from by kernel_rfl)
theorem g_hidden_Forward_ok (p0:Tapi_Hidden) (p1:(List Int)) (x:((List (List Int)) × Int)) (h:g_hidden_Forward p0 p1=some x):CallOk Try.prog 27 [.agg [vI p0.Grain,z1 p0.First,z2 p0.Step,z2 p0.Show],z1 p1] (.ret (.tup [.ref 0 0 x.1.length,vI x.2]) [oR false 1 z1 x.1]):=by
 refine fn_ok [] Try.func27 rfl (by decide +kernel) rfl ?_
 unfold g_hidden_Forward at h
 refine wp_eqB (base':=0) (st':=⟨[(0,.agg [vI p0.Grain,z1 p0.First,z2 p0.Step,z2 p0.Show]),(1,z1 p1)],[],19⟩) kr kr ?_
 refine wp_seq (reg_in ?_)
 refine sgL false [] [] false gE ?_
 refine sz 2 3 (reg_end rfl (wp_seq (reg_in (sz 2 2 ?_))))
 refine callW bodyB_62 (g_hidden_newWatcher_ok p0 p1) h (fun x1 _ h=>?_)
 refine sz 3 6 ?_
 refine sgL false [] [] false gE ?_
 refine sz 2 9 (reg_end rfl (wp_seq (wp_seq ?_)))
 refine wgc [6,7] [1] ⟨[(6,.ptr 0 0 0),(7,vI x1.2)],[oX true false 5 (.agg [vI x1.1.Hidden.Grain,z1 x1.1.Hidden.First,z2 x1.1.Hidden.Step,z2 x1.1.Hidden.Show,z1 x1.1.seen])],19⟩ ?_
 refine rn ?_
 refine wb [15] h (fun q4 h=>?_) (fun q4 h=>?_)
 ·refine wcT (sq (wg [4,5] [] ?_))
  refine wp_wk (wk_nil 4 1 true false gE) ?_
  cases h
  exact wp_ret (show fnOut _ _ _ _=_ from by kernel_rfl)
 refine wcF (wp_skip (wp_seq (reg_in (sz 1 1 ?_))))
 refine callW bodyB_63 (g_hidden_watcher_forward_ok x1.1) h (fun x5 _ h=>?_)
 refine sz 2 4 (reg_end rfl (wg [4,5] [1] ?_))
 cases h
 exact wp_ret (show fnOut _ _ _ _=_ from by kernel_rfl)
theorem g_path_newSearcher_ok (p0:Tapi_Hidden) (p1:(List Int)) (x:(Tpath_searcher × Int)) (h:g_path_newSearcher p0 p1=some x):CallOk Try.prog 35 [.agg [vI p0.Grain,z1 p0.First,z2 p0.Step,z2 p0.Show],z1 p1] (.ret (.tup [.agg [vI x.1.Hidden.Grain,z1 x.1.Hidden.First,z2 x.1.Hidden.Step,z2 x.1.Hidden.Show,z1 x.1.seen],vI x.2]) []):=by
 refine fn_ok [[.keep,.lst true,.lst false,.lst false,.lst true],[.keep]] Try.func35 rfl (by decide +kernel) rfl ?_
 unfold g_path_newSearcher at h
 refine wp_eqB (base':=0) (st':=⟨[(0,.agg [vI p0.Grain,z1 p0.First,z2 p0.Step,z2 p0.Show]),(1,z1 p1)],[],21⟩) kr kr ?_
 refine wp_seq (reg_in ?_)
 refine sgL false [] [] false gE ?_
 refine sgL false [] [] false gE ?_
 refine sz 1 3 (reg_end rfl (wp_seq (wp_seq (reg_in (sz 2 2 ?_)))))
 refine callW bodyB_27 (g_hidden_Forward_ok p0 p1) h (fun x1 _ h=>?_)
 refine sz 5 8 (reg_end rfl (wp_seq ?_))
 refine wgc [1,2,4,7] [0,1] ⟨[(1,z1 p1),(2,.ptr 0 0 0),(4,.ptr 1 0 0),(7,vI x1.2)],[oX true false 4 (.agg [vI p0.Grain,z1 p0.First,z2 p0.Step,z2 p0.Show]),oX true false 5 (.agg [vI 0,.nils,.nils,.nils,.nils])],21⟩ ?_
 refine rn ?_
 refine wb [15] h (fun q4 h=>?_) (fun q4 h=>?_)
 ·refine wcT (sq (wg [4,5] [1] ?_))
  cases h
  exact wp_ret (show fnOut _ _ _ _=_ from by kernel_rfl)
 refine wcF (wp_skip (sq (wg [4,5] [1] ?_)))
 cases h
 exact wp_ret (show fnOut _ _ _ _=_ from by kernel_rfl)
theorem g_path_searcher_shown_ok (p0:Tpath_searcher) (p1:Int) (p2:Int) (x:Int) (h:g_path_searcher_shown p0 p1 p2=some x):CallOk Try.prog 70 [.agg [vI p0.Hidden.Grain,z1 p0.Hidden.First,z2 p0.Hidden.Step,z2 p0.Hidden.Show,z1 p0.seen],vI p1,vI p2] (.ret (vI x) []):=by
 refine fn_ok [] Try.func70 rfl (by decide +kernel) rfl ?_
 unfold g_path_searcher_shown at h
 refine wp_eqB (base':=0) (st':=⟨[(0,.agg [vI p0.Hidden.Grain,z1 p0.Hidden.First,z2 p0.Hidden.Step,z2 p0.Hidden.Show,z1 p0.seen]),(1,vI p1),(2,vI p2)],[],29⟩) kr kr ?_
 refine wp_seq (reg_in ?_)
 refine sgL false [] [] false gE ?_
 refine sz 1 2 (reg_end rfl (wp_seq (wp_seq (reg_in (sz 3 3 ?_)))))
 refine bind_elim h (fun a1 q2 h=>?_)
 refine idxL' (enc:=eI) (l:=p0.seen) (n:=p1) (fl:=true) (w:=1) (a:=a1) kr rfl gE q2 ?_
 refine sz 2 6 (reg_end rfl ?_)
 refine wbz h (fun q4 h=>?_) (fun q4 h=>?_)
 ·refine wp_seq (wg [3] [0] (rn ?_))
  refine wgc [6] [] ⟨[(6,vI p0.Hidden.Grain)],[],29⟩ ?_
  cases h
  exact wp_ret (show fnOut _ _ _ _=_ from by kernel_rfl)
 refine wp_skip (wp_seq ?_)
 refine wgc [1,2,3] [0] ⟨[(1,vI p1),(2,vI p2),(3,.ptr 0 0 0)],[oX true false 5 (.agg [vI p0.Hidden.Grain,z1 p0.Hidden.First,z2 p0.Hidden.Step,z2 p0.Hidden.Show,z1 p0.seen])],29⟩ ?_
 refine rga hfol (sy 4 4 ?_)
 refine bind_elim h (fun a5 q6 h=>?_)
 refine idxL' (enc:=z1) (l:=p0.Hidden.Show) (n:=p2) (fl:=false) (w:=1) (a:=a5) kr rfl gE q6 ?_
 refine sy 4 9 ?_
 refine idxL' (enc:=eI) (l:=p0.seen) (n:=p1) (fl:=true) (w:=1) (a:=a1) kr rfl gE q2 ?_
 refine sy 1 11 ?_
 refine bind_elim h (fun a7 q8 h=>?_)
 refine idxL' (enc:=eI) (l:=a5) (n:=a1) (fl:=true) (w:=1) (a:=a7) kr rfl gE q8 ?_
 refine sy 2 14 (rgd (wg [6] [] ?_))
 cases h
 exact wp_ret (show fnOut _ _ _ _=_ from by kernel_rfl)
theorem g_path_searcher_into_ok (p0:Tpath_searcher) (p1:Int) (p2:Int) (p3:Int) (x:Int) (h:g_path_searcher_into p0 p1 p2 p3=some x):CallOk Try.prog 36 [.agg [vI p0.Hidden.Grain,z1 p0.Hidden.First,z2 p0.Hidden.Step,z2 p0.Hidden.Show,z1 p0.seen],vI p1,vI p2,vI p3] (.ret (vI x) []):=by
 refine fn_ok [] Try.func36 rfl (by decide +kernel) rfl ?_
 unfold g_path_searcher_into at h
 refine wp_eqB (base':=0) (st':=⟨[(0,.agg [vI p0.Hidden.Grain,z1 p0.Hidden.First,z2 p0.Hidden.Step,z2 p0.Hidden.Show,z1 p0.seen]),(1,vI p1),(2,vI p2),(3,vI p3)],[],36⟩) kr kr ?_
 refine wp_seq (reg_in ?_)
 refine sgL false [] [] false gE ?_
 refine sz 1 2 (reg_end rfl (wp_seq (sq ?_)))
 refine wb [10] h (fun q2 h=>?_) (fun q2 h=>?_)
 ·refine wcT (wp_seq (wg [1,3,4] [0] (rga hfol (sy 4 4 ?_))))
  refine bind_elim h (fun a3 q4 h=>?_)
  refine idxL' (enc:=eI) (l:=p0.Hidden.First) (n:=p3) (fl:=true) (w:=1) (a:=a3) kr rfl gE q4 ?_
  refine sy 4 9 ?_
  refine callW bodyB_70 (g_path_searcher_shown_ok p0 p1 p3) h (fun x5 _ h=>?_)
  refine sy 2 12 (rgd ?_)
  refine wgc [8] [] ⟨[(8,vI (zw (a3*x5)))],[],36⟩ ?_
  cases h
  exact wp_ret (show fnOut _ _ _ _=_ from by kernel_rfl)
 refine wcF (wp_skip (wp_seq (rga hfol (sy 4 4 ?_))))
 refine bind_elim h (fun a7 q8 h=>?_)
 refine idxL' (enc:=z1) (l:=p0.Hidden.Step) (n:=p2) (fl:=false) (w:=1) (a:=a7) kr rfl gE q8 ?_
 refine sy 2 7 ?_
 refine bind_elim h (fun a9 q10 h=>?_)
 refine idxL' (enc:=eI) (l:=a7) (n:=p3) (fl:=true) (w:=1) (a:=a9) kr rfl gE q10 ?_
 refine sy 4 12 ?_
 refine callW bodyB_70 (g_path_searcher_shown_ok p0 p1 p3) h (fun x11 _ h=>?_)
 refine sy 2 15 (rgd ?_)
 refine wgc [8] [] ⟨[(8,vI (zw (a9*x11)))],[],36⟩ ?_
 cases h
 exact wp_ret (show fnOut _ _ _ _=_ from by kernel_rfl)
noncomputable abbrev s15_4 (x1:(Tpath_searcher × Int)):List AObj:=[oX true false 5 (.agg [vI x1.1.Hidden.Grain,z1 x1.1.Hidden.First,z2 x1.1.Hidden.Step,z2 x1.1.Hidden.Show,z1 x1.1.seen])]
theorem g_path_Weight_ok (p0:Tapi_Hidden) (p1:(List Int)) (p2:(List Int)) (x:(Int × Int)) (h:g_path_Weight p0 p1 p2=some x):CallOk Try.prog 15 [.agg [vI p0.Grain,z1 p0.First,z2 p0.Step,z2 p0.Show],z1 p1,z1 p2] (.ret (.tup [vI x.1,vI x.2]) []):=by
 refine fn_ok [] Try.func15 rfl (by decide +kernel) rfl ?_
 unfold g_path_Weight at h
 refine wp_eqB (base':=0) (st':=⟨[(0,.agg [vI p0.Grain,z1 p0.First,z2 p0.Step,z2 p0.Show]),(1,z1 p1),(2,z1 p2)],[],55⟩) kr kr ?_
 refine wp_seq (reg_in ?_)
 refine sgL false [] [] false gE ?_
 refine sz 2 3 (reg_end rfl (wp_seq (reg_in (sz 2 2 ?_))))
 refine callW bodyB_35 (g_path_newSearcher_ok p0 p1) h (fun x1 _ h=>?_)
 refine sz 3 6 ?_
 refine sgL false [] [] false gE ?_
 refine sz 2 9 (reg_end rfl (wp_seq (wp_seq ?_)))
 refine wgc [1,2,8,9] [1] ⟨[(1,z1 p1),(2,z1 p2),(8,.ptr 0 0 0),(9,vI x1.2)],(s15_4 x1),55⟩ ?_
 refine rn ?_
 refine wb [21] h (fun q4 h=>?_) (fun q4 h=>?_)
 ·refine wcT (wp_seq (wg [9] [] (rn (wg [6,7] [] ?_))))
  cases h
  exact wp_ret (show fnOut _ _ _ _=_ from by kernel_rfl)
 refine wcF (wp_skip (wp_seq (wp_seq (reg_in (sz 1 1 ?_)))))
 refine lenL (enc:=eI) (l:=p2) (fl:=true) kr gE ?_
 refine sz 1 3 ?_
 refine lenL (enc:=eI) (l:=p1) (fl:=true) kr gE ?_
 refine sz 1 5 (reg_end rfl ?_)
 refine wbz h (fun q6 h=>?_) (fun q6 h=>?_)
 ·refine wp_seq (wg [] [] (rn ?_))
  refine wgc [6,7] [] ⟨[(6,vI 0),(7,vI 2)],[],55⟩ ?_
  cases h
  exact wp_ret (show fnOut _ _ _ _=_ from by kernel_rfl)
 refine wp_skip (wp_seq ?_)
 refine wgc [2,8] [0] ⟨[(2,z1 p2),(8,.ptr 0 0 0)],(s15_4 x1),55⟩ ?_
 refine rn (wp_seq (wp_seq (reg_in (sz 1 1 ?_))))
 refine lenL (enc:=eI) (l:=p2) (fl:=true) kr gE ?_
 refine sz 1 3 (reg_end rfl (wp_block ?_))
 refine wwh h (fun s7=>⟨[(8,.ptr 0 0 0),(10,vI s7.1),(11,vI s7.2.1),(28,z1 p2),(29,vI (zn p2)),(30,vI s7.2.2)],(s15_4 x1),55⟩) (fun x out=>out=match x with | .inl v=>.go (.ret) ⟨[(6,vI 0),(7,vI 2)],[],55⟩ | .inr v=>.go (.exit 0) ⟨[(10,vI v)],[],55⟩) (wk_gc (live:=[8,10,11,28,29,30]) (keep:=[0]) kr) ?_ ?_
 ·intro s7 o h
  unfold g_path_Weight_b0 at h
  refine sq (wp_seq ?_)
  refine wb [31] h (fun q9 h=>?_) (fun q9 h=>?_)
  ·refine wcT (wp_skip (wp_seq (wp_block (wp_seq (reg_in (sz 1 1 ?_))))))
   refine bind_elim h (fun a10 q11 h=>?_)
   refine idxL' (enc:=eI) (l:=p2) (n:=s7.2.2) (fl:=true) (w:=1) (a:=a10) kr rfl gE q11 ?_
   refine sz 3 5 (reg_end rfl (wp_seq (wp_seq (reg_in (sz 3 3 ?_)))))
   refine rw_wk (wk_gc (live:=[8,10,11,28,29,30,12,13,37]) (keep:=[0]) (st':=⟨[(8,.ptr 0 0 0),(10,vI s7.1),(11,vI s7.2.1),(28,z1 p2),(29,vI (zn p2)),(30,vI s7.2.2),(12,vI s7.2.2),(13,vI a10),(37,vB (decide (a10 < 0)))],(s15_4 x1),55⟩) kr) ?_
   refine rb [37] h (fun q13 h=>?_) (fun q13 h=>?_)
   ·refine sz 7 10 (reg_end rfl (wcT (wp_seq (wg [] [] (rn (wg [6,7] [] ?_))))))
    refine wp_ret ?_
    cases h
    exact ⟨kr,rfl⟩
   refine sz 4 7 ?_
   refine lenL (enc:=eI) (l:=x1.1.Hidden.First) (fl:=true) kr gE ?_
   refine sz 2 10 (reg_end rfl ?_)
   refine wbz h (fun q15 h=>?_) (fun q15 h=>?_)
   ·refine wp_seq (wg [] [] (rn (wg [6,7] [] ?_)))
    refine wp_ret ?_
    cases h
    exact ⟨kr,rfl⟩
   refine wp_skip (wp_seq (wg [8,10,11,28,29,30,12,13] [0] (reg_in (sz 5 5 ?_))))
   refine callW bodyB_36 (g_path_searcher_into_ok x1.1 s7.2.2 s7.2.1 a10) h (fun x16 _ h=>?_)
   refine sz 2 8 (reg_end rfl ?_)
   refine wgc [8,10,28,29,30,13] [0] ⟨[(8,.ptr 0 0 0),(10,vI (zw (s7.1*x16))),(28,z1 p2),(29,vI (zn p2)),(30,vI s7.2.2),(13,vI a10)],(s15_4 x1),55⟩ ?_
   refine rn (rn ?_)
   cases h
   exact ⟨_,rfl,(wk_gc (live:=[8,10,11,28,29,30]) (keep:=[0]) kr)⟩
  refine wcF (wg [10] [] ?_)
  refine wp_exit ?_
  cases h
  exact ⟨kr,rfl⟩
 intro x18 h out hx
 subst hx
 rcases x18 with x19 | x20
 ·dsimp only at h ⊢
  cases h
  show fnOut _ _ _ _=_
  kernel_rfl
 ·dsimp only at h ⊢
  refine sq (wg [6,7] [] ?_)
  cases h
  exact wp_ret (show fnOut _ _ _ _=_ from by kernel_rfl)
theorem g_cmp_isNaN_int_ok (p0:Int) (x:Bool) (h:g_cmp_isNaN_int p0=some x):CallOk Try.prog 74 [vI p0] (.ret (vB x) []):=by
 refine fn_ok [] Try.func74 rfl (by decide +kernel) rfl ?_
 unfold g_cmp_isNaN_int at h
 refine wp_eqB (base':=0) (st':=⟨[(0,vI p0)],[],6⟩) kr kr ?_
 refine sq (sq (wg [2] [] ?_))
 cases h
 exact wp_ret (show fnOut _ _ _ _=_ from by kernel_rfl)
theorem g_cmp_Compare_int_ok (p0:Int) (p1:Int) (x:Int) (h:g_cmp_Compare_int p0 p1=some x):CallOk Try.prog 41 [vI p0,vI p1] (.ret (vI x) []):=by
 refine fn_ok [] Try.func41 rfl (by decide +kernel) rfl ?_
 unfold g_cmp_Compare_int at h
 refine wp_eqB (base':=0) (st':=⟨[(0,vI p0),(1,vI p1)],[],20⟩) kr kr ?_
 refine sq (wp_seq (reg_in (sz 1 1 ?_)))
 refine callW bodyB_74 (g_cmp_isNaN_int_ok p0) h (fun x1 _ h=>?_)
 refine sz 1 3 (reg_end rfl (wp_seq (reg_in (sz 1 1 ?_))))
 refine callW bodyB_74 (g_cmp_isNaN_int_ok p1) h (fun x3 _ h=>?_)
 refine sz 1 3 (reg_end rfl (wp_seq (wp_seq (wg [0,1,5,6] [] (rn ?_)))))
 refine wb [5,11] h (fun q6 h=>?_) (fun q6 h=>?_)
 ·refine wcT (wp_seq (sq ?_))
  refine wbz h (fun q8 h=>?_) (fun q8 h=>?_)
  ·refine wp_seq ?_
   refine wgc [] [] ⟨[],[],20⟩ ?_
   refine rn (wg [4] [] ?_)
   cases h
   exact wp_ret (show fnOut _ _ _ _=_ from by kernel_rfl)
  refine wp_skip (wp_seq ?_)
  refine wgc [] [] ⟨[],[],20⟩ ?_
  refine rn (wg [4] [] ?_)
  cases h
  exact wp_ret (show fnOut _ _ _ _=_ from by kernel_rfl)
 refine wcF (wp_skip (wp_seq (sq ?_)))
 refine wb [6,13] h (fun q10 h=>?_) (fun q10 h=>?_)
 ·refine wcT (wp_seq ?_)
  refine wgc [] [] ⟨[],[],20⟩ ?_
  refine rn (wg [4] [] ?_)
  cases h
  exact wp_ret (show fnOut _ _ _ _=_ from by kernel_rfl)
 refine wcF (wp_skip (wp_seq (sq ?_)))
 refine wbz h (fun q12 h=>?_) (fun q12 h=>?_)
 ·refine wp_seq ?_
  refine wgc [] [] ⟨[],[],20⟩ ?_
  refine rn (wg [4] [] ?_)
  cases h
  exact wp_ret (show fnOut _ _ _ _=_ from by kernel_rfl)
 refine wp_skip (wp_seq (wp_seq ?_))
 refine wgc [0,1] [] ⟨[(0,vI p0),(1,vI p1)],[],20⟩ ?_
 refine rn ?_
 refine wbz h (fun q14 h=>?_) (fun q14 h=>?_)
 ·refine wp_seq (wg [] [] (rn (wg [4] [] ?_)))
  cases h
  exact wp_ret (show fnOut _ _ _ _=_ from by kernel_rfl)
 refine wp_skip (wp_seq (wg [] [] (rn (wg [4] [] ?_))))
 cases h
 exact wp_ret (show fnOut _ _ _ _=_ from by kernel_rfl)
theorem g_slices_Compare_int_int_ok (p0:(List Int)) (p1:(List Int)) (x:Int) (h:g_slices_Compare_int_int p0 p1=some x):CallOk Try.prog 26 [z1 p0,z1 p1] (.ret (vI x) []):=by
 refine fn_ok [] Try.func26 rfl (by decide +kernel) rfl ?_
 unfold g_slices_Compare_int_int at h
 refine wp_eqB (base':=0) (st':=⟨[(0,z1 p0),(1,z1 p1)],[],36⟩) kr kr ?_
 refine sq (wp_seq (wp_seq (reg_in (sz 1 1 ?_))))
 refine lenL (enc:=eI) (l:=p0) (fl:=true) kr gE ?_
 refine sz 1 3 (reg_end rfl (wp_block ?_))
 refine wwh h (fun s1=>⟨[(0,z1 p0),(1,z1 p1),(9,z1 p0),(10,vI (zn p0)),(11,vI s1)],[],36⟩) (fun x out=>out=match x with | .inl v=>.go (.ret) ⟨[(4,vI v)],[],36⟩ | .inr v=>.go (.exit 0) ⟨[(0,z1 p0),(1,z1 p1)],[],36⟩) (wk_gc (live:=[0,1,9,10,11]) (keep:=[]) kr) ?_ ?_
 ·intro s1 o h
  unfold g_slices_Compare_int_int_b0 at h
  refine sq (wp_seq ?_)
  refine wb [12] h (fun q3 h=>?_) (fun q3 h=>?_)
  ·refine wcT (wp_skip (wp_seq (wp_block (wp_seq (reg_in (sz 1 1 ?_))))))
   refine bind_elim h (fun a4 q5 h=>?_)
   refine idxL' (enc:=eI) (l:=p0) (n:=s1) (fl:=true) (w:=1) (a:=a4) kr rfl gE q5 ?_
   refine sz 3 5 (reg_end rfl (wp_seq (wp_seq (reg_in (sz 2 2 ?_)))))
   refine lenL (enc:=eI) (l:=p1) (fl:=true) kr gE ?_
   refine sz 1 4 (reg_end rfl ?_)
   refine wbz h (fun q7 h=>?_) (fun q7 h=>?_)
   ·refine wp_seq ?_
    refine wgc [] [] ⟨[],[],36⟩ ?_
    refine rn (wg [4] [] ?_)
    refine wp_ret ?_
    cases h
    exact ⟨kr,rfl⟩
   refine wp_skip (wp_seq ?_)
   refine wgc [0,1,9,10,11,5,6] [] ⟨[(0,z1 p0),(1,z1 p1),(9,z1 p0),(10,vI (zn p0)),(11,vI s1),(5,vI s1),(6,vI a4)],[],36⟩ ?_
   refine reg_in (sz 2 2 ?_)
   refine bind_elim h (fun a8 q9 h=>?_)
   refine idxL' (enc:=eI) (l:=p1) (n:=s1) (fl:=true) (w:=1) (a:=a8) kr rfl gE q9 ?_
   refine sz 2 5 (reg_end rfl (wp_seq (wg [0,1,9,10,11,6,7] [] (reg_in (sz 2 2 ?_)))))
   refine callW bodyB_41 (g_cmp_Compare_int_ok a4 a8) h (fun x10 _ h=>?_)
   refine sz 1 4 (reg_end rfl (wp_seq (wg [0,1,9,10,11,8] [] (rn ?_))))
   refine wb [28] h (fun q13 h=>?_) (fun q13 h=>?_)
   ·refine wcT (wp_seq ?_)
    refine wgc [8] [] ⟨[(8,vI x10)],[],36⟩ ?_
    refine rn (wg [4] [] ?_)
    refine wp_ret ?_
    cases h
    exact ⟨kr,rfl⟩
   refine wcF (wp_skip (rn ?_))
   cases h
   exact ⟨_,rfl,(wk_gc (live:=[0,1,9,10,11]) (keep:=[]) kr)⟩
  refine wcF (wg [0,1] [] ?_)
  refine wp_exit ?_
  cases h
  exact ⟨kr,rfl⟩
 intro x14 h out hx
 subst hx
 rcases x14 with x15 | x16
 ·dsimp only at h ⊢
  cases h
  show fnOut _ _ _ _=_
  kernel_rfl
 ·dsimp only at h ⊢
  refine wp_seq (wp_seq (reg_in (sz 1 1 ?_)))
  refine lenL (enc:=eI) (l:=p0) (fl:=true) kr gE ?_
  refine sz 1 3 ?_
  refine lenL (enc:=eI) (l:=p1) (fl:=true) kr gE ?_
  refine sz 1 5 (reg_end rfl ?_)
  refine wbz h (fun q18 h=>?_) (fun q18 h=>?_)
  ·refine wp_seq (wg [] [] (rn (wg [4] [] ?_)))
   cases h
   exact wp_ret (show fnOut _ _ _ _=_ from by kernel_rfl)
  refine wp_skip (wp_seq (wg [] [] (rn (wg [4] [] ?_))))
  cases h
  exact wp_ret (show fnOut _ _ _ _=_ from by kernel_rfl)
theorem g_cmp_Or_int_ok (p0:(List Int)) (x:Int) (h:g_cmp_Or_int p0=some x):CallOk Try.prog 40 [z1 p0] (.ret (vI x) []):=by
 refine fn_ok [] Try.func40 rfl (by decide +kernel) rfl ?_
 unfold g_cmp_Or_int at h
 refine wp_eqB (base':=0) (st':=⟨[(0,z1 p0)],[],18⟩) kr kr ?_
 refine sq (sq (wp_seq (wp_seq (reg_in (sz 1 1 ?_)))))
 refine lenL (enc:=eI) (l:=p0) (fl:=true) kr gE ?_
 refine sz 1 3 (reg_end rfl (wp_block ?_))
 refine wwh h (fun s1=>⟨[(3,vI 0),(6,z1 p0),(7,vI (zn p0)),(8,vI s1)],[],18⟩) (fun x out=>out=match x with | .inl v=>.go (.ret) ⟨[(2,vI v)],[],18⟩ | .inr v=>.go (.exit 0) ⟨[(3,vI 0)],[],18⟩) (wk_gc (live:=[3,6,7,8]) (keep:=[]) kr) ?_ ?_
 ·intro s1 o h
  unfold g_cmp_Or_int_b0 at h
  refine sq (wp_seq ?_)
  refine wb [9] h (fun q3 h=>?_) (fun q3 h=>?_)
  ·refine wcT (wp_skip (wp_seq (wp_block (wp_seq (reg_in ?_)))))
   refine bind_elim h (fun a4 q5 h=>?_)
   refine idxL' (enc:=eI) (l:=p0) (n:=s1) (fl:=true) (w:=1) (a:=a4) kr rfl gE q5 ?_
   refine sz 2 3 (reg_end rfl (sq ?_))
   refine wbz h (fun q7 h=>?_) (fun q7 h=>?_)
   ·refine wp_seq ?_
    refine wgc [5] [] ⟨[(5,vI a4)],[],18⟩ ?_
    refine rn (wg [2] [] ?_)
    refine wp_ret ?_
    cases h
    exact ⟨kr,rfl⟩
   refine wp_skip ?_
   refine wgc [3,6,7,8] [] ⟨[(3,vI 0),(6,z1 p0),(7,vI (zn p0)),(8,vI s1)],[],18⟩ ?_
   refine rn ?_
   cases h
   exact ⟨_,rfl,(wk_gc (live:=[3,6,7,8]) (keep:=[]) kr)⟩
  refine wcF (wg [3] [] ?_)
  refine wp_exit ?_
  cases h
  exact ⟨kr,rfl⟩
 intro x8 h out hx
 subst hx
 rcases x8 with x9 | x10
 ·dsimp only at h ⊢
  cases h
  show fnOut _ _ _ _=_
  kernel_rfl
 ·dsimp only at h ⊢
  refine sq (wg [2] [] ?_)
  cases h
  exact wp_ret (show fnOut _ _ _ _=_ from by kernel_rfl)
theorem g_path_Most_1_ok (p0:Tpath_weighed) (p1:Tpath_weighed) (x:Int) (h:g_path_Most_1 p0 p1=some x):CallOk Try.prog 39 [.agg [vI p0.weight,z1 p0.path],.agg [vI p1.weight,z1 p1.path]] (.ret (vI x) []):=by
 refine fn_ok [] Try.func39 rfl (by decide +kernel) rfl ?_
 unfold g_path_Most_1 at h
 refine wp_eqB (base':=0) (st':=⟨[(0,.agg [vI p0.weight,z1 p0.path]),(1,.agg [vI p1.weight,z1 p1.path])],[],17⟩) kr kr ?_
 refine wp_seq (reg_in ?_)
 refine sgL false [] [] false gE ?_
 refine sgL false [] [] false gE ?_
 refine sz 1 3 (reg_end rfl (wp_seq (rga hfol (sy 4 4 ?_))))
 refine callW bodyB_41 (g_cmp_Compare_int_ok p1.weight p0.weight) h (fun x1 _ h=>?_)
 refine sy 4 9 ?_
 refine callW bodyB_26 (g_slices_Compare_int_int_ok p0.path p1.path) h (fun x3 _ h=>?_)
 refine sgL false [] [] true gE ?_
 refine callR (as0:=[.ref 2 0 2]) (ids:=[2]) kr bodyB_40 (msnap_cons (show snap _ _ _=some (_,[2]) from kr) msnap_nil (by rfl)) (fun x5 q6=>g_cmp_Or_int_ok [x1,x3] x5 q6) gF h (fun x5 q6 h=>?_)
 refine sy 1 13 (rgd ?_)
 refine wgc [4] [] ⟨[(4,vI x5)],[],17⟩ ?_
 cases h
 exact wp_ret (show fnOut _ _ _ _=_ from by kernel_rfl)
theorem g_math_bits_Mul64_ok (p0:Int) (p1:Int) (x:(Int × Int)) (h:g_math_bits_Mul64 p0 p1=some x):CallOk Try.prog 110 [.int .u64 p0,.int .u64 p1] (.ret (.tup [.int .u64 x.1,.int .u64 x.2]) []):=by
 refine fn_ok [] Try.func110 rfl (by decide +kernel) rfl ?_
 unfold g_math_bits_Mul64 at h
 refine wp_eqB (base':=0) (st':=⟨[(0,.int .u64 p0),(1,.int .u64 p1)],[],51⟩) kr kr ?_
 refine sq (sq (sq (wp_seq (wg [0,1,6,7] [] (rn (sq (sq (wp_seq ?_))))))))
 refine wgc [0,1,6,7,8,9,10] [] ⟨[(0,.int .u64 p0),(1,.int .u64 p1),(6,.int .u64 (zv (BitVec.ofInt (IntKind.bits .u64) p0 &&& BitVec.ofInt (IntKind.bits .u64) 4294967295).toNat)),(7,.int .u64 (Int.fdiv p0 (2^min (zt 32) (IntKind.bits .u64)))),(8,.int .u64 (zv (BitVec.ofInt (IntKind.bits .u64) p1 &&& BitVec.ofInt (IntKind.bits .u64) 4294967295).toNat)),(9,.int .u64 (Int.fdiv p1 (2^min (zt 32) (IntKind.bits .u64)))),(10,.int .u64 (zv ((zv (BitVec.ofInt (IntKind.bits .u64) p0 &&& BitVec.ofInt (IntKind.bits .u64) 4294967295).toNat)*(zv (BitVec.ofInt (IntKind.bits .u64) p1 &&& BitVec.ofInt (IntKind.bits .u64) 4294967295).toNat))))],[],51⟩ ?_
 refine rn (wp_seq (wg [0,1,6,7,9,11] [] (rn (sq (wp_seq (wg [0,1,6,7,9,12,13] [] (rn (wp_seq ?_))))))))
 refine wgc [0,1,7,9,12,13] [] ⟨[(0,.int .u64 p0),(1,.int .u64 p1),(7,.int .u64 (Int.fdiv p0 (2^min (zt 32) (IntKind.bits .u64)))),(9,.int .u64 (Int.fdiv p1 (2^min (zt 32) (IntKind.bits .u64)))),(12,.int .u64 (zv ((zv (BitVec.ofInt (IntKind.bits .u64) (zv ((zv ((Int.fdiv p0 (2^min (zt 32) (IntKind.bits .u64)))*(zv (BitVec.ofInt (IntKind.bits .u64) p1 &&& BitVec.ofInt (IntKind.bits .u64) 4294967295).toNat)))+(Int.fdiv (zv ((zv (BitVec.ofInt (IntKind.bits .u64) p0 &&& BitVec.ofInt (IntKind.bits .u64) 4294967295).toNat)*(zv (BitVec.ofInt (IntKind.bits .u64) p1 &&& BitVec.ofInt (IntKind.bits .u64) 4294967295).toNat))) (2^min (zt 32) (IntKind.bits .u64))))) &&& BitVec.ofInt (IntKind.bits .u64) 4294967295).toNat)+(zv ((zv (BitVec.ofInt (IntKind.bits .u64) p0 &&& BitVec.ofInt (IntKind.bits .u64) 4294967295).toNat)*(Int.fdiv p1 (2^min (zt 32) (IntKind.bits .u64)))))))),(13,.int .u64 (Int.fdiv (zv ((zv ((Int.fdiv p0 (2^min (zt 32) (IntKind.bits .u64)))*(zv (BitVec.ofInt (IntKind.bits .u64) p1 &&& BitVec.ofInt (IntKind.bits .u64) 4294967295).toNat)))+(Int.fdiv (zv ((zv (BitVec.ofInt (IntKind.bits .u64) p0 &&& BitVec.ofInt (IntKind.bits .u64) 4294967295).toNat)*(zv (BitVec.ofInt (IntKind.bits .u64) p1 &&& BitVec.ofInt (IntKind.bits .u64) 4294967295).toNat))) (2^min (zt 32) (IntKind.bits .u64))))) (2^min (zt 32) (IntKind.bits .u64))))],[],51⟩ ?_
 refine rn (wp_seq (wg [0,1,4] [] (rn (wg [4,5] [] ?_))))
 cases h
 exact wp_ret (show fnOut _ _ _ _=_ from by kernel_rfl)
theorem g_math_bits_Mul_ok (p0:Int) (p1:Int) (x:(Int × Int)) (h:g_math_bits_Mul p0 p1=some x):CallOk Try.prog 93 [.int .u64 p0,.int .u64 p1] (.ret (.tup [.int .u64 x.1,.int .u64 x.2]) []):=by
 refine fn_ok [] Try.func93 rfl (by decide +kernel) rfl ?_
 unfold g_math_bits_Mul at h
 refine wp_eqB (base':=0) (st':=⟨[(0,.int .u64 p0),(1,.int .u64 p1)],[],30⟩) kr kr ?_
 refine sq (wp_seq (wcF (wp_skip (wp_seq (reg_in (sz 2 2 ?_))))))
 refine callW bodyB_110 (g_math_bits_Mul64_ok p0 p1) h (fun x1 _ h=>?_)
 refine sz 5 8 (reg_end rfl (wp_seq ?_))
 refine wgc [8,9] [] ⟨[(8,.int .u64 x1.1),(9,.int .u64 x1.2)],[],30⟩ ?_
 refine rn (wg [4,5] [] ?_)
 cases h
 exact wp_ret (show fnOut _ _ _ _=_ from by kernel_rfl)
theorem g_slices_Repeat_path_weighed_path_weighed_ok (p0:(List (List Tpath_weighed))) (p1:Int) (x:(List (List Tpath_weighed))) (h:g_slices_Repeat_path_weighed_path_weighed p0 p1=some x):CallOk Try.prog 75 [eL false (eL false eTpath_weighed) p0,vI p1] (.ret (.ref 0 0 x.length) [oR false 1 (eL false eTpath_weighed) x]):=by
 refine fn_ok [] Try.func75 rfl (by decide +kernel) rfl ?_
 unfold g_slices_Repeat_path_weighed_path_weighed at h
 refine wp_eqB (base':=0) (st':=⟨[(0,eL false (eL false eTpath_weighed) p0),(1,vI p1)],[],48⟩) kr kr ?_
 refine sq (wp_seq (sq ?_))
 refine wb [10] h (fun q2 h=>?_) (fun q2 h=>?_)
 ·refine wcT (reg_in ?_)
  cases h
 refine wcF (wp_skip (wp_seq (reg_in (sz 1 1 ?_))))
 refine lenL (enc:=(eL false eTpath_weighed)) (l:=p0) (fl:=false) kr gE ?_
 refine sz 3 5 ?_
 refine callW bodyB_93 (g_math_bits_Mul_ok (zv ((zn p0))) (zv (p1))) h (fun x3 _ h=>?_)
 refine sz 5 11 (reg_end rfl (wp_seq (wp_seq ?_)))
 refine wgc [0,5,6] [] ⟨[(0,eL false (eL false eTpath_weighed) p0),(5,.int .u64 x3.1),(6,.int .u64 x3.2)],[],48⟩ ?_
 refine reg_in (sz 3 3 ?_)
 refine rb [22,23] h (fun q6 h=>?_) (fun q6 h=>?_)
 ·refine sz 3 6 (reg_end rfl (wcT (wg [0,6] [] (reg_in ?_))))
  cases h
 refine sz 3 6 (reg_end rfl ?_)
 refine wbz h (fun q8 h=>?_) (fun q8 h=>?_)
 ·refine wgc [0,6] [] ⟨[(0,eL false (eL false eTpath_weighed) p0),(6,.int .u64 x3.2)],[],48⟩ ?_
  refine reg_in ?_
  cases h
 refine wp_skip (wp_seq (wg [0,6] [] (reg_in (sz 2 2 ?_))))
 refine mkL (enc:=(eL false eTpath_weighed)) (z:=([]:(List Tpath_weighed))) (z0:=.nils) (n:=zw (x3.2)) (m:=zw (x3.2)) (w:=1) (bytes:=24) [.lst false] false kr rfl gE kr h (fun h=>?_)
 refine sz 1 4 (reg_end rfl (wp_seq (reg_in (sz 2 2 ?_))))
 refine cpR (enc:=(eL false eTpath_weighed)) (l:=(List.replicate (zt (zw (x3.2))) ([]:(List Tpath_weighed)))) (m:=p0) (w:=1) (ob:=0) (i0:=0) (n0:=(List.replicate (zt (zw (x3.2))) ([]:(List Tpath_weighed))).length) (nr:=true) (fl:=false) (fl':=false) (b:=eL false (eL false eTpath_weighed) p0) (rds:=[]) kr kr (elems_lst (fun _=>rfl)) full_le gE kr ?_
 refine rknN (n:=(List.replicate (zt (zw (x3.2))) ([]:(List Tpath_weighed))).length) (m:=(ovr (List.replicate (zt (zw (x3.2))) ([]:(List Tpath_weighed))) 0 (List.take ((List.replicate (zt (zw (x3.2))) ([]:(List Tpath_weighed))).length) p0)).length) (S:=fun n17=>⟨[(0,eL false (eL false eTpath_weighed) p0),(6,.int .u64 x3.2),(28,.int .u64 x3.2),(29,vI (zw (x3.2))),(30,.ref 0 0 n17),(7,.ref 0 0 n17),(31,.ref 0 0 n17),(32,eL false (eL false eTpath_weighed) p0),(33,vI ((min p0.length ((List.replicate (zt (zw (x3.2))) ([]:(List Tpath_weighed))).length):Nat):Int))],[oR false 1 (eL false eTpath_weighed) (ovr (List.replicate (zt (zw (x3.2))) ([]:(List Tpath_weighed))) 0 (List.take ((List.replicate (zt (zw (x3.2))) ([]:(List Tpath_weighed))).length) p0))],48⟩) (ovr_len ..) ?_
 refine sz 1 4 (reg_end rfl (wp_seq (wp_block ?_)))
 refine wwh h (fun s9=>⟨[(7,.ref 0 0 s9.2.length),(8,vI s9.1)],[oR false 1 (eL false eTpath_weighed) s9.2],48⟩) (fun v out=>out=.go (.exit 0) ⟨[(7,.ref 0 0 v.length)],[oR false 1 (eL false eTpath_weighed) v],48⟩) (wk_gc (live:=[7,8]) (keep:=[0]) kr) ?_ ?_
 ·intro s9 o h
  unfold g_slices_Repeat_path_weighed_path_weighed_b0 at h
  refine wp_seq (sq ?_)
  refine wb [37] h (fun q11 h=>?_) (fun q11 h=>?_)
  ·refine wcT (wp_skip (wp_block (rga hfol (sy 3 3 ?_))))
   refine sliceP (enc:=(eL false eTpath_weighed)) (l:=s9.2) (ob:=0) (ro:=false) (nr:=true) (fl:=false) (lo:=(some (vI s9.1))) (hi:=none) (a:=s9.1) (b:=(zn s9.2)) (w:=1) kr kr rfl rfl gE h (fun q12 h=>?_)
   refine sy 2 6 ?_
   refine sliceP (enc:=(eL false eTpath_weighed)) (l:=s9.2) (ob:=0) (ro:=false) (nr:=true) (fl:=false) (lo:=none) (hi:=(some (vI s9.1))) (a:=0) (b:=s9.1) (w:=1) kr kr rfl rfl gE h (fun q13 h=>?_)
   refine cpR (enc:=(eL false eTpath_weighed)) (l:=s9.2) (m:=(sub s9.2 0 s9.1)) (w:=1) (ob:=0) (i0:=(zt s9.1)) (n0:=(zt (zn s9.2) - zt s9.1)) (nr:=true) (fl:=false) (fl':=false) (b:=.ref 0 0 (zt s9.1 - zt (0:Int))) (rds:=[0]) kr kr (elems_part (ob:=0) (a:=0) (b:=s9.1) (ro:=false) kr q13) (part_le q12) gE kr ?_
   refine rknN (n:=s9.2.length) (m:=(ovr s9.2 (zt s9.1) (List.take (zt (zn s9.2) - zt s9.1) (sub s9.2 0 s9.1))).length) (S:=fun n14=>⟨[(7,.ref 0 0 n14),(8,vI s9.1),(34,vI s9.1),(35,.ref 0 0 n14),(36,vI (zn s9.2)),(37,vB true),(38,vI s9.1),(39,.ref 0 0 n14),(40,vI s9.1),(41,.ref 0 (zt s9.1) (zt (zn s9.2) - zt s9.1)),(42,.ref 0 0 n14),(43,vI s9.1),(44,.ref 0 0 (zt s9.1 - zt (0:Int))),(45,vI ((min (sub s9.2 0 s9.1).length (zt (zn s9.2) - zt s9.1):Nat):Int))],[oR false 1 (eL false eTpath_weighed) (ovr s9.2 (zt s9.1) (List.take (zt (zn s9.2) - zt s9.1) (sub s9.2 0 s9.1)))],48⟩) (ovr_len ..) ?_
   refine sy 2 10 (rgd ?_)
   cases h
   exact ⟨_,rfl,(wk_gc (live:=[7,8]) (keep:=[0]) kr)⟩
  refine wcF (wg [7] [0] ?_)
  refine wp_exit ?_
  cases h
  exact ⟨kr,rfl⟩
 intro x16 h out hx
 subst hx
 refine sq (wg [4] [0] ?_)
 cases h
 exact wp_ret (show fnOut _ _ _ _=_ from by kernel_rfl)
theorem g_slices_Concat_path_weighed_path_weighed_ok (p0:(List (List Tpath_weighed))) (x:(List Tpath_weighed)) (h:g_slices_Concat_path_weighed_path_weighed p0=some x):CallOk Try.prog 44 [eL false (eL false eTpath_weighed) p0] (.ret (.ref 0 0 x.length) [oR false 2 eTpath_weighed x]):=by
 refine fn_ok [] Try.func44 rfl (by decide +kernel) rfl ?_
 unfold g_slices_Concat_path_weighed_path_weighed at h
 refine wp_eqB (base':=0) (st':=⟨[(0,eL false (eL false eTpath_weighed) p0)],[],36⟩) kr kr ?_
 refine sq (sq (wp_seq (wp_seq (reg_in (sz 1 1 ?_)))))
 refine lenL (enc:=(eL false eTpath_weighed)) (l:=p0) (fl:=false) kr gE ?_
 refine sz 1 3 (reg_end rfl (wp_block ?_))
 refine wwh h (fun s1=>⟨[(0,eL false (eL false eTpath_weighed) p0),(3,vI s1.1),(9,eL false (eL false eTpath_weighed) p0),(10,vI (zn p0)),(11,vI s1.2)],[],36⟩) (fun v out=>out=.go (.exit 0) ⟨[(0,eL false (eL false eTpath_weighed) p0),(3,vI v)],[],36⟩) (wk_gc (live:=[0,3,9,10,11]) (keep:=[]) kr) ?_ ?_
 ·intro s1 o h
  unfold g_slices_Concat_path_weighed_path_weighed_b0 at h
  refine sq (wp_seq ?_)
  refine wb [12] h (fun q3 h=>?_) (fun q3 h=>?_)
  ·refine wcT (wp_skip (wp_seq (wp_block (wp_seq (reg_in ?_)))))
   refine bind_elim h (fun a4 q5 h=>?_)
   refine idxL' (enc:=(eL false eTpath_weighed)) (l:=p0) (n:=s1.2) (fl:=false) (w:=1) (a:=a4) kr rfl gE q5 ?_
   refine sz 2 3 (reg_end rfl (wp_seq (reg_in (sz 2 2 ?_))))
   refine lenL (enc:=eTpath_weighed) (l:=a4) (fl:=false) kr gE ?_
   refine sz 2 5 (reg_end rfl (wp_seq ?_))
   refine wgc [0,3,9,10,11] [] ⟨[(0,eL false (eL false eTpath_weighed) p0),(3,vI (zw (s1.1+(zn a4)))),(9,eL false (eL false eTpath_weighed) p0),(10,vI (zn p0)),(11,vI s1.2)],[],36⟩ ?_
   refine rn ?_
   refine wb [20] h (fun q7 h=>?_) (fun q7 h=>?_)
   ·refine wcT (reg_in ?_)
    cases h
   refine wcF (wp_skip (rn ?_))
   cases h
   exact ⟨_,rfl,(wk_gc (live:=[0,3,9,10,11]) (keep:=[]) kr)⟩
  refine wcF (wg [0,3] [] ?_)
  refine wp_exit ?_
  cases h
  exact ⟨kr,rfl⟩
 intro x9 h out hx
 subst hx
 refine wp_seq (reg_in (sz 1 1 ?_))
 refine inlR (f:=76) (fn:=Try.f76) (as0:=[.nils,vI x9]) kr Try.func76 rfl (by decide +kernel) rfl ?_
 refine wp_eqB (base':=0) (st':=⟨[(0,.nils),(1,vI x9)],[],27⟩) kr kr ?_
 refine sq (wp_seq (sq ?_))
 refine wb [6] h (fun q11 h=>?_) (fun q11 h=>?_)
 ·refine wcT (reg_in ?_)
  cases h
 refine wcF (wp_skip (wp_seq (sq (wp_seq (wg [0,1] [] (rn ?_))))))
 refine wb [16] h (fun q13 h=>?_) (fun q13 h=>?_)
 ·refine wcT (reg_in (sz 3 3 (sz 1 4 (sz 1 5 ?_))))
  refine appZ (enc:=eTpath_weighed) (z:=((Tpath_weighed.mk 0 []):Tpath_weighed)) (z0:=.agg [vI 0,.nils]) (n:=zw (x9 - 0)) (w:=2) (bytes:=32) [.keep,.lst true] false kr rfl gE kr h (fun h=>?_)
  refine sz 2 8 ?_
  refine sliceP (enc:=eTpath_weighed) (l:=(List.replicate (zt (zw (x9 - 0))) ((Tpath_weighed.mk 0 []):Tpath_weighed))) (ob:=0) (ro:=false) (nr:=true) (fl:=false) (lo:=none) (hi:=(some (vI 0))) (a:=0) (b:=0) (w:=2) kr kr rfl rfl gE h (fun _ h=>?_)
  refine sz 1 10 (reg_end rfl (wp_seq ?_))
  refine wgc [0] [0] ⟨[(0,.ref 0 0 0)],[oR false 2 eTpath_weighed (List.replicate (zt (zw (x9 - 0))) ((Tpath_weighed.mk 0 []):Tpath_weighed))],27⟩ ?_
  refine rn (wg [4] [0] ?_)
  refine wp_ret ?_
  refine ⟨⟨[(0,eL false (eL false eTpath_weighed) p0),(3,vI x9),(23,vI x9),(24,.ref 0 0 0)],[oR false 2 eTpath_weighed (List.replicate (zt (zw (x9 - 0))) ((Tpath_weighed.mk 0 []):Tpath_weighed))],36⟩,by as_aux_lemma=>kernel_rfl,?_⟩
  refine sz 1 3 (reg_end rfl (wp_seq (wp_seq (reg_in (sz 1 1 ?_)))))
  refine lenL (enc:=(eL false eTpath_weighed)) (l:=p0) (fl:=false) kr gE ?_
  refine sgz 1 3 (S:=⟨[(0,eL false (eL false eTpath_weighed) p0),(3,vI x9),(23,vI x9),(24,.ref 0 0 0),(6,.ref 0 0 0),(25,eL false (eL false eTpath_weighed) p0),(26,vI (zn p0)),(27,vI 0)],[oR false 2 eTpath_weighed (List.replicate (zt (zw (x9 - 0))) ((Tpath_weighed.mk 0 []):Tpath_weighed))],36⟩) ?_
  refine reg_end rfl (wp_block ?_)
  refine wp_wk (wk_take 0 0 (enc:=eTpath_weighed) (l:=(List.replicate (zt (zw (x9 - 0))) ((Tpath_weighed.mk 0 []):Tpath_weighed))) (st':=⟨[(0,eL false (eL false eTpath_weighed) p0),(3,vI x9),(23,vI x9),(24,.ref 0 0 (([]:(List Tpath_weighed)).length)),(6,.ref 0 0 (([]:(List Tpath_weighed)).length)),(25,eL false (eL false eTpath_weighed) p0),(26,vI (zn p0)),(27,vI 0)],[oR false 2 eTpath_weighed ([]:(List Tpath_weighed))],36⟩) rfl kr) ?_
  refine wwh h (fun s15=>⟨[(6,.ref 0 0 s15.2.length),(25,eL false (eL false eTpath_weighed) p0),(26,vI (zn p0)),(27,vI s15.1)],[oR false 2 eTpath_weighed s15.2],36⟩) (fun v out=>out=.go (.exit 2) ⟨[(6,.ref 0 0 v.length)],[oR false 2 eTpath_weighed v],36⟩) (wk_gc (live:=[6,25,26,27]) (keep:=[0]) kr) ?_ ?_
  ·intro s15 o h
   unfold g_slices_Concat_path_weighed_path_weighed_b1 at h
   refine sq (wp_seq ?_)
   refine wb [28] h (fun q17 h=>?_) (fun q17 h=>?_)
   ·refine wcT (wp_skip (wp_seq (wp_block (wp_seq (reg_in ?_)))))
    refine bind_elim h (fun a18 q19 h=>?_)
    refine idxL' (enc:=(eL false eTpath_weighed)) (l:=p0) (n:=s15.1) (fl:=false) (w:=1) (a:=a18) kr rfl gE q19 ?_
    refine sz 2 3 (reg_end rfl (reg_in (sz 2 2 ?_)))
    refine appR (enc:=eTpath_weighed) (l:=s15.2) (m:=a18) (w:=2) (bytes:=32) (ob:=0) (nr:=true) (fl:=false) (nr':=true) (fl':=false) (b:=eL false eTpath_weighed a18) (rds:=[]) false kr kr (elems_lst (fun _=>rfl)) rfl gE kr h (fun h=>?_)
    refine sz 1 4 (reg_end rfl ?_)
    refine wgc [6,25,26,27] [1] ⟨[(6,.ref 0 0 ((s15.2++a18).length)),(25,eL false (eL false eTpath_weighed) p0),(26,vI (zn p0)),(27,vI s15.1)],[oR false 2 eTpath_weighed (s15.2++a18)],36⟩ ?_
    refine rn ?_
    cases h
    exact ⟨_,rfl,(wk_gc (live:=[6,25,26,27]) (keep:=[0]) kr)⟩
   refine wcF (wg [6] [0] ?_)
   refine wp_exit ?_
   cases h
   exact ⟨kr,rfl⟩
  intro x21 h out hx
  subst hx
  refine sq (wg [2] [0] ?_)
  cases h
  exact wp_ret (show fnOut _ _ _ _=_ from by kernel_rfl)
 refine wcF (wp_skip (sq ?_))
 refine wgc [4] [] ⟨[(4,.nils)],[],27⟩ ?_
 refine wp_ret ?_
 refine ⟨⟨[(0,eL false (eL false eTpath_weighed) p0),(3,vI x9),(23,vI x9),(24,.nils)],[],36⟩,by as_aux_lemma=>kernel_rfl,?_⟩
 refine sz 1 3 (reg_end rfl (wp_seq (wp_seq (reg_in (sz 1 1 ?_)))))
 refine lenL (enc:=(eL false eTpath_weighed)) (l:=p0) (fl:=false) kr gE ?_
 refine sz 1 3 (reg_end rfl (wp_block ?_))
 refine wwh h (fun s22=>⟨[(6,.ref 0 0 s22.2.length),(25,eL false (eL false eTpath_weighed) p0),(26,vI (zn p0)),(27,vI s22.1)],[oR false 2 eTpath_weighed s22.2],36⟩) (fun v out=>out=.go (.exit 2) ⟨[(6,.ref 0 0 v.length)],[oR false 2 eTpath_weighed v],36⟩) (wk_trans (wk_gc (live:=[6,25,26,27]) (keep:=[]) (st':=⟨[(6,.nils),(25,eL false (eL false eTpath_weighed) p0),(26,vI (zn p0)),(27,vI 0)],[],36⟩) kr) (wk_trans (wk_nil 6 2 true false (st':=⟨[(6,.ref 0 0 0),(25,eL false (eL false eTpath_weighed) p0),(26,vI (zn p0)),(27,vI 0)],[.row false false true false 2 []],36⟩) kr) (wk_gc (live:=[6,25,26,27]) (keep:=[0]) kr))) ?_ ?_
 ·intro s22 o h
  unfold g_slices_Concat_path_weighed_path_weighed_b2 at h
  refine sq (wp_seq ?_)
  refine wb [28] h (fun q24 h=>?_) (fun q24 h=>?_)
  ·refine wcT (wp_skip (wp_seq (wp_block (wp_seq (reg_in ?_)))))
   refine bind_elim h (fun a25 q26 h=>?_)
   refine idxL' (enc:=(eL false eTpath_weighed)) (l:=p0) (n:=s22.1) (fl:=false) (w:=1) (a:=a25) kr rfl gE q26 ?_
   refine sz 2 3 (reg_end rfl (reg_in (sz 2 2 ?_)))
   refine appR (enc:=eTpath_weighed) (l:=s22.2) (m:=a25) (w:=2) (bytes:=32) (ob:=0) (nr:=true) (fl:=false) (nr':=true) (fl':=false) (b:=eL false eTpath_weighed a25) (rds:=[]) false kr kr (elems_lst (fun _=>rfl)) rfl gE kr h (fun h=>?_)
   refine sz 1 4 (reg_end rfl ?_)
   refine wgc [6,25,26,27] [1] ⟨[(6,.ref 0 0 ((s22.2++a25).length)),(25,eL false (eL false eTpath_weighed) p0),(26,vI (zn p0)),(27,vI s22.1)],[oR false 2 eTpath_weighed (s22.2++a25)],36⟩ ?_
   refine rn ?_
   cases h
   exact ⟨_,rfl,(wk_gc (live:=[6,25,26,27]) (keep:=[0]) kr)⟩
  refine wcF (wg [6] [0] ?_)
  refine wp_exit ?_
  cases h
  exact ⟨kr,rfl⟩
 intro x28 h out hx
 subst hx
 refine sq (wg [2] [0] ?_)
 cases h
 exact wp_ret (show fnOut _ _ _ _=_ from by kernel_rfl)
theorem g_slices_Concat_int_int_ok (p0:(List (List Int))) (x:(List Int)) (h:g_slices_Concat_int_int p0=some x):CallOk Try.prog 47 [z2 p0] (.ret (.ref 0 0 x.length) [oR true 1 eI x]):=by
 refine fn_ok [] Try.func47 rfl (by decide +kernel) rfl ?_
 unfold g_slices_Concat_int_int at h
 refine wp_eqB (base':=0) (st':=⟨[(0,z2 p0)],[],36⟩) kr kr ?_
 refine sq (sq (wp_seq (wp_seq (reg_in (sz 1 1 ?_)))))
 refine lenL (enc:=z1) (l:=p0) (fl:=false) kr gE ?_
 refine sz 1 3 (reg_end rfl (wp_block ?_))
 refine wwh h (fun s1=>⟨[(0,z2 p0),(3,vI s1.1),(9,z2 p0),(10,vI (zn p0)),(11,vI s1.2)],[],36⟩) (fun v out=>out=.go (.exit 0) ⟨[(0,z2 p0),(3,vI v)],[],36⟩) (wk_gc (live:=[0,3,9,10,11]) (keep:=[]) kr) ?_ ?_
 ·intro s1 o h
  unfold g_slices_Concat_int_int_b0 at h
  refine sq (wp_seq ?_)
  refine wb [12] h (fun q3 h=>?_) (fun q3 h=>?_)
  ·refine wcT (wp_skip (wp_seq (wp_block (wp_seq (reg_in ?_)))))
   refine bind_elim h (fun a4 q5 h=>?_)
   refine idxL' (enc:=z1) (l:=p0) (n:=s1.2) (fl:=false) (w:=1) (a:=a4) kr rfl gE q5 ?_
   refine sz 2 3 (reg_end rfl (wp_seq (reg_in (sz 2 2 ?_))))
   refine lenL (enc:=eI) (l:=a4) (fl:=true) kr gE ?_
   refine sz 2 5 (reg_end rfl (wp_seq ?_))
   refine wgc [0,3,9,10,11] [] ⟨[(0,z2 p0),(3,vI (zw (s1.1+(zn a4)))),(9,z2 p0),(10,vI (zn p0)),(11,vI s1.2)],[],36⟩ ?_
   refine rn ?_
   refine wb [20] h (fun q7 h=>?_) (fun q7 h=>?_)
   ·refine wcT (reg_in ?_)
    cases h
   refine wcF (wp_skip (rn ?_))
   cases h
   exact ⟨_,rfl,(wk_gc (live:=[0,3,9,10,11]) (keep:=[]) kr)⟩
  refine wcF (wg [0,3] [] ?_)
  refine wp_exit ?_
  cases h
  exact ⟨kr,rfl⟩
 intro x9 h out hx
 subst hx
 refine wp_seq (reg_in (sz 1 1 ?_))
 refine inlR (f:=79) (fn:=Try.f79) (as0:=[.nils,vI x9]) kr Try.func79 rfl (by decide +kernel) rfl ?_
 refine wp_eqB (base':=0) (st':=⟨[(0,.nils),(1,vI x9)],[],27⟩) kr kr ?_
 refine sq (wp_seq (sq ?_))
 refine wb [6] h (fun q11 h=>?_) (fun q11 h=>?_)
 ·refine wcT (reg_in ?_)
  cases h
 refine wcF (wp_skip (wp_seq (sq (wp_seq (wg [0,1] [] (rn ?_))))))
 refine wb [16] h (fun q13 h=>?_) (fun q13 h=>?_)
 ·refine wcT (reg_in (sz 3 3 (sz 1 4 (sz 1 5 ?_))))
  refine appZ (enc:=eI) (z:=(0:Int)) (z0:=vI 0) (n:=zw (x9 - 0)) (w:=1) (bytes:=8) [] true kr rfl gE kr h (fun h=>?_)
  refine sz 2 8 ?_
  refine sliceP (enc:=eI) (l:=(List.replicate (zt (zw (x9 - 0))) (0:Int))) (ob:=0) (ro:=false) (nr:=true) (fl:=true) (lo:=none) (hi:=(some (vI 0))) (a:=0) (b:=0) (w:=1) kr kr rfl rfl gE h (fun _ h=>?_)
  refine sz 1 10 (reg_end rfl (wp_seq ?_))
  refine wgc [0] [0] ⟨[(0,.ref 0 0 0)],[oR true 1 eI (List.replicate (zt (zw (x9 - 0))) (0:Int))],27⟩ ?_
  refine rn (wg [4] [0] ?_)
  refine wp_ret ?_
  refine ⟨⟨[(0,z2 p0),(3,vI x9),(23,vI x9),(24,.ref 0 0 0)],[oR true 1 eI (List.replicate (zt (zw (x9 - 0))) (0:Int))],36⟩,by as_aux_lemma=>kernel_rfl,?_⟩
  refine sz 1 3 (reg_end rfl (wp_seq (wp_seq (reg_in (sz 1 1 ?_)))))
  refine lenL (enc:=z1) (l:=p0) (fl:=false) kr gE ?_
  refine sgz 1 3 (S:=⟨[(0,z2 p0),(3,vI x9),(23,vI x9),(24,.ref 0 0 0),(6,.ref 0 0 0),(25,z2 p0),(26,vI (zn p0)),(27,vI 0)],[oR true 1 eI (List.replicate (zt (zw (x9 - 0))) (0:Int))],36⟩) ?_
  refine reg_end rfl (wp_block ?_)
  refine wp_wk (wk_take 0 0 (enc:=eI) (l:=(List.replicate (zt (zw (x9 - 0))) (0:Int))) (st':=⟨[(0,z2 p0),(3,vI x9),(23,vI x9),(24,.ref 0 0 (([]:(List Int)).length)),(6,.ref 0 0 (([]:(List Int)).length)),(25,z2 p0),(26,vI (zn p0)),(27,vI 0)],[oR true 1 eI ([]:(List Int))],36⟩) rfl kr) ?_
  refine wwh h (fun s15=>⟨[(6,.ref 0 0 s15.2.length),(25,z2 p0),(26,vI (zn p0)),(27,vI s15.1)],[oR true 1 eI s15.2],36⟩) (fun v out=>out=.go (.exit 2) ⟨[(6,.ref 0 0 v.length)],[oR true 1 eI v],36⟩) (wk_gc (live:=[6,25,26,27]) (keep:=[0]) kr) ?_ ?_
  ·intro s15 o h
   unfold g_slices_Concat_int_int_b1 at h
   refine sq (wp_seq ?_)
   refine wb [28] h (fun q17 h=>?_) (fun q17 h=>?_)
   ·refine wcT (wp_skip (wp_seq (wp_block (wp_seq (reg_in ?_)))))
    refine bind_elim h (fun a18 q19 h=>?_)
    refine idxL' (enc:=z1) (l:=p0) (n:=s15.1) (fl:=false) (w:=1) (a:=a18) kr rfl gE q19 ?_
    refine sz 2 3 (reg_end rfl (reg_in (sz 2 2 ?_)))
    refine appR (enc:=eI) (l:=s15.2) (m:=a18) (w:=1) (bytes:=8) (ob:=0) (nr:=true) (fl:=true) (nr':=true) (fl':=true) (b:=z1 a18) (rds:=[]) false kr kr (elems_lst (fun _=>rfl)) rfl gE kr h (fun h=>?_)
    refine sz 1 4 (reg_end rfl ?_)
    refine wgc [6,25,26,27] [1] ⟨[(6,.ref 0 0 ((s15.2++a18).length)),(25,z2 p0),(26,vI (zn p0)),(27,vI s15.1)],[oR true 1 eI (s15.2++a18)],36⟩ ?_
    refine rn ?_
    cases h
    exact ⟨_,rfl,(wk_gc (live:=[6,25,26,27]) (keep:=[0]) kr)⟩
   refine wcF (wg [6] [0] ?_)
   refine wp_exit ?_
   cases h
   exact ⟨kr,rfl⟩
  intro x21 h out hx
  subst hx
  refine sq (wg [2] [0] ?_)
  cases h
  exact wp_ret (show fnOut _ _ _ _=_ from by kernel_rfl)
 refine wcF (wp_skip (sq ?_))
 refine wgc [4] [] ⟨[(4,.nils)],[],27⟩ ?_
 refine wp_ret ?_
 refine ⟨⟨[(0,z2 p0),(3,vI x9),(23,vI x9),(24,.nils)],[],36⟩,by as_aux_lemma=>kernel_rfl,?_⟩
 refine sz 1 3 (reg_end rfl (wp_seq (wp_seq (reg_in (sz 1 1 ?_)))))
 refine lenL (enc:=z1) (l:=p0) (fl:=false) kr gE ?_
 refine sz 1 3 (reg_end rfl (wp_block ?_))
 refine wwh h (fun s22=>⟨[(6,.ref 0 0 s22.2.length),(25,z2 p0),(26,vI (zn p0)),(27,vI s22.1)],[oR true 1 eI s22.2],36⟩) (fun v out=>out=.go (.exit 2) ⟨[(6,.ref 0 0 v.length)],[oR true 1 eI v],36⟩) (wk_trans (wk_gc (live:=[6,25,26,27]) (keep:=[]) (st':=⟨[(6,.nils),(25,z2 p0),(26,vI (zn p0)),(27,vI 0)],[],36⟩) kr) (wk_trans (wk_nil 6 1 true true (st':=⟨[(6,.ref 0 0 0),(25,z2 p0),(26,vI (zn p0)),(27,vI 0)],[.row false false true true 1 []],36⟩) kr) (wk_gc (live:=[6,25,26,27]) (keep:=[0]) kr))) ?_ ?_
 ·intro s22 o h
  unfold g_slices_Concat_int_int_b2 at h
  refine sq (wp_seq ?_)
  refine wb [28] h (fun q24 h=>?_) (fun q24 h=>?_)
  ·refine wcT (wp_skip (wp_seq (wp_block (wp_seq (reg_in ?_)))))
   refine bind_elim h (fun a25 q26 h=>?_)
   refine idxL' (enc:=z1) (l:=p0) (n:=s22.1) (fl:=false) (w:=1) (a:=a25) kr rfl gE q26 ?_
   refine sz 2 3 (reg_end rfl (reg_in (sz 2 2 ?_)))
   refine appR (enc:=eI) (l:=s22.2) (m:=a25) (w:=1) (bytes:=8) (ob:=0) (nr:=true) (fl:=true) (nr':=true) (fl':=true) (b:=z1 a25) (rds:=[]) false kr kr (elems_lst (fun _=>rfl)) rfl gE kr h (fun h=>?_)
   refine sz 1 4 (reg_end rfl ?_)
   refine wgc [6,25,26,27] [1] ⟨[(6,.ref 0 0 ((s22.2++a25).length)),(25,z2 p0),(26,vI (zn p0)),(27,vI s22.1)],[oR true 1 eI (s22.2++a25)],36⟩ ?_
   refine rn ?_
   cases h
   exact ⟨_,rfl,(wk_gc (live:=[6,25,26,27]) (keep:=[0]) kr)⟩
  refine wcF (wg [6] [0] ?_)
  refine wp_exit ?_
  cases h
  exact ⟨kr,rfl⟩
 intro x28 h out hx
 subst hx
 refine sq (wg [2] [0] ?_)
 cases h
 exact wp_ret (show fnOut _ _ _ _=_ from by kernel_rfl)
noncomputable abbrev s46_14 (p1:Int) (p2:Int) (s1:(Int × (List Tpath_weighed))) (p3:(List Tpath_weighed)):List (Nat × AV):=[(1,vI p1),(2,vI p2),(9,.ref 0 0 s1.2.length),(12,eL false eTpath_weighed p3),(13,vI (zn p3)),(14,vI s1.1),(11,.ptr 1 0 0)]
theorem g_path_Most_3_ok (p0:Int) (p1:Int) (p2:Int) (p3:(List Tpath_weighed)) (x:(List Tpath_weighed)) (h:g_path_Most_3 p0 p1 p2 p3=some x):CallOk Try.prog 46 [vI p0,vI p1,vI p2,eL false eTpath_weighed p3] (.ret (.ref 0 0 x.length) [oR false 2 eTpath_weighed x]):=by
 refine fn_ok [] Try.func46 rfl (by decide +kernel) rfl ?_
 unfold g_path_Most_3 at h
 refine wp_eqB (base':=0) (st':=⟨[(0,vI p0),(1,vI p1),(2,vI p2),(3,eL false eTpath_weighed p3)],[],36⟩) kr kr ?_
 refine sq (sq (wp_seq (wp_seq (reg_in (sz 1 1 ?_)))))
 refine lenL (enc:=eTpath_weighed) (l:=p3) (fl:=false) kr gE ?_
 refine sz 1 3 (reg_end rfl (wp_block ?_))
 refine wwh h (fun s1=>⟨[(1,vI p1),(2,vI p2),(9,.ref 0 0 s1.2.length),(12,eL false eTpath_weighed p3),(13,vI (zn p3)),(14,vI s1.1)],[oR false 2 eTpath_weighed s1.2],36⟩) (fun v out=>out=.go (.exit 0) ⟨[(9,.ref 0 0 v.length)],[oR false 2 eTpath_weighed v],36⟩) (wk_trans (wk_gc (live:=[1,2,9,12,13,14]) (keep:=[]) (st':=⟨[(1,vI p1),(2,vI p2),(9,.nils),(12,eL false eTpath_weighed p3),(13,vI (zn p3)),(14,vI 0)],[],36⟩) kr) (wk_trans (wk_nil 9 2 true false (st':=⟨[(1,vI p1),(2,vI p2),(9,.ref 0 0 0),(12,eL false eTpath_weighed p3),(13,vI (zn p3)),(14,vI 0)],[.row false false true false 2 []],36⟩) kr) (wk_gc (live:=[1,2,9,12,13,14]) (keep:=[0]) kr))) ?_ ?_
 ·intro s1 o h
  unfold g_path_Most_3_b0 at h
  refine sq (wp_seq ?_)
  refine wb [15] h (fun q3 h=>?_) (fun q3 h=>?_)
  ·refine wcT (wp_skip (wp_seq (wp_block (wp_seq (reg_in ?_)))))
   refine bind_elim h (fun a4 q5 h=>?_)
   refine idxL' (enc:=eTpath_weighed) (l:=p3) (n:=s1.1) (fl:=false) (w:=2) (a:=a4) kr rfl gE q5 ?_
   refine sz 1 2 ?_
   refine sgL false [] [] false gE ?_
   refine sz 1 4 (reg_end rfl (sq ?_))
   refine wbz h (fun q7 h=>?_) (fun q7 h=>?_)
   ·refine wgc [1,2,9,12,13,14,11] [0,1] ⟨(s46_14 p1 p2 s1 p3),[oR false 2 eTpath_weighed s1.2,oX true false 2 (.agg [vI a4.weight,z1 a4.path])],36⟩ ?_
    refine rga hfol (sy 6 6 ?_)
    refine sgL false [] [] true gE ?_
    refine sgy 2 9 (S:=⟨(s46_14 p1 p2 s1 p3)++[(20,.ref 0 0 s1.2.length),(21,vI p2),(22,.ptr 1 0 0),(23,vI a4.weight),(24,vI (zw (p2*a4.weight))),(25,vI p1),(26,.ref 2 0 1),(27,.ptr 1 0 1),(28,z1 a4.path)],[oR false 2 eTpath_weighed s1.2,oX true false 2 (.agg [vI a4.weight,z1 a4.path]),.row false false true true 1 [vI p1]],36⟩) ?_
    refine bsR (parts:=[(0,.lst true [vI p1]),(1,z1 a4.path)]) (ids:=[2]) (es:=[(2,.row false true true true 1 [vI p1]),(3,.row false false true (List.all [.lst true [vI p1],z1 a4.path] AV.scs) 1 [.lst true [vI p1],z1 a4.path])]) (S:=⟨(s46_14 p1 p2 s1 p3)++[(20,.ref 0 0 s1.2.length),(21,vI p2),(22,.ptr 1 0 0),(23,vI a4.weight),(24,vI (zw (p2*a4.weight))),(25,vI p1),(26,.ref 2 0 1),(27,.ptr 1 0 1),(28,z1 a4.path)]++[(29,.ref 3 0 2)],[oR false 2 eTpath_weighed s1.2,oX true false 2 (.agg [vI a4.weight,z1 a4.path]),.row false true true true 1 [vI p1],.row false false true false 1 [.lst true [vI p1],z1 a4.path]],36⟩) [.lst true] false rfl (sparts_snap rfl (show snap _ _ _=some (_,[2]) from kr) (sparts_keep rfl sparts_nil) (by rfl)) kr ?_
    refine callR (as0:=[.ref 3 0 2]) (ids:=[3]) kr bodyB_47 (msnap_cons (show snap _ _ _=some (_,[3]) from kr) msnap_nil (by rfl)) (fun x8 q9=>CallOk.froz (g_slices_Concat_int_int_ok [[p1],a4.path] x8 q9) (snap_full (w:=1) (bx:=false) (ro:=false) rfl)) gF h (fun x8 q9 h=>?_)
    refine sy 1 12 ?_
    refine sgL false [] [.keep,.lst true] false gE ?_
    refine appR (enc:=eTpath_weighed) (l:=s1.2) (m:=([(Tpath_weighed.mk (zw (p2*a4.weight)) x8)]:(List Tpath_weighed))) (w:=2) (bytes:=32) (ob:=0) (nr:=true) (fl:=false) (nr':=true) (fl':=false) (b:=.ref 4 0 1) (rds:=[4]) false kr kr kr rfl gE kr h (fun h=>?_)
    refine sy 1 15 (rgd (wg [1,2,9,12,13,14] [5] (rn ?_)))
    cases h
    exact ⟨_,rfl,(wk_gc (live:=[1,2,9,12,13,14]) (keep:=[0]) kr)⟩
   refine wp_skip ?_
   refine wgc [1,2,9,12,13,14] [0] ⟨[(1,vI p1),(2,vI p2),(9,.ref 0 0 s1.2.length),(12,eL false eTpath_weighed p3),(13,vI (zn p3)),(14,vI s1.1)],[oR false 2 eTpath_weighed s1.2],36⟩ ?_
   refine rn ?_
   cases h
   exact ⟨_,rfl,(wk_gc (live:=[1,2,9,12,13,14]) (keep:=[0]) kr)⟩
  refine wcF (wg [9] [0] ?_)
  refine wp_exit ?_
  cases h
  exact ⟨kr,rfl⟩
 intro x11 h out hx
 subst hx
 refine sq (wg [8] [0] ?_)
 cases h
 exact wp_ret (show fnOut _ _ _ _=_ from by kernel_rfl)
theorem g_path_Most_2_k0_ok (p0:(List Tpath_weighed)) (p1:(List Tpath_weighed)) (c0:Int) (x:(List Tpath_weighed)) (h:g_path_Most_2_k0 p0 p1 c0=some x):CallOk Try.prog 43 [eL false eTpath_weighed p0,eL false eTpath_weighed p1,.fz [.fn (.func 39) [] []],.fz [vI c0]] (.ret (eL false eTpath_weighed x) []):=by
 refine fn_ok [[.lst false]] Try.func43 rfl (by decide +kernel) rfl ?_
 unfold g_path_Most_2_k0 at h
 refine wp_eqB (base':=0) (st':=⟨[(0,eL false eTpath_weighed p0),(1,eL false eTpath_weighed p1),(2,.fz [.fn (.func 39) [] []]),(3,.fz [vI c0])],[],21⟩) kr kr ?_
 refine sq (wp_seq (reg_in (sz 2 2 ?_)))
 refine sgL false [] [.lst false] false gE ?_
 refine callR (as0:=[.ref 0 0 2]) (ids:=[0]) kr bodyB_44 (msnap_cons (show snap _ _ _=some (_,[0]) from kr) msnap_nil (by rfl)) (fun x1 q2=>g_slices_Concat_path_weighed_path_weighed_ok [p0,p1] x1 q2) gF h (fun x1 q2 h=>?_)
 refine sz 1 5 (reg_end rfl (wp_seq (wg [2,3,7] [1] (reg_in ?_))))
 refine sgz 2 2 (S:=⟨[(2,.fz [.fn (.func 39) [] []]),(3,.fz [vI c0]),(7,.ref 0 0 x1.length),(12,.ref 0 0 x1.length),(13,.fn (.func 39) [] [])],[oR false 2 eTpath_weighed x1],21⟩) ?_
 refine sortR (enc:=eTpath_weighed) (k:=2) (o:=0) (fl:=false) (l:=x1) (fn:=Try.f45) (gfn:=Try.f39) (S:=fun n4 x3=>⟨[(2,.fz [.fn (.func 39) [] []]),(3,.fz [vI c0]),(7,.ref 0 0 n4),(12,.ref 0 0 n4),(13,.fn (.func 39) [] []),(14,.tup [])],[oR false 2 eTpath_weighed x3],21⟩) Go.Proofs.sort18 order18 (fun x y r h=>g_path_Most_1_ok x y r h) kr kr kr (fun _=>by as_aux_lemma=>kernel_rfl) Try.func45 rfl (by decide +kernel) Try.func39 rfl (by decide +kernel) Try.isAgg85 Try.sizeOf85 (fun _=>rfl) (fun _=>rfl) (by intro x y hy; simp [AV.flat] at hy; rcases hy with rfl | rfl <;> rfl) h (fun x3 h=>?_)
 refine reg_end rfl (wp_seq (reg_in (sz 5 5 ?_)))
 refine sliceP (enc:=eTpath_weighed) (l:=x3) (ob:=0) (ro:=false) (nr:=true) (fl:=false) (lo:=none) (hi:=(some (vI (if (zn x3) < c0 then (zn x3) else c0)))) (a:=0) (b:=(if (zn x3) < c0 then (zn x3) else c0)) (w:=2) kr kr rfl rfl gE h (fun q5 h=>?_)
 refine sz 1 7 (reg_end rfl ?_)
 refine wgc [6] [0] ⟨[(6,.ref 0 0 (zt (if (zn x3) < c0 then (zn x3) else c0) - zt (0:Int)))],[oR false 2 eTpath_weighed x3],21⟩ ?_
 refine wp_wk (wk_snap 6 (st':=⟨[(6,eL false eTpath_weighed (sub x3 0 (if (zn x3) < c0 then (zn x3) else c0)))],[.row false true true false 2 (List.map eTpath_weighed x3)],21⟩) (y:=eL false eTpath_weighed (sub x3 0 (if (zn x3) < c0 then (zn x3) else c0))) (ids:=[0]) rfl (snap_part (a:=0) (b:=(if (zn x3) < c0 then (zn x3) else c0)) (w:=2) (bx:=false) (ro:=false) kr q5) kr) ?_
 cases h
 exact wp_ret (show fnOut _ _ _ _=_ from by kernel_rfl)
end Go.Ab
