/- What functions compute. No conditions. -/
import Derived.Test.YtiadakgfblkelaaProg
import Derived.Test.YtiadakgfblkelaaW9
import Derived.KernelRfl
set_option linter.all false
namespace Go.Ab
open Go Go.Proofs
set_option maxRecDepth 100000
set_option maxHeartbeats 4000000
noncomputable abbrev s61_1 (p0:Thidden_watcher):List (Nat × AV):=[(0,.agg [vI p0.Hidden.Grain,z1 p0.Hidden.First,z2 p0.Hidden.Step,z2 p0.Hidden.Show,z1 p0.seen])]
noncomputable abbrev s61_2 (p0:Thidden_watcher):List (Nat × AV):=(s61_1 p0)++[(1,.ptr 0 0 0),(2,.nils),(10,.agg [vI p0.Hidden.Grain,z1 p0.Hidden.First,z2 p0.Hidden.Step,z2 p0.Hidden.Show,z1 p0.seen])]
noncomputable abbrev s61_5 (p0:Thidden_watcher):List (Nat × AV):=(s61_1 p0)++[(1,.ptr 1 0 0),(2,.nils),(5,.ptr 1 0 4),(6,z1 p0.seen),(7,vI (zn p0.seen)),(8,.ref 2 0 ((List.replicate (zt (zn p0.seen)) ([]:(List Int))).length)),(3,.ref 2 0 ((List.replicate (zt (zn p0.seen)) ([]:(List Int))).length))]
noncomputable abbrev s61_6 (p0:Thidden_watcher):List AObj:=[oX true false 5 (.agg [vI p0.Hidden.Grain,z1 p0.Hidden.First,z2 p0.Hidden.Step,z2 p0.Hidden.Show,z1 p0.seen]),oX true false 5 (.agg [vI p0.Hidden.Grain,z1 p0.Hidden.First,z2 p0.Hidden.Step,z2 p0.Hidden.Show,z1 p0.seen]),.refs 3 (eF eI (List.replicate (zt (zn p0.seen)) ([]:(List Int)))),.fam 1 true (eF eI (List.replicate (zt (zn p0.seen)) ([]:(List Int))))]
noncomputable abbrev s61_16 (s1:(Int × (List (List Int)))) (p0:Thidden_watcher):List (Nat × AV):=[(1,.ptr 1 0 0),(3,.ref 2 0 s1.2.length),(10,vI (((List.replicate (zt (zn p0.seen)) ([]:(List Int))).length):Int)),(11,vI s1.1)]
noncomputable abbrev s61_19 (p0:Thidden_watcher) (s1:(Int × (List (List Int)))):List AObj:=[oX true false 5 (.agg [vI p0.Hidden.Grain,z1 p0.Hidden.First,z2 p0.Hidden.Step,z2 p0.Hidden.Show,z1 p0.seen]),oX true false 5 (.agg [vI p0.Hidden.Grain,z1 p0.Hidden.First,z2 p0.Hidden.Step,z2 p0.Hidden.Show,z1 p0.seen]),.refs 3 (eF eI (List.set s1.2 (zt s1.1) (List.replicate (zt (zn p0.Hidden.First)) (0:Int)))),.fam 1 true (eF eI (List.set s1.2 (zt s1.1) (List.replicate (zt (zn p0.Hidden.First)) (0:Int)))),.dead]
noncomputable abbrev s61_31 (p0:Thidden_watcher):List (Nat × AV):=[(0,.agg [vI p0.Hidden.Grain,z1 p0.Hidden.First,z2 p0.Hidden.Step,z2 p0.Hidden.Show,z1 p0.seen]),(1,vI 0)]
noncomputable abbrev s61_66 (s9:(Int × (List (List Int)))) (p0:Thidden_watcher) (s12:(Int × (List (List Int)))):List (Nat × AV):=[(1,.ptr 0 0 0),(3,.ptr 1 0 0),(4,vI s9.1),(17,z1 p0.Hidden.First),(18,vI (zn p0.Hidden.First)),(19,vI s12.1)]
theorem g_hidden_watcher_forward_ok (p0:Thidden_watcher) (x:(List (List Int))) (h:g_hidden_watcher_forward p0=some x):CallOk Try.prog 61 [.agg [vI p0.Hidden.Grain,z1 p0.Hidden.First,z2 p0.Hidden.Step,z2 p0.Hidden.Show,z1 p0.seen]] (.ret (.ref 0 0 x.length) [oR false 1 z1 x]):=by
 refine fn_ok [] Try.func61 rfl (by decide +kernel) rfl ?_
 unfold g_hidden_watcher_forward at h
 refine wp_eqB (base':=0) (st':=⟨(s61_1 p0),[],66⟩) kr kr ?_
 refine wp_seq (reg_in ?_)
 refine sgL false [] [] false gE ?_
 refine sz 1 2 (reg_end rfl (wp_seq ?_))
 refine wp_post ?_
 refine reg_in (sz 1 1 ?_)
 refine inlR (f:=91) (fn:=Try.f91) (as0:=[.agg [vI p0.Hidden.Grain,z1 p0.Hidden.First,z2 p0.Hidden.Step,z2 p0.Hidden.Show,z1 p0.seen]]) kr Try.func91 rfl (by decide +kernel) rfl ?_
 refine wp_eqB (base':=1) (st':=⟨(s61_1 p0),[oX true false 5 (.agg [vI p0.Hidden.Grain,z1 p0.Hidden.First,z2 p0.Hidden.Step,z2 p0.Hidden.Show,z1 p0.seen])],24⟩) kr kr ?_
 refine wp_seq (reg_in ?_)
 refine sgL false [] [] false gE ?_
 refine sz 1 2 (reg_end rfl (wp_seq ?_))
 refine wp_post ?_
 refine reg_in (sz 2 2 ?_)
 refine lenL (enc:=eI) (l:=p0.seen) (fl:=true) kr gE ?_
 refine mkL (enc:=fun _=>AV.nils) (z:=([]:(List Int))) (z0:=AV.nils) (n:=(zn p0.seen)) (m:=(zn p0.seen)) (w:=1) (bytes:=24) [] false kr rfl gE kr h (fun h=>?_)
 refine sgz 1 5 (S:=⟨(s61_5 p0),[oX true false 5 (.agg [vI p0.Hidden.Grain,z1 p0.Hidden.First,z2 p0.Hidden.Step,z2 p0.Hidden.Show,z1 p0.seen]),oX true false 5 (.agg [vI p0.Hidden.Grain,z1 p0.Hidden.First,z2 p0.Hidden.Step,z2 p0.Hidden.Show,z1 p0.seen]),.row false false true false 1 (List.map (fun _=>AV.nils) (List.replicate (zt (zn p0.seen)) ([]:(List Int))))],24⟩) ?_
 refine reg_end rfl ?_
 refine ⟨⟨(s61_5 p0),(s61_6 p0),24⟩,(wk_fam 2 1 true eI (x0:=([]:List Int)) (enc1:=fun _=>AV.nils) (st':=⟨(s61_5 p0),(s61_6 p0),24⟩) rfl rfl rfl (by kernel_rfl)),?_⟩
 refine wp_seq (wp_seq (wg [1,3] [1,2,3] (rn (wp_block ?_))))
 refine wwh h (fun s1=>⟨(s61_16 s1 p0),[oX true false 5 (.agg [vI p0.Hidden.Grain,z1 p0.Hidden.First,z2 p0.Hidden.Step,z2 p0.Hidden.Show,z1 p0.seen]),oX true false 5 (.agg [vI p0.Hidden.Grain,z1 p0.Hidden.First,z2 p0.Hidden.Step,z2 p0.Hidden.Show,z1 p0.seen]),.refs 3 (eF eI s1.2),.fam 1 true (eF eI s1.2)],24⟩) (fun v out=>out=.go (.exit 0) ⟨[(3,.ref 1 0 v.length)],[oX true false 5 (.agg [vI p0.Hidden.Grain,z1 p0.Hidden.First,z2 p0.Hidden.Step,z2 p0.Hidden.Show,z1 p0.seen]),.refs 2 (eF eI v),.fam 1 true (eF eI v)],24⟩) (wk_gc (live:=[1,3,10,11]) (keep:=[1,2,3]) kr) ?_ ?_
 ·intro s1 o h
  unfold g_hidden_watcher_forward_b0 at h
  refine sq (wp_seq ?_)
  refine wb [12] h (fun q3 h=>?_) (fun q3 h=>?_)
  ·refine wcT (wp_skip (wp_seq (wp_block (sq ?_))))
   refine wp_post ?_
   refine reg_in (sz 5 5 ?_)
   refine lenL (enc:=eI) (l:=p0.Hidden.First) (fl:=true) kr gE ?_
   refine mkL (enc:=eI) (z:=(0:Int)) (z0:=vI 0) (n:=(zn p0.Hidden.First)) (m:=(zn p0.Hidden.First)) (w:=1) (bytes:=8) [] true kr rfl gE kr h (fun h=>?_)
   refine bind_elim h (fun a4 q5 h=>?_)
   refine idxF (enc:=eI) (ls:=s1.2) (x:=a4) (n:=s1.1) (ob:=2) (j:=3) kr kr q5 gE ?_
   refine storeF (enc:=eI) (ls:=s1.2) (x:=a4) (n:=s1.1) (ob:=2) (j:=3) (m:=4) (q:=(List.replicate (zt (zn p0.Hidden.First)) (0:Int)).length) (S:=⟨(s61_16 s1 p0)++[(12,vB true),(13,vI s1.1),(4,vI s1.1),(14,.ref 2 0 s1.2.length),(15,vI s1.1),(16,.ptr 1 0 0),(17,.ptr 1 0 1),(18,z1 p0.Hidden.First),(19,vI (zn p0.Hidden.First)),(20,.ref 4 0 ((List.replicate (zt (zn p0.Hidden.First)) (0:Int)).length)),(21,.ptr 2 (zt s1.1) 0)],[oX true false 5 (.agg [vI p0.Hidden.Grain,z1 p0.Hidden.First,z2 p0.Hidden.Step,z2 p0.Hidden.Show,z1 p0.seen]),oX true false 5 (.agg [vI p0.Hidden.Grain,z1 p0.Hidden.First,z2 p0.Hidden.Step,z2 p0.Hidden.Show,z1 p0.seen]),.row false false false false 1 ((famRefs 3 0 (eF eI s1.2)).set (zt s1.1) (.ref 4 0 ((List.replicate (zt (zn p0.Hidden.First)) (0:Int)).length))),.fam 1 true (eF eI s1.2),oR true 1 eI (List.replicate (zt (zn p0.Hidden.First)) (0:Int))],24⟩) kr kr q5 kr kr kr ?_
   refine reg_end rfl ?_
   refine ⟨⟨[(1,.ptr 1 0 0),(3,.ref 2 0 ((List.set s1.2 (zt s1.1) (List.replicate (zt (zn p0.Hidden.First)) (0:Int))).length)),(10,vI (((List.replicate (zt (zn p0.seen)) ([]:(List Int))).length):Int)),(11,vI s1.1)]++[(12,vB true),(13,vI s1.1),(4,vI s1.1),(14,.ref 2 0 ((List.set s1.2 (zt s1.1) (List.replicate (zt (zn p0.Hidden.First)) (0:Int))).length)),(15,vI s1.1),(16,.ptr 1 0 0),(17,.ptr 1 0 1),(18,z1 p0.Hidden.First),(19,vI (zn p0.Hidden.First)),(21,.ptr 2 (zt s1.1) 0)],(s61_19 p0 s1),24⟩,(wk_trans (wk_adopt 2 3 4 (enc:=eI) (ls:=s1.2) (x:=a4) (b:=(List.replicate (zt (zn p0.Hidden.First)) (0:Int))) (n:=s1.1) [1,3,10,11,12,13,4,14,15,16,17,18,19,21] (st':=⟨(s61_16 s1 p0)++[(12,vB true),(13,vI s1.1),(4,vI s1.1),(14,.ref 2 0 s1.2.length),(15,vI s1.1),(16,.ptr 1 0 0),(17,.ptr 1 0 1),(18,z1 p0.Hidden.First),(19,vI (zn p0.Hidden.First)),(21,.ptr 2 (zt s1.1) 0)],(s61_19 p0 s1),24⟩) rfl rfl rfl q5 (by kernel_rfl) (by kernel_rfl)) (wk_eq (congrArg (fun n6=>(⟨[(1,.ptr 1 0 0),(3,.ref 2 0 n6),(10,vI (((List.replicate (zt (zn p0.seen)) ([]:(List Int))).length):Int)),(11,vI s1.1),(12,vB true),(13,vI s1.1),(4,vI s1.1),(14,.ref 2 0 n6),(15,vI s1.1),(16,.ptr 1 0 0),(17,.ptr 1 0 1),(18,z1 p0.Hidden.First),(19,vI (zn p0.Hidden.First)),(21,.ptr 2 (zt s1.1) 0)],(s61_19 p0 s1),24⟩:St)) (show s1.2.length=(List.set s1.2 (zt s1.1) (List.replicate (zt (zn p0.Hidden.First)) (0:Int))).length by simp only [List.length_set])))),?_⟩
   refine wg [1,3,10,11] [1,2,3] (rn ?_)
   cases h
   exact ⟨_,rfl,(wk_gc (live:=[1,3,10,11]) (keep:=[1,2,3]) kr)⟩
  refine wcF (wg [3] [2,3] ?_)
  refine wp_exit ?_
  cases h
  exact ⟨kr,rfl⟩
 intro x8 h out hx
 subst hx
 refine sq (wg [2] [1,2] ?_)
 refine wp_ret ?_
 refine ⟨⟨(s61_2 p0)++[(11,.ref 1 0 x8.length)],[oX true false 5 (.agg [vI p0.Hidden.Grain,z1 p0.Hidden.First,z2 p0.Hidden.Step,z2 p0.Hidden.Show,z1 p0.seen]),.refs 2 (eF eI x8),.fam 1 true (eF eI x8)],66⟩,by as_aux_lemma=>kernel_rfl,?_⟩
 refine sgL false [] [] false gE ?_
 refine sz 1 4 (reg_end rfl ?_)
 refine ⟨_,wk_refl,?_⟩
 refine wp_seq (wp_seq ?_)
 refine wp_post ?_
 refine reg_in (sz 1 1 ?_)
 refine inlR (f:=92) (fn:=Try.f92) (as0:=[.agg [vI p0.Hidden.Grain,z1 p0.Hidden.First,z2 p0.Hidden.Step,z2 p0.Hidden.Show,z1 p0.seen],vI 0]) kr Try.func92 rfl (by decide +kernel) rfl ?_
 refine wp_eqB (base':=4) (st':=⟨(s61_31 p0),[oX true false 5 (.agg [vI p0.Hidden.Grain,z1 p0.Hidden.First,z2 p0.Hidden.Step,z2 p0.Hidden.Show,z1 p0.seen]),.refs 2 (eF eI x8),.fam 1 true (eF eI x8),oX false false 1 (.ref 1 0 x8.length)],12⟩) kr kr ?_
 refine wp_seq (reg_in ?_)
 refine sgL false [] [] false gE ?_
 refine sz 1 2 (reg_end rfl (wp_seq ?_))
 refine wp_post ?_
 refine reg_in (sz 1 1 ?_)
 refine sgL false [] [] false gE ?_
 refine sz 1 3 (reg_end rfl ?_)
 refine ⟨_,wk_refl,?_⟩
 refine wp_seq ?_
 refine wp_post ?_
 refine rga hfol (sy 4 4 ?_)
 refine inlN (f:=110) (fn:=Try.f110) (as0:=[.agg [vI p0.Hidden.Grain,z1 p0.Hidden.First,z2 p0.Hidden.Step,z2 p0.Hidden.Show,z1 p0.seen]]) kr kr Try.func110 rfl (by decide +kernel) rfl ?_
 refine wp_eqB (base':=6) (st':=⟨(s61_1 p0),[.dead,.dead,.dead,.dead,.dead,.dead],4⟩) kr kr ?_
 refine wp_seq (reg_in ?_)
 refine sgL false [] [] false gE ?_
 refine sz 1 2 (reg_end rfl (sq (wg [2] [6] ?_)))
 refine wp_ret ?_
 refine ⟨⟨(s61_31 p0)++[(2,.ptr 4 0 0),(4,.nilf),(6,.agg [.fn (.func 110) [] [],.fn (.func 111) [] []]),(5,.ptr 5 0 0),(7,vI 0),(8,.ptr 5 0 0),(9,.fn (.func 110) [] []),(10,.agg [vI p0.Hidden.Grain,z1 p0.Hidden.First,z2 p0.Hidden.Step,z2 p0.Hidden.Show,z1 p0.seen])]++[(11,.fn (.func 124) [] [.ptr 6 0 0])],[oX true false 5 (.agg [vI p0.Hidden.Grain,z1 p0.Hidden.First,z2 p0.Hidden.Step,z2 p0.Hidden.Show,z1 p0.seen]),.refs 2 (eF eI x8),.fam 1 true (eF eI x8),oX false false 1 (.ref 1 0 x8.length),oX true false 5 (.agg [vI p0.Hidden.Grain,z1 p0.Hidden.First,z2 p0.Hidden.Step,z2 p0.Hidden.Show,z1 p0.seen]),oX true false 2 (.agg [.fn (.func 110) [] [],.fn (.func 111) [] []]),oX true false 5 (.agg [vI p0.Hidden.Grain,z1 p0.Hidden.First,z2 p0.Hidden.Step,z2 p0.Hidden.Show,z1 p0.seen])],12⟩,by as_aux_lemma=>kernel_rfl,?_⟩
 refine sy 1 6 (rgd ?_)
 refine ⟨_,wk_refl,?_⟩
 refine wg [4] [6] ?_
 refine wp_ret ?_
 refine ⟨⟨(s61_2 p0)++[(11,.ref 1 0 x8.length),(3,.ptr 3 0 0),(12,.agg [vI p0.Hidden.Grain,z1 p0.Hidden.First,z2 p0.Hidden.Step,z2 p0.Hidden.Show,z1 p0.seen])]++[(13,.fn (.func 124) [] [.ptr 4 0 0])],[oX true false 5 (.agg [vI p0.Hidden.Grain,z1 p0.Hidden.First,z2 p0.Hidden.Step,z2 p0.Hidden.Show,z1 p0.seen]),.refs 2 (eF eI x8),.fam 1 true (eF eI x8),oX false false 1 (.ref 1 0 x8.length),oX true false 5 (.agg [vI p0.Hidden.Grain,z1 p0.Hidden.First,z2 p0.Hidden.Step,z2 p0.Hidden.Show,z1 p0.seen])],66⟩,by as_aux_lemma=>kernel_rfl,?_⟩
 refine reg_end rfl ?_
 refine ⟨_,wk_refl,?_⟩
 refine wp_block ?_
 refine wgc [1,3,13] [0,3,4,1,2] ⟨[(1,.ptr 0 0 0),(3,.ptr 1 0 0),(13,.fn (.func 124) [] [.ptr 2 0 0])],[oX true false 5 (.agg [vI p0.Hidden.Grain,z1 p0.Hidden.First,z2 p0.Hidden.Step,z2 p0.Hidden.Show,z1 p0.seen]),oX false false 1 (.ref 3 0 x8.length),oX true false 5 (.agg [vI p0.Hidden.Grain,z1 p0.Hidden.First,z2 p0.Hidden.Step,z2 p0.Hidden.Show,z1 p0.seen]),.refs 4 (eF eI x8),.fam 1 true (eF eI x8)],66⟩ ?_
 refine wp_range (f:=124) (fn:=Try.f124) (first:=[]) (caps:=[.ptr 2 0 0]) rfl Try.func124 rfl (by decide +kernel) rfl rfl ?_
 refine wp_eqB (base':=6) (st':=⟨[(0,.yld 5),(1,.ptr 2 0 0)],[oX true false 5 (.agg [vI p0.Hidden.Grain,z1 p0.Hidden.First,z2 p0.Hidden.Step,z2 p0.Hidden.Show,z1 p0.seen]),oX false false 1 (.ref 3 0 x8.length),oX true false 5 (.agg [vI p0.Hidden.Grain,z1 p0.Hidden.First,z2 p0.Hidden.Step,z2 p0.Hidden.Show,z1 p0.seen]),.refs 4 (eF eI x8),.fam 1 true (eF eI x8),.loop 66 [(1,.ptr 0 0 0),(3,.ptr 1 0 0),(13,.fn (.func 124) [] [.ptr 2 0 0])] [14] (cA Try.f61 [true,true,false,true,true]) (cB Try.f61 [true,true,false,true,true]) .ready none],15⟩) kr kr ?_
 refine wp_seq ?_
 refine wp_post ?_
 refine reg_in (sz 2 2 ?_)
 refine lenL (enc:=eI) (l:=p0.seen) (fl:=true) kr gE ?_
 refine sz 1 4 (reg_end rfl ?_)
 refine ⟨_,wk_refl,?_⟩
 refine wp_block ?_
 refine wwh h (fun s9=>⟨[(0,.yld 5),(6,vI (zn p0.seen)),(7,vI s9.1)],[oX true false 5 (.agg [vI p0.Hidden.Grain,z1 p0.Hidden.First,z2 p0.Hidden.Step,z2 p0.Hidden.Show,z1 p0.seen]),oX false false 1 (.ref 3 0 s9.2.length),oX true false 5 (.agg [vI p0.Hidden.Grain,z1 p0.Hidden.First,z2 p0.Hidden.Step,z2 p0.Hidden.Show,z1 p0.seen]),.refs 4 (eF eI s9.2),.fam 1 true (eF eI s9.2),.loop 66 [(1,.ptr 0 0 0),(3,.ptr 1 0 0),(13,.fn (.func 124) [] [.ptr 2 0 0])] [14] (cA Try.f61 [true,true,false,true,true]) (cB Try.f61 [true,true,false,true,true]) .ready none],15⟩) (fun v out=>out=.go (.exit 0) ⟨[],[oX true false 5 (.agg [vI p0.Hidden.Grain,z1 p0.Hidden.First,z2 p0.Hidden.Step,z2 p0.Hidden.Show,z1 p0.seen]),oX false false 1 (.ref 3 0 v.length),oX true false 5 (.agg [vI p0.Hidden.Grain,z1 p0.Hidden.First,z2 p0.Hidden.Step,z2 p0.Hidden.Show,z1 p0.seen]),.refs 4 (eF eI v),.fam 1 true (eF eI v),.loop 66 [(1,.ptr 0 0 0),(3,.ptr 1 0 0),(13,.fn (.func 124) [] [.ptr 2 0 0])] [14] (cA Try.f61 [true,true,false,true,true]) (cB Try.f61 [true,true,false,true,true]) .ready none],15⟩) (wk_gc (live:=[0,6,7]) (keep:=[]) kr) ?_ ?_
 ·intro s9 o h
  unfold g_hidden_watcher_forward_b3 at h
  refine sq (wp_seq ?_)
  refine wb [8] h (fun q11 h=>?_) (fun q11 h=>?_)
  ·refine wcT (wp_skip (wp_seq (wp_block (sq (wp_seq ?_)))))
   refine wp_post ?_
   refine reg_in (sz 2 2 ?_)
   refine yldR (l:=5) (nt:=66) (us:=[vI s9.1]) (sl:=[(1,.ptr 0 0 0),(3,.ptr 1 0 0),(13,.fn (.func 124) [] [.ptr 2 0 0])]) (ps:=[14]) (assign:=cA Try.f61 [true,true,false,true,true]) (body:=cB Try.f61 [true,true,false,true,true]) (pe:=none) kr rfl rfl ?_
   refine wp_eqB (base':=6) (st':=⟨[(1,.ptr 0 0 0),(3,.ptr 1 0 0),(13,.fn (.func 124) [] [.ptr 2 0 0]),(14,vI s9.1)],[oX true false 5 (.agg [vI p0.Hidden.Grain,z1 p0.Hidden.First,z2 p0.Hidden.Step,z2 p0.Hidden.Show,z1 p0.seen]),oX false false 1 (.ref 3 0 s9.2.length),oX true false 5 (.agg [vI p0.Hidden.Grain,z1 p0.Hidden.First,z2 p0.Hidden.Step,z2 p0.Hidden.Show,z1 p0.seen]),.refs 4 (eF eI s9.2),.fam 1 true (eF eI s9.2),.loop 66 [(1,.ptr 0 0 0),(3,.ptr 1 0 0),(13,.fn (.func 124) [] [.ptr 2 0 0])] [14] (cA Try.f61 [true,true,false,true,true]) (cB Try.f61 [true,true,false,true,true]) .ready none],66⟩) kr kr ?_
   refine rn ?_
   refine ⟨⟨[(1,.ptr 0 0 0),(3,.ptr 1 0 0),(13,.fn (.func 124) [] [.ptr 2 0 0]),(14,vI s9.1),(4,vI s9.1)],[oX true false 5 (.agg [vI p0.Hidden.Grain,z1 p0.Hidden.First,z2 p0.Hidden.Step,z2 p0.Hidden.Show,z1 p0.seen]),oX false false 1 (.ref 3 0 s9.2.length),oX true false 5 (.agg [vI p0.Hidden.Grain,z1 p0.Hidden.First,z2 p0.Hidden.Step,z2 p0.Hidden.Show,z1 p0.seen]),.refs 4 (eF eI s9.2),.fam 1 true (eF eI s9.2),.loop 66 [(1,.ptr 0 0 0),(3,.ptr 1 0 0),(13,.fn (.func 124) [] [.ptr 2 0 0])] [14] (cA Try.f61 [true,true,false,true,true]) (cB Try.f61 [true,true,false,true,true]) .busy none],66⟩,by as_aux_lemma=>kernel_rfl,?_⟩
   refine wp_block (wp_seq ?_)
   refine wp_post ?_
   refine reg_in (sz 3 3 ?_)
   refine lenL (enc:=eI) (l:=p0.Hidden.First) (fl:=true) kr gE ?_
   refine sz 1 5 (reg_end rfl ?_)
   refine ⟨_,wk_refl,?_⟩
   refine wp_block ?_
   refine wwh h (fun s12=>⟨(s61_66 s9 p0 s12),[oX true false 5 (.agg [vI p0.Hidden.Grain,z1 p0.Hidden.First,z2 p0.Hidden.Step,z2 p0.Hidden.Show,z1 p0.seen]),oX false false 1 (.ref 3 0 s12.2.length),oX true false 5 (.agg [vI p0.Hidden.Grain,z1 p0.Hidden.First,z2 p0.Hidden.Step,z2 p0.Hidden.Show,z1 p0.seen]),.refs 4 (eF eI s12.2),.fam 1 true (eF eI s12.2),.loop 66 [(1,.ptr 0 0 0),(3,.ptr 1 0 0),(13,.fn (.func 124) [] [.ptr 2 0 0])] [14] (cA Try.f61 [true,true,false,true,true]) (cB Try.f61 [true,true,false,true,true]) .busy none],66⟩) (fun v out=>out=.go (.exit 2) ⟨[],[oX true false 5 (.agg [vI p0.Hidden.Grain,z1 p0.Hidden.First,z2 p0.Hidden.Step,z2 p0.Hidden.Show,z1 p0.seen]),oX false false 1 (.ref 3 0 v.length),oX true false 5 (.agg [vI p0.Hidden.Grain,z1 p0.Hidden.First,z2 p0.Hidden.Step,z2 p0.Hidden.Show,z1 p0.seen]),.refs 4 (eF eI v),.fam 1 true (eF eI v),.loop 66 [(1,.ptr 0 0 0),(3,.ptr 1 0 0),(13,.fn (.func 124) [] [.ptr 2 0 0])] [14] (cA Try.f61 [true,true,false,true,true]) (cB Try.f61 [true,true,false,true,true]) .busy none],66⟩) (wk_gc (live:=[1,3,4,17,18,19]) (keep:=[]) kr) ?_ ?_
   ·intro s12 o h
    unfold g_hidden_watcher_forward_b2 at h
    refine sq (wp_seq ?_)
    refine wb [20] h (fun q14 h=>?_) (fun q14 h=>?_)
    ·refine wcT (wp_skip (wp_seq (wp_block (wp_seq ?_))))
     refine wp_post ?_
     refine reg_in (sz 1 1 ?_)
     refine bind_elim h (fun a15 q16 h=>?_)
     refine idxL' (enc:=eI) (l:=p0.Hidden.First) (n:=s12.1) (fl:=true) (w:=1) (a:=a15) kr rfl gE q16 ?_
     refine sz 3 5 (reg_end rfl ?_)
     refine ⟨_,wk_refl,?_⟩
     refine sq (wp_seq (wp_seq ?_))
     refine wgc [1,3,4,17,18,19,5,7] [] ⟨[(1,.ptr 0 0 0),(3,.ptr 1 0 0),(4,vI s9.1),(17,z1 p0.Hidden.First),(18,vI (zn p0.Hidden.First)),(19,vI s12.1),(5,vI s12.1),(7,vI a15)],[oX true false 5 (.agg [vI p0.Hidden.Grain,z1 p0.Hidden.First,z2 p0.Hidden.Step,z2 p0.Hidden.Show,z1 p0.seen]),oX false false 1 (.ref 3 0 s12.2.length),oX true false 5 (.agg [vI p0.Hidden.Grain,z1 p0.Hidden.First,z2 p0.Hidden.Step,z2 p0.Hidden.Show,z1 p0.seen]),.refs 4 (eF eI s12.2),.fam 1 true (eF eI s12.2),.loop 66 [(1,.ptr 0 0 0),(3,.ptr 1 0 0),(13,.fn (.func 124) [] [.ptr 2 0 0])] [14] (cA Try.f61 [true,true,false,true,true]) (cB Try.f61 [true,true,false,true,true]) .busy none],66⟩ ?_
     refine rn ?_
     refine wb [26] h (fun q18 h=>?_) (fun q18 h=>?_)
     ·refine wcT (sq (wp_seq ?_))
      refine wp_post ?_
      refine reg_in (sz 3 3 ?_)
      refine bind_elim h (fun a19 q20 h=>?_)
      refine idxF (enc:=eI) (ls:=s12.2) (x:=a19) (n:=zw (s9.1 - 1)) (ob:=3) (j:=4) kr kr q20 gE ?_
      refine loadF (enc:=eI) (ls:=s12.2) (x:=a19) (n:=zw (s9.1 - 1)) (ob:=3) (j:=4) kr kr q20 gE ?_
      refine sgz 2 7 (S:=⟨(s61_66 s9 p0 s12)++[(5,vI s12.1),(7,vI 0),(25,vI s9.1),(26,vB true),(27,.ref 3 0 s12.2.length),(28,vI s9.1),(29,vI (zw (s9.1 - 1))),(30,.ptr 3 (zt (zw (s9.1 - 1))) 0),(31,.ref (fid 4 (zt (zw (s9.1 - 1)))) 0 a19.length),(32,vI (zn a19)),(33,vI 0)],[oX true false 5 (.agg [vI p0.Hidden.Grain,z1 p0.Hidden.First,z2 p0.Hidden.Step,z2 p0.Hidden.Show,z1 p0.seen]),oX false false 1 (.ref 3 0 s12.2.length),oX true false 5 (.agg [vI p0.Hidden.Grain,z1 p0.Hidden.First,z2 p0.Hidden.Step,z2 p0.Hidden.Show,z1 p0.seen]),.refs 4 (eF eI s12.2),.fam 1 true (eF eI s12.2),.loop 66 [(1,.ptr 0 0 0),(3,.ptr 1 0 0),(13,.fn (.func 124) [] [.ptr 2 0 0])] [14] (cA Try.f61 [true,true,false,true,true]) (cB Try.f61 [true,true,false,true,true]) .busy none],66⟩) ?_
      refine reg_end rfl ?_
      refine ⟨⟨(s61_66 s9 p0 s12)++[(5,vI s12.1),(7,vI 0),(25,vI s9.1),(26,vB true),(27,.ref 3 0 s12.2.length),(28,vI s9.1),(29,vI (zw (s9.1 - 1))),(30,.ptr 3 (zt (zw (s9.1 - 1))) 0),(31,.lin 4 (zt (zw (s9.1 - 1))) a19.length),(32,vI (zn a19)),(33,vI 0)],[oX true false 5 (.agg [vI p0.Hidden.Grain,z1 p0.Hidden.First,z2 p0.Hidden.Step,z2 p0.Hidden.Show,z1 p0.seen]),oX false false 1 (.ref 3 0 s12.2.length),oX true false 5 (.agg [vI p0.Hidden.Grain,z1 p0.Hidden.First,z2 p0.Hidden.Step,z2 p0.Hidden.Show,z1 p0.seen]),.refs 4 (eF eI s12.2),.fam 1 true (eF eI s12.2),.loop 66 [(1,.ptr 0 0 0),(3,.ptr 1 0 0),(13,.fn (.func 124) [] [.ptr 2 0 0])] [14] (cA Try.f61 [true,true,false,true,true]) (cB Try.f61 [true,true,false,true,true]) .busy none],66⟩,(wk_lin 31 (st':=⟨(s61_66 s9 p0 s12)++[(5,vI s12.1),(7,vI 0),(25,vI s9.1),(26,vB true),(27,.ref 3 0 s12.2.length),(28,vI s9.1),(29,vI (zw (s9.1 - 1))),(30,.ptr 3 (zt (zw (s9.1 - 1))) 0),(31,.lin 4 (zt (zw (s9.1 - 1))) a19.length),(32,vI (zn a19)),(33,vI 0)],[oX true false 5 (.agg [vI p0.Hidden.Grain,z1 p0.Hidden.First,z2 p0.Hidden.Step,z2 p0.Hidden.Show,z1 p0.seen]),oX false false 1 (.ref 3 0 s12.2.length),oX true false 5 (.agg [vI p0.Hidden.Grain,z1 p0.Hidden.First,z2 p0.Hidden.Step,z2 p0.Hidden.Show,z1 p0.seen]),.refs 4 (eF eI s12.2),.fam 1 true (eF eI s12.2),.loop 66 [(1,.ptr 0 0 0),(3,.ptr 1 0 0),(13,.fn (.func 124) [] [.ptr 2 0 0])] [14] (cA Try.f61 [true,true,false,true,true]) (cB Try.f61 [true,true,false,true,true]) .busy none],66⟩) rfl (by kernel_rfl)),?_⟩
      refine wp_block ?_
      refine wwh h (fun s21=>⟨[(1,.ptr 0 0 0),(3,.ptr 1 0 0),(4,vI s9.1),(5,vI s12.1),(7,vI s21.1),(17,z1 p0.Hidden.First),(18,vI (zn p0.Hidden.First)),(19,vI s12.1),(31,.lin 4 (zt (zw (s9.1 - 1))) a19.length),(32,vI (zn a19)),(33,vI s21.2)],[oX true false 5 (.agg [vI p0.Hidden.Grain,z1 p0.Hidden.First,z2 p0.Hidden.Step,z2 p0.Hidden.Show,z1 p0.seen]),oX false false 1 (.ref 3 0 s12.2.length),oX true false 5 (.agg [vI p0.Hidden.Grain,z1 p0.Hidden.First,z2 p0.Hidden.Step,z2 p0.Hidden.Show,z1 p0.seen]),.refs 4 (eF eI s12.2),.fam 1 true (eF eI s12.2),.loop 66 [(1,.ptr 0 0 0),(3,.ptr 1 0 0),(13,.fn (.func 124) [] [.ptr 2 0 0])] [14] (cA Try.f61 [true,true,false,true,true]) (cB Try.f61 [true,true,false,true,true]) .busy none],66⟩) (fun v out=>out=.go (.exit 4) ⟨[(1,.ptr 0 0 0),(3,.ptr 1 0 0),(4,vI s9.1),(5,vI s12.1),(7,vI v),(17,z1 p0.Hidden.First),(18,vI (zn p0.Hidden.First)),(19,vI s12.1)],[oX true false 5 (.agg [vI p0.Hidden.Grain,z1 p0.Hidden.First,z2 p0.Hidden.Step,z2 p0.Hidden.Show,z1 p0.seen]),oX false false 1 (.ref 3 0 s12.2.length),oX true false 5 (.agg [vI p0.Hidden.Grain,z1 p0.Hidden.First,z2 p0.Hidden.Step,z2 p0.Hidden.Show,z1 p0.seen]),.refs 4 (eF eI s12.2),.fam 1 true (eF eI s12.2),.loop 66 [(1,.ptr 0 0 0),(3,.ptr 1 0 0),(13,.fn (.func 124) [] [.ptr 2 0 0])] [14] (cA Try.f61 [true,true,false,true,true]) (cB Try.f61 [true,true,false,true,true]) .busy none],66⟩) (wk_gc (live:=[1,3,4,5,7,17,18,19,31,32,33]) (keep:=[]) kr) ?_ ?_
      ·intro s21 o h
       unfold g_hidden_watcher_forward_b1 at h
       refine sq (wp_seq ?_)
       refine wbr (S:=fun b22=>⟨[(1,.ptr 0 0 0),(3,.ptr 1 0 0),(4,vI s9.1),(5,vI s12.1),(7,vI s21.1),(17,z1 p0.Hidden.First),(18,vI (zn p0.Hidden.First)),(19,vI s12.1),(31,.lin 4 (zt (zw (s9.1 - 1))) a19.length),(32,vI (zn a19)),(33,vI s21.2)]++[(34,vB b22)],[oX true false 5 (.agg [vI p0.Hidden.Grain,z1 p0.Hidden.First,z2 p0.Hidden.Step,z2 p0.Hidden.Show,z1 p0.seen]),oX false false 1 (.ref 3 0 s12.2.length),oX true false 5 (.agg [vI p0.Hidden.Grain,z1 p0.Hidden.First,z2 p0.Hidden.Step,z2 p0.Hidden.Show,z1 p0.seen]),.refs 4 (eF eI s12.2),.fam 1 true (eF eI s12.2),.loop 66 [(1,.ptr 0 0 0),(3,.ptr 1 0 0),(13,.fn (.func 124) [] [.ptr 2 0 0])] [14] (cA Try.f61 [true,true,false,true,true]) (cB Try.f61 [true,true,false,true,true]) .busy none],66⟩) h (fun q23 h=>?_) (fun q23 h=>?_)
       ·refine wcT (wp_skip (wp_seq (wp_block (wp_seq ?_))))
        refine wp_wk (wk_unlin 31 (st':=⟨[(1,.ptr 0 0 0),(3,.ptr 1 0 0),(4,vI s9.1),(5,vI s12.1),(7,vI s21.1),(17,z1 p0.Hidden.First),(18,vI (zn p0.Hidden.First)),(19,vI s12.1)]++[(31,.ref (fid 4 (zt (zw (s9.1 - 1)))) 0 a19.length),(32,vI (zn a19)),(33,vI s21.2),(34,vB true)],[oX true false 5 (.agg [vI p0.Hidden.Grain,z1 p0.Hidden.First,z2 p0.Hidden.Step,z2 p0.Hidden.Show,z1 p0.seen]),oX false false 1 (.ref 3 0 s12.2.length),oX true false 5 (.agg [vI p0.Hidden.Grain,z1 p0.Hidden.First,z2 p0.Hidden.Step,z2 p0.Hidden.Show,z1 p0.seen]),.refs 4 (eF eI s12.2),.fam 1 true (eF eI s12.2),.loop 66 [(1,.ptr 0 0 0),(3,.ptr 1 0 0),(13,.fn (.func 124) [] [.ptr 2 0 0])] [14] (cA Try.f61 [true,true,false,true,true]) (cB Try.f61 [true,true,false,true,true]) .busy none],66⟩) rfl kr) ?_
        refine wp_post ?_
        refine reg_in (sz 1 1 ?_)
        refine bind_elim h (fun a24 q25 h=>?_)
        refine idxI (enc:=eI) (ls:=s12.2) (x:=a19) (y:=a24) (n:=zw (s9.1 - 1)) (c:=s21.2) (w:=1) (j:=4) (fl:=true) kr kr q20 q25 rfl gE ?_
        refine loadI (enc:=eI) (ls:=s12.2) (x:=a19) (y:=a24) (n:=zw (s9.1 - 1)) (m:=s21.2) (w:=1) (j:=4) (c:=0) (fl:=true) kr kr q20 q25 rfl gE ?_
        refine sgz 2 5 (S:=⟨[(1,.ptr 0 0 0),(3,.ptr 1 0 0),(4,vI s9.1),(5,vI s12.1),(7,vI s21.1),(17,z1 p0.Hidden.First),(18,vI (zn p0.Hidden.First)),(19,vI s12.1)]++[(31,.ref (fid 4 (zt (zw (s9.1 - 1)))) 0 a19.length),(32,vI (zn a19)),(33,vI s21.2),(34,vB true),(35,vI s21.2),(36,.ptr (fid 4 (zt (zw (s9.1 - 1)))) (zt s21.2) 0),(37,vI a24),(8,vI s21.2),(9,vI a24)],[oX true false 5 (.agg [vI p0.Hidden.Grain,z1 p0.Hidden.First,z2 p0.Hidden.Step,z2 p0.Hidden.Show,z1 p0.seen]),oX false false 1 (.ref 3 0 s12.2.length),oX true false 5 (.agg [vI p0.Hidden.Grain,z1 p0.Hidden.First,z2 p0.Hidden.Step,z2 p0.Hidden.Show,z1 p0.seen]),.refs 4 (eF eI s12.2),.fam 1 true (eF eI s12.2),.loop 66 [(1,.ptr 0 0 0),(3,.ptr 1 0 0),(13,.fn (.func 124) [] [.ptr 2 0 0])] [14] (cA Try.f61 [true,true,false,true,true]) (cB Try.f61 [true,true,false,true,true]) .busy none],66⟩) ?_
        refine reg_end rfl ?_
        refine ⟨⟨[(1,.ptr 0 0 0),(3,.ptr 1 0 0),(4,vI s9.1),(5,vI s12.1),(7,vI s21.1),(17,z1 p0.Hidden.First),(18,vI (zn p0.Hidden.First)),(19,vI s12.1),(31,.lin 4 (zt (zw (s9.1 - 1))) a19.length),(32,vI (zn a19)),(33,vI s21.2)]++[(34,vB true),(35,vI s21.2),(36,.ptr (fid 4 (zt (zw (s9.1 - 1)))) (zt s21.2) 0),(37,vI a24),(8,vI s21.2),(9,vI a24)],[oX true false 5 (.agg [vI p0.Hidden.Grain,z1 p0.Hidden.First,z2 p0.Hidden.Step,z2 p0.Hidden.Show,z1 p0.seen]),oX false false 1 (.ref 3 0 s12.2.length),oX true false 5 (.agg [vI p0.Hidden.Grain,z1 p0.Hidden.First,z2 p0.Hidden.Step,z2 p0.Hidden.Show,z1 p0.seen]),.refs 4 (eF eI s12.2),.fam 1 true (eF eI s12.2),.loop 66 [(1,.ptr 0 0 0),(3,.ptr 1 0 0),(13,.fn (.func 124) [] [.ptr 2 0 0])] [14] (cA Try.f61 [true,true,false,true,true]) (cB Try.f61 [true,true,false,true,true]) .busy none],66⟩,(wk_lin 31 (st':=⟨[(1,.ptr 0 0 0),(3,.ptr 1 0 0),(4,vI s9.1),(5,vI s12.1),(7,vI s21.1),(17,z1 p0.Hidden.First),(18,vI (zn p0.Hidden.First)),(19,vI s12.1),(31,.lin 4 (zt (zw (s9.1 - 1))) a19.length),(32,vI (zn a19)),(33,vI s21.2)]++[(34,vB true),(35,vI s21.2),(36,.ptr (fid 4 (zt (zw (s9.1 - 1)))) (zt s21.2) 0),(37,vI a24),(8,vI s21.2),(9,vI a24)],[oX true false 5 (.agg [vI p0.Hidden.Grain,z1 p0.Hidden.First,z2 p0.Hidden.Step,z2 p0.Hidden.Show,z1 p0.seen]),oX false false 1 (.ref 3 0 s12.2.length),oX true false 5 (.agg [vI p0.Hidden.Grain,z1 p0.Hidden.First,z2 p0.Hidden.Step,z2 p0.Hidden.Show,z1 p0.seen]),.refs 4 (eF eI s12.2),.fam 1 true (eF eI s12.2),.loop 66 [(1,.ptr 0 0 0),(3,.ptr 1 0 0),(13,.fn (.func 124) [] [.ptr 2 0 0])] [14] (cA Try.f61 [true,true,false,true,true]) (cB Try.f61 [true,true,false,true,true]) .busy none],66⟩) rfl (by kernel_rfl)),?_⟩
        refine wp_post ?_
        refine reg_in (sz 6 6 ?_)
        refine bind_elim h (fun a26 q27 h=>?_)
        refine idxL' (enc:=z1) (l:=p0.Hidden.Step) (n:=s21.2) (fl:=false) (w:=1) (a:=a26) kr rfl gE q27 ?_
        refine sz 2 9 ?_
        refine bind_elim h (fun a28 q29 h=>?_)
        refine idxL' (enc:=eI) (l:=a26) (n:=s12.1) (fl:=true) (w:=1) (a:=a28) kr rfl gE q29 ?_
        refine sz 4 14 (reg_end rfl ?_)
        refine ⟨_,wk_refl,?_⟩
        refine wgc [1,3,4,5,7,17,18,19,31,32,33] [] ⟨[(1,.ptr 0 0 0),(3,.ptr 1 0 0),(4,vI s9.1),(5,vI s12.1),(7,vI (zw (s21.1+(zw (a24*a28))))),(17,z1 p0.Hidden.First),(18,vI (zn p0.Hidden.First)),(19,vI s12.1),(31,.lin 4 (zt (zw (s9.1 - 1))) a19.length),(32,vI (zn a19)),(33,vI s21.2)],[oX true false 5 (.agg [vI p0.Hidden.Grain,z1 p0.Hidden.First,z2 p0.Hidden.Step,z2 p0.Hidden.Show,z1 p0.seen]),oX false false 1 (.ref 3 0 s12.2.length),oX true false 5 (.agg [vI p0.Hidden.Grain,z1 p0.Hidden.First,z2 p0.Hidden.Step,z2 p0.Hidden.Show,z1 p0.seen]),.refs 4 (eF eI s12.2),.fam 1 true (eF eI s12.2),.loop 66 [(1,.ptr 0 0 0),(3,.ptr 1 0 0),(13,.fn (.func 124) [] [.ptr 2 0 0])] [14] (cA Try.f61 [true,true,false,true,true]) (cB Try.f61 [true,true,false,true,true]) .busy none],66⟩ ?_
        refine rn ?_
        cases h
        exact ⟨_,rfl,(wk_gc (live:=[1,3,4,5,7,17,18,19,31,32,33]) (keep:=[]) kr)⟩
       refine wcF (wg [1,3,4,5,7,17,18,19] [] ?_)
       refine wp_exit ?_
       cases h
       exact ⟨kr,rfl⟩
      intro x31 h out hx
      subst hx
      refine wp_post ?_
      refine rga hfol (sy 2 2 ?_)
      refine bind_elim h (fun a32 q33 h=>?_)
      refine idxF (enc:=eI) (ls:=s12.2) (x:=a32) (n:=s9.1) (ob:=3) (j:=4) kr kr q33 gE ?_
      refine loadF (enc:=eI) (ls:=s12.2) (x:=a32) (n:=s9.1) (ob:=3) (j:=4) kr kr q33 gE ?_
      refine sy 5 9 ?_
      refine callW bodyB_93 (g_hidden_watcher_shown_ok p0 s9.1 s12.1) h (fun x34 _ h=>?_)
      refine sy 1 11 ?_
      refine bind_elim h (fun a36 q37 h=>?_)
      refine idxI (enc:=eI) (ls:=s12.2) (x:=a32) (y:=a36) (n:=s9.1) (c:=s12.1) (w:=1) (j:=4) (fl:=true) kr kr q33 q37 rfl gE ?_
      refine storeI (enc:=eI) (ls:=s12.2) (x:=a32) (y:=a36) (y':=zw (x31*x34)) (n:=s9.1) (m:=s12.1) (w:=1) (j:=4) (q:=3) (c:=0) (fl:=true) (v:=vI (zw (x31*x34))) kr kr kr q33 q37 rfl kr kr kr gE ?_
      refine rknN (n:=s12.2.length) (m:=(List.set s12.2 (zt s9.1) (List.set a32 (zt s12.1) (zw (x31*x34)))).length) (S:=fun n38=>⟨[(1,.ptr 0 0 0),(3,.ptr 1 0 0),(4,vI s9.1),(5,vI s12.1),(7,vI x31),(17,z1 p0.Hidden.First),(18,vI (zn p0.Hidden.First)),(19,vI s12.1)]++[(52,.ref 3 0 n38),(53,vI s9.1),(54,.ptr 3 (zt s9.1) 0),(55,.ref (fid 4 (zt s9.1)) 0 a32.length),(56,vI s12.1),(57,vI x31),(58,.agg [vI p0.Hidden.Grain,z1 p0.Hidden.First,z2 p0.Hidden.Step,z2 p0.Hidden.Show,z1 p0.seen]),(59,vI s9.1),(60,vI s12.1),(61,vI x34),(62,vI (zw (x31*x34))),(63,.ptr (fid 4 (zt s9.1)) (zt s12.1) 0)],[oX true false 5 (.agg [vI p0.Hidden.Grain,z1 p0.Hidden.First,z2 p0.Hidden.Step,z2 p0.Hidden.Show,z1 p0.seen]),oX false false 1 (.ref 3 0 n38),oX true false 5 (.agg [vI p0.Hidden.Grain,z1 p0.Hidden.First,z2 p0.Hidden.Step,z2 p0.Hidden.Show,z1 p0.seen]),.refs 4 (eF eI (List.set s12.2 (zt s9.1) (List.set a32 (zt s12.1) (zw (x31*x34))))),.fam 1 true (eF eI (List.set s12.2 (zt s9.1) (List.set a32 (zt s12.1) (zw (x31*x34))))),.loop 66 [(1,.ptr 0 0 0),(3,.ptr 1 0 0),(13,.fn (.func 124) [] [.ptr 2 0 0])] [14] (cA Try.f61 [true,true,false,true,true]) (cB Try.f61 [true,true,false,true,true]) .busy none],66⟩) (by simp only [List.length_set]) ?_
      refine rgd ?_
      refine ⟨_,wk_refl,?_⟩
      refine wg [1,3,4,17,18,19] [] (rn ?_)
      cases h
      exact ⟨_,rfl,(wk_gc (live:=[1,3,4,17,18,19]) (keep:=[]) kr)⟩
     refine wcF (wp_skip ?_)
     refine wp_post ?_
     refine rga hfol (sy 2 2 ?_)
     refine bind_elim h (fun a39 q40 h=>?_)
     refine idxF (enc:=eI) (ls:=s12.2) (x:=a39) (n:=s9.1) (ob:=3) (j:=4) kr kr q40 gE ?_
     refine loadF (enc:=eI) (ls:=s12.2) (x:=a39) (n:=s9.1) (ob:=3) (j:=4) kr kr q40 gE ?_
     refine sy 5 9 ?_
     refine callW bodyB_93 (g_hidden_watcher_shown_ok p0 s9.1 s12.1) h (fun x41 _ h=>?_)
     refine sy 1 11 ?_
     refine bind_elim h (fun a43 q44 h=>?_)
     refine idxI (enc:=eI) (ls:=s12.2) (x:=a39) (y:=a43) (n:=s9.1) (c:=s12.1) (w:=1) (j:=4) (fl:=true) kr kr q40 q44 rfl gE ?_
     refine storeI (enc:=eI) (ls:=s12.2) (x:=a39) (y:=a43) (y':=zw (a15*x41)) (n:=s9.1) (m:=s12.1) (w:=1) (j:=4) (q:=3) (c:=0) (fl:=true) (v:=vI (zw (a15*x41))) kr kr kr q40 q44 rfl kr kr kr gE ?_
     refine rknN (n:=s12.2.length) (m:=(List.set s12.2 (zt s9.1) (List.set a39 (zt s12.1) (zw (a15*x41)))).length) (S:=fun n45=>⟨[(1,.ptr 0 0 0),(3,.ptr 1 0 0),(4,vI s9.1),(17,z1 p0.Hidden.First),(18,vI (zn p0.Hidden.First)),(19,vI s12.1),(5,vI s12.1),(7,vI a15)]++[(25,vI s9.1),(26,vB false),(52,.ref 3 0 n45),(53,vI s9.1),(54,.ptr 3 (zt s9.1) 0),(55,.ref (fid 4 (zt s9.1)) 0 a39.length),(56,vI s12.1),(57,vI a15),(58,.agg [vI p0.Hidden.Grain,z1 p0.Hidden.First,z2 p0.Hidden.Step,z2 p0.Hidden.Show,z1 p0.seen]),(59,vI s9.1),(60,vI s12.1),(61,vI x41),(62,vI (zw (a15*x41))),(63,.ptr (fid 4 (zt s9.1)) (zt s12.1) 0)],[oX true false 5 (.agg [vI p0.Hidden.Grain,z1 p0.Hidden.First,z2 p0.Hidden.Step,z2 p0.Hidden.Show,z1 p0.seen]),oX false false 1 (.ref 3 0 n45),oX true false 5 (.agg [vI p0.Hidden.Grain,z1 p0.Hidden.First,z2 p0.Hidden.Step,z2 p0.Hidden.Show,z1 p0.seen]),.refs 4 (eF eI (List.set s12.2 (zt s9.1) (List.set a39 (zt s12.1) (zw (a15*x41))))),.fam 1 true (eF eI (List.set s12.2 (zt s9.1) (List.set a39 (zt s12.1) (zw (a15*x41))))),.loop 66 [(1,.ptr 0 0 0),(3,.ptr 1 0 0),(13,.fn (.func 124) [] [.ptr 2 0 0])] [14] (cA Try.f61 [true,true,false,true,true]) (cB Try.f61 [true,true,false,true,true]) .busy none],66⟩) (by simp only [List.length_set]) ?_
     refine rgd ?_
     refine ⟨_,wk_refl,?_⟩
     refine wg [1,3,4,17,18,19] [] (rn ?_)
     cases h
     exact ⟨_,rfl,(wk_gc (live:=[1,3,4,17,18,19]) (keep:=[]) kr)⟩
    refine wcF (wg [] [] ?_)
    refine wp_exit ?_
    cases h
    exact ⟨kr,rfl⟩
   intro x47 h out hx
   subst hx
   refine ⟨⟨[(0,.yld 5),(6,vI (zn p0.seen)),(7,vI s9.1),(8,vB true),(9,vI s9.1),(3,vI s9.1),(10,.yld 5),(11,vI s9.1),(12,vB true)],[oX true false 5 (.agg [vI p0.Hidden.Grain,z1 p0.Hidden.First,z2 p0.Hidden.Step,z2 p0.Hidden.Show,z1 p0.seen]),oX false false 1 (.ref 3 0 x47.length),oX true false 5 (.agg [vI p0.Hidden.Grain,z1 p0.Hidden.First,z2 p0.Hidden.Step,z2 p0.Hidden.Show,z1 p0.seen]),.refs 4 (eF eI x47),.fam 1 true (eF eI x47),.loop 66 [(1,.ptr 0 0 0),(3,.ptr 1 0 0),(13,.fn (.func 124) [] [.ptr 2 0 0])] [14] (cA Try.f61 [true,true,false,true,true]) (cB Try.f61 [true,true,false,true,true]) .ready none],15⟩,by as_aux_lemma=>kernel_rfl,?_⟩
   refine sz 1 4 (reg_end rfl ?_)
   refine ⟨_,wk_refl,?_⟩
   refine wcF (wp_skip (wg [0,6,7] [] (rn ?_)))
   cases h
   exact ⟨_,rfl,(wk_gc (live:=[0,6,7]) (keep:=[]) kr)⟩
  refine wcF (wg [] [] ?_)
  refine wp_exit ?_
  cases h
  exact ⟨kr,rfl⟩
 intro x49 h out hx
 subst hx
 refine ⟨.go .normal ⟨[(1,.ptr 0 0 0),(3,.ptr 1 0 0),(13,.fn (.func 124) [] [.ptr 2 0 0])],[oX true false 5 (.agg [vI p0.Hidden.Grain,z1 p0.Hidden.First,z2 p0.Hidden.Step,z2 p0.Hidden.Show,z1 p0.seen]),oX false false 1 (.ref 3 0 x49.length),oX true false 5 (.agg [vI p0.Hidden.Grain,z1 p0.Hidden.First,z2 p0.Hidden.Step,z2 p0.Hidden.Show,z1 p0.seen]),.refs 4 (eF eI x49),.fam 1 true (eF eI x49),.dead],66⟩,by as_aux_lemma=>kernel_rfl,?_⟩
 refine wp_seq ?_
 refine wp_post ?_
 refine rn ?_
 refine ⟨_,wk_refl,?_⟩
 refine wgc [2] [3,4] ⟨[(2,.ref 0 0 x49.length)],[.refs 1 (eF eI x49),.fam 1 true (eF eI x49)],66⟩ ?_
 refine wp_wk (wk_frzF 0 1 (enc:=eI) (ls:=x49) (st':=⟨[(2,.ref 0 0 x49.length)],[oR false 1 z1 x49,.dead],66⟩) rfl rfl kr) ?_
 cases h
 exact wp_ret (show fnOut _ _ _ _=_ from by kernel_rfl)
theorem g_hidden_Forward_ok (p0:Tapi_Hidden) (p1:(List Int)) (x:((List (List Int)) × Int)) (h:g_hidden_Forward p0 p1=some x):CallOk Try.prog 16 [.agg [vI p0.Grain,z1 p0.First,z2 p0.Step,z2 p0.Show],z1 p1] (.ret (.tup [.ref 0 0 x.1.length,vI x.2]) [oR false 1 z1 x.1]):=by
 refine fn_ok [] Try.func16 rfl (by decide +kernel) rfl ?_
 unfold g_hidden_Forward at h
 refine wp_eqB (base':=0) (st':=⟨[(0,.agg [vI p0.Grain,z1 p0.First,z2 p0.Step,z2 p0.Show]),(1,z1 p1)],[],19⟩) kr kr ?_
 refine wp_seq (reg_in ?_)
 refine sgL false [] [] false gE ?_
 refine sz 2 3 (reg_end rfl (wp_seq (reg_in (sz 2 2 ?_))))
 refine callW bodyB_60 (g_hidden_newWatcher_ok p0 p1) h (fun x1 _ h=>?_)
 refine sz 3 6 ?_
 refine sgL false [] [] false gE ?_
 refine sz 2 9 (reg_end rfl (wp_seq (wp_seq ?_)))
 refine wgc [6,7] [1] ⟨[(6,.ptr 0 0 0),(7,vI x1.2)],[oX true false 5 (.agg [vI x1.1.Hidden.Grain,z1 x1.1.Hidden.First,z2 x1.1.Hidden.Step,z2 x1.1.Hidden.Show,z1 x1.1.seen])],19⟩ ?_
 refine rn ?_
 refine wb [15] h (fun q4 h=>?_) (fun q4 h=>?_)
 ·refine wcT (sq (wg [4,5] [] ?_))
  refine wp_wk (wk_nil 4 1 true false gE) ?_
  cases h
  exact wp_ret (show fnOut _ _ _ _=_ from by kernel_rfl)
 refine wcF (wp_skip (wp_seq (reg_in (sz 1 1 ?_))))
 refine callW bodyB_61 (g_hidden_watcher_forward_ok x1.1) h (fun x5 _ h=>?_)
 refine sz 2 4 (reg_end rfl (wg [4,5] [1] ?_))
 cases h
 exact wp_ret (show fnOut _ _ _ _=_ from by kernel_rfl)
noncomputable abbrev s62_1 (p0:Thidden_watcher):List (Nat × AV):=[(0,.agg [vI p0.Hidden.Grain,z1 p0.Hidden.First,z2 p0.Hidden.Step,z2 p0.Hidden.Show,z1 p0.seen])]
noncomputable abbrev s62_2 (p0:Thidden_watcher):List (Nat × AV):=(s62_1 p0)++[(1,.ptr 0 0 0),(2,.nils),(8,.agg [vI p0.Hidden.Grain,z1 p0.Hidden.First,z2 p0.Hidden.Step,z2 p0.Hidden.Show,z1 p0.seen])]
noncomputable abbrev s62_5 (p0:Thidden_watcher):List (Nat × AV):=(s62_1 p0)++[(1,.ptr 1 0 0),(2,.nils),(5,.ptr 1 0 4),(6,z1 p0.seen),(7,vI (zn p0.seen)),(8,.ref 2 0 ((List.replicate (zt (zn p0.seen)) ([]:(List Int))).length)),(3,.ref 2 0 ((List.replicate (zt (zn p0.seen)) ([]:(List Int))).length))]
noncomputable abbrev s62_6 (p0:Thidden_watcher):List AObj:=[oX true false 5 (.agg [vI p0.Hidden.Grain,z1 p0.Hidden.First,z2 p0.Hidden.Step,z2 p0.Hidden.Show,z1 p0.seen]),oX true false 5 (.agg [vI p0.Hidden.Grain,z1 p0.Hidden.First,z2 p0.Hidden.Step,z2 p0.Hidden.Show,z1 p0.seen]),.refs 3 (eF eI (List.replicate (zt (zn p0.seen)) ([]:(List Int)))),.fam 1 true (eF eI (List.replicate (zt (zn p0.seen)) ([]:(List Int))))]
noncomputable abbrev s62_16 (s1:(Int × (List (List Int)))) (p0:Thidden_watcher):List (Nat × AV):=[(1,.ptr 1 0 0),(3,.ref 2 0 s1.2.length),(10,vI (((List.replicate (zt (zn p0.seen)) ([]:(List Int))).length):Int)),(11,vI s1.1)]
noncomputable abbrev s62_19 (p0:Thidden_watcher) (s1:(Int × (List (List Int)))):List AObj:=[oX true false 5 (.agg [vI p0.Hidden.Grain,z1 p0.Hidden.First,z2 p0.Hidden.Step,z2 p0.Hidden.Show,z1 p0.seen]),oX true false 5 (.agg [vI p0.Hidden.Grain,z1 p0.Hidden.First,z2 p0.Hidden.Step,z2 p0.Hidden.Show,z1 p0.seen]),.refs 3 (eF eI (List.set s1.2 (zt s1.1) (List.replicate (zt (zn p0.Hidden.First)) (0:Int)))),.fam 1 true (eF eI (List.set s1.2 (zt s1.1) (List.replicate (zt (zn p0.Hidden.First)) (0:Int)))),.dead]
noncomputable abbrev s62_31 (p0:Thidden_watcher):List (Nat × AV):=[(0,.agg [vI p0.Hidden.Grain,z1 p0.Hidden.First,z2 p0.Hidden.Step,z2 p0.Hidden.Show,z1 p0.seen]),(1,vI 1)]
noncomputable abbrev s62_66 (s9:(Int × (List (List Int)))) (p0:Thidden_watcher) (s12:(Int × (List (List Int)))):List (Nat × AV):=[(1,.ptr 0 0 0),(3,.ptr 1 0 0),(4,vI s9.1),(16,vI (zn p0.Hidden.First)),(17,vI s12.1),(5,vI s12.1)]
theorem g_hidden_watcher_backward_ok (p0:Thidden_watcher) (x:(List (List Int))) (h:g_hidden_watcher_backward p0=some x):CallOk Try.prog 62 [.agg [vI p0.Hidden.Grain,z1 p0.Hidden.First,z2 p0.Hidden.Step,z2 p0.Hidden.Show,z1 p0.seen]] (.ret (.ref 0 0 x.length) [oR false 1 z1 x]):=by
 refine fn_ok [] Try.func62 rfl (by decide +kernel) rfl ?_
 unfold g_hidden_watcher_backward at h
 refine wp_eqB (base':=0) (st':=⟨(s62_1 p0),[],72⟩) kr kr ?_
 refine wp_seq (reg_in ?_)
 refine sgL false [] [] false gE ?_
 refine sz 1 2 (reg_end rfl (wp_seq ?_))
 refine wp_post ?_
 refine reg_in (sz 1 1 ?_)
 refine inlR (f:=91) (fn:=Try.f91) (as0:=[.agg [vI p0.Hidden.Grain,z1 p0.Hidden.First,z2 p0.Hidden.Step,z2 p0.Hidden.Show,z1 p0.seen]]) kr Try.func91 rfl (by decide +kernel) rfl ?_
 refine wp_eqB (base':=1) (st':=⟨(s62_1 p0),[oX true false 5 (.agg [vI p0.Hidden.Grain,z1 p0.Hidden.First,z2 p0.Hidden.Step,z2 p0.Hidden.Show,z1 p0.seen])],24⟩) kr kr ?_
 refine wp_seq (reg_in ?_)
 refine sgL false [] [] false gE ?_
 refine sz 1 2 (reg_end rfl (wp_seq ?_))
 refine wp_post ?_
 refine reg_in (sz 2 2 ?_)
 refine lenL (enc:=eI) (l:=p0.seen) (fl:=true) kr gE ?_
 refine mkL (enc:=fun _=>AV.nils) (z:=([]:(List Int))) (z0:=AV.nils) (n:=(zn p0.seen)) (m:=(zn p0.seen)) (w:=1) (bytes:=24) [] false kr rfl gE kr h (fun h=>?_)
 refine sgz 1 5 (S:=⟨(s62_5 p0),[oX true false 5 (.agg [vI p0.Hidden.Grain,z1 p0.Hidden.First,z2 p0.Hidden.Step,z2 p0.Hidden.Show,z1 p0.seen]),oX true false 5 (.agg [vI p0.Hidden.Grain,z1 p0.Hidden.First,z2 p0.Hidden.Step,z2 p0.Hidden.Show,z1 p0.seen]),.row false false true false 1 (List.map (fun _=>AV.nils) (List.replicate (zt (zn p0.seen)) ([]:(List Int))))],24⟩) ?_
 refine reg_end rfl ?_
 refine ⟨⟨(s62_5 p0),(s62_6 p0),24⟩,(wk_fam 2 1 true eI (x0:=([]:List Int)) (enc1:=fun _=>AV.nils) (st':=⟨(s62_5 p0),(s62_6 p0),24⟩) rfl rfl rfl (by kernel_rfl)),?_⟩
 refine wp_seq (wp_seq (wg [1,3] [1,2,3] (rn (wp_block ?_))))
 refine wwh h (fun s1=>⟨(s62_16 s1 p0),[oX true false 5 (.agg [vI p0.Hidden.Grain,z1 p0.Hidden.First,z2 p0.Hidden.Step,z2 p0.Hidden.Show,z1 p0.seen]),oX true false 5 (.agg [vI p0.Hidden.Grain,z1 p0.Hidden.First,z2 p0.Hidden.Step,z2 p0.Hidden.Show,z1 p0.seen]),.refs 3 (eF eI s1.2),.fam 1 true (eF eI s1.2)],24⟩) (fun v out=>out=.go (.exit 0) ⟨[(3,.ref 1 0 v.length)],[oX true false 5 (.agg [vI p0.Hidden.Grain,z1 p0.Hidden.First,z2 p0.Hidden.Step,z2 p0.Hidden.Show,z1 p0.seen]),.refs 2 (eF eI v),.fam 1 true (eF eI v)],24⟩) (wk_gc (live:=[1,3,10,11]) (keep:=[1,2,3]) kr) ?_ ?_
 ·intro s1 o h
  unfold g_hidden_watcher_backward_b0 at h
  refine sq (wp_seq ?_)
  refine wb [12] h (fun q3 h=>?_) (fun q3 h=>?_)
  ·refine wcT (wp_skip (wp_seq (wp_block (sq ?_))))
   refine wp_post ?_
   refine reg_in (sz 5 5 ?_)
   refine lenL (enc:=eI) (l:=p0.Hidden.First) (fl:=true) kr gE ?_
   refine mkL (enc:=eI) (z:=(0:Int)) (z0:=vI 0) (n:=(zn p0.Hidden.First)) (m:=(zn p0.Hidden.First)) (w:=1) (bytes:=8) [] true kr rfl gE kr h (fun h=>?_)
   refine bind_elim h (fun a4 q5 h=>?_)
   refine idxF (enc:=eI) (ls:=s1.2) (x:=a4) (n:=s1.1) (ob:=2) (j:=3) kr kr q5 gE ?_
   refine storeF (enc:=eI) (ls:=s1.2) (x:=a4) (n:=s1.1) (ob:=2) (j:=3) (m:=4) (q:=(List.replicate (zt (zn p0.Hidden.First)) (0:Int)).length) (S:=⟨(s62_16 s1 p0)++[(12,vB true),(13,vI s1.1),(4,vI s1.1),(14,.ref 2 0 s1.2.length),(15,vI s1.1),(16,.ptr 1 0 0),(17,.ptr 1 0 1),(18,z1 p0.Hidden.First),(19,vI (zn p0.Hidden.First)),(20,.ref 4 0 ((List.replicate (zt (zn p0.Hidden.First)) (0:Int)).length)),(21,.ptr 2 (zt s1.1) 0)],[oX true false 5 (.agg [vI p0.Hidden.Grain,z1 p0.Hidden.First,z2 p0.Hidden.Step,z2 p0.Hidden.Show,z1 p0.seen]),oX true false 5 (.agg [vI p0.Hidden.Grain,z1 p0.Hidden.First,z2 p0.Hidden.Step,z2 p0.Hidden.Show,z1 p0.seen]),.row false false false false 1 ((famRefs 3 0 (eF eI s1.2)).set (zt s1.1) (.ref 4 0 ((List.replicate (zt (zn p0.Hidden.First)) (0:Int)).length))),.fam 1 true (eF eI s1.2),oR true 1 eI (List.replicate (zt (zn p0.Hidden.First)) (0:Int))],24⟩) kr kr q5 kr kr kr ?_
   refine reg_end rfl ?_
   refine ⟨⟨[(1,.ptr 1 0 0),(3,.ref 2 0 ((List.set s1.2 (zt s1.1) (List.replicate (zt (zn p0.Hidden.First)) (0:Int))).length)),(10,vI (((List.replicate (zt (zn p0.seen)) ([]:(List Int))).length):Int)),(11,vI s1.1)]++[(12,vB true),(13,vI s1.1),(4,vI s1.1),(14,.ref 2 0 ((List.set s1.2 (zt s1.1) (List.replicate (zt (zn p0.Hidden.First)) (0:Int))).length)),(15,vI s1.1),(16,.ptr 1 0 0),(17,.ptr 1 0 1),(18,z1 p0.Hidden.First),(19,vI (zn p0.Hidden.First)),(21,.ptr 2 (zt s1.1) 0)],(s62_19 p0 s1),24⟩,(wk_trans (wk_adopt 2 3 4 (enc:=eI) (ls:=s1.2) (x:=a4) (b:=(List.replicate (zt (zn p0.Hidden.First)) (0:Int))) (n:=s1.1) [1,3,10,11,12,13,4,14,15,16,17,18,19,21] (st':=⟨(s62_16 s1 p0)++[(12,vB true),(13,vI s1.1),(4,vI s1.1),(14,.ref 2 0 s1.2.length),(15,vI s1.1),(16,.ptr 1 0 0),(17,.ptr 1 0 1),(18,z1 p0.Hidden.First),(19,vI (zn p0.Hidden.First)),(21,.ptr 2 (zt s1.1) 0)],(s62_19 p0 s1),24⟩) rfl rfl rfl q5 (by kernel_rfl) (by kernel_rfl)) (wk_eq (congrArg (fun n6=>(⟨[(1,.ptr 1 0 0),(3,.ref 2 0 n6),(10,vI (((List.replicate (zt (zn p0.seen)) ([]:(List Int))).length):Int)),(11,vI s1.1),(12,vB true),(13,vI s1.1),(4,vI s1.1),(14,.ref 2 0 n6),(15,vI s1.1),(16,.ptr 1 0 0),(17,.ptr 1 0 1),(18,z1 p0.Hidden.First),(19,vI (zn p0.Hidden.First)),(21,.ptr 2 (zt s1.1) 0)],(s62_19 p0 s1),24⟩:St)) (show s1.2.length=(List.set s1.2 (zt s1.1) (List.replicate (zt (zn p0.Hidden.First)) (0:Int))).length by simp only [List.length_set])))),?_⟩
   refine wg [1,3,10,11] [1,2,3] (rn ?_)
   cases h
   exact ⟨_,rfl,(wk_gc (live:=[1,3,10,11]) (keep:=[1,2,3]) kr)⟩
  refine wcF (wg [3] [2,3] ?_)
  refine wp_exit ?_
  cases h
  exact ⟨kr,rfl⟩
 intro x8 h out hx
 subst hx
 refine sq (wg [2] [1,2] ?_)
 refine wp_ret ?_
 refine ⟨⟨(s62_2 p0)++[(9,.ref 1 0 x8.length)],[oX true false 5 (.agg [vI p0.Hidden.Grain,z1 p0.Hidden.First,z2 p0.Hidden.Step,z2 p0.Hidden.Show,z1 p0.seen]),.refs 2 (eF eI x8),.fam 1 true (eF eI x8)],72⟩,by as_aux_lemma=>kernel_rfl,?_⟩
 refine sgL false [] [] false gE ?_
 refine sz 1 4 (reg_end rfl ?_)
 refine ⟨_,wk_refl,?_⟩
 refine wp_seq (wp_seq ?_)
 refine wp_post ?_
 refine reg_in (sz 1 1 ?_)
 refine inlR (f:=92) (fn:=Try.f92) (as0:=[.agg [vI p0.Hidden.Grain,z1 p0.Hidden.First,z2 p0.Hidden.Step,z2 p0.Hidden.Show,z1 p0.seen],vI 1]) kr Try.func92 rfl (by decide +kernel) rfl ?_
 refine wp_eqB (base':=4) (st':=⟨(s62_31 p0),[oX true false 5 (.agg [vI p0.Hidden.Grain,z1 p0.Hidden.First,z2 p0.Hidden.Step,z2 p0.Hidden.Show,z1 p0.seen]),.refs 2 (eF eI x8),.fam 1 true (eF eI x8),oX false false 1 (.ref 1 0 x8.length)],12⟩) kr kr ?_
 refine wp_seq (reg_in ?_)
 refine sgL false [] [] false gE ?_
 refine sz 1 2 (reg_end rfl (wp_seq ?_))
 refine wp_post ?_
 refine reg_in (sz 1 1 ?_)
 refine sgL false [] [] false gE ?_
 refine sz 1 3 (reg_end rfl ?_)
 refine ⟨_,wk_refl,?_⟩
 refine wp_seq ?_
 refine wp_post ?_
 refine rga hfol (sy 4 4 ?_)
 refine inlN (f:=111) (fn:=Try.f111) (as0:=[.agg [vI p0.Hidden.Grain,z1 p0.Hidden.First,z2 p0.Hidden.Step,z2 p0.Hidden.Show,z1 p0.seen]]) kr kr Try.func111 rfl (by decide +kernel) rfl ?_
 refine wp_eqB (base':=6) (st':=⟨(s62_1 p0),[.dead,.dead,.dead,.dead,.dead,.dead],4⟩) kr kr ?_
 refine wp_seq (reg_in ?_)
 refine sgL false [] [] false gE ?_
 refine sz 1 2 (reg_end rfl (sq (wg [2] [6] ?_)))
 refine wp_ret ?_
 refine ⟨⟨(s62_31 p0)++[(2,.ptr 4 0 0),(4,.nilf),(6,.agg [.fn (.func 110) [] [],.fn (.func 111) [] []]),(5,.ptr 5 0 0),(7,vI 1),(8,.ptr 5 0 1),(9,.fn (.func 111) [] []),(10,.agg [vI p0.Hidden.Grain,z1 p0.Hidden.First,z2 p0.Hidden.Step,z2 p0.Hidden.Show,z1 p0.seen])]++[(11,.fn (.func 125) [] [.ptr 6 0 0])],[oX true false 5 (.agg [vI p0.Hidden.Grain,z1 p0.Hidden.First,z2 p0.Hidden.Step,z2 p0.Hidden.Show,z1 p0.seen]),.refs 2 (eF eI x8),.fam 1 true (eF eI x8),oX false false 1 (.ref 1 0 x8.length),oX true false 5 (.agg [vI p0.Hidden.Grain,z1 p0.Hidden.First,z2 p0.Hidden.Step,z2 p0.Hidden.Show,z1 p0.seen]),oX true false 2 (.agg [.fn (.func 110) [] [],.fn (.func 111) [] []]),oX true false 5 (.agg [vI p0.Hidden.Grain,z1 p0.Hidden.First,z2 p0.Hidden.Step,z2 p0.Hidden.Show,z1 p0.seen])],12⟩,by as_aux_lemma=>kernel_rfl,?_⟩
 refine sy 1 6 (rgd ?_)
 refine ⟨_,wk_refl,?_⟩
 refine wg [4] [6] ?_
 refine wp_ret ?_
 refine ⟨⟨(s62_2 p0)++[(9,.ref 1 0 x8.length),(3,.ptr 3 0 0),(10,.agg [vI p0.Hidden.Grain,z1 p0.Hidden.First,z2 p0.Hidden.Step,z2 p0.Hidden.Show,z1 p0.seen])]++[(11,.fn (.func 125) [] [.ptr 4 0 0])],[oX true false 5 (.agg [vI p0.Hidden.Grain,z1 p0.Hidden.First,z2 p0.Hidden.Step,z2 p0.Hidden.Show,z1 p0.seen]),.refs 2 (eF eI x8),.fam 1 true (eF eI x8),oX false false 1 (.ref 1 0 x8.length),oX true false 5 (.agg [vI p0.Hidden.Grain,z1 p0.Hidden.First,z2 p0.Hidden.Step,z2 p0.Hidden.Show,z1 p0.seen])],72⟩,by as_aux_lemma=>kernel_rfl,?_⟩
 refine reg_end rfl ?_
 refine ⟨_,wk_refl,?_⟩
 refine wp_block ?_
 refine wgc [1,3,11] [0,3,4,1,2] ⟨[(1,.ptr 0 0 0),(3,.ptr 1 0 0),(11,.fn (.func 125) [] [.ptr 2 0 0])],[oX true false 5 (.agg [vI p0.Hidden.Grain,z1 p0.Hidden.First,z2 p0.Hidden.Step,z2 p0.Hidden.Show,z1 p0.seen]),oX false false 1 (.ref 3 0 x8.length),oX true false 5 (.agg [vI p0.Hidden.Grain,z1 p0.Hidden.First,z2 p0.Hidden.Step,z2 p0.Hidden.Show,z1 p0.seen]),.refs 4 (eF eI x8),.fam 1 true (eF eI x8)],72⟩ ?_
 refine wp_range (f:=125) (fn:=Try.f125) (first:=[]) (caps:=[.ptr 2 0 0]) rfl Try.func125 rfl (by decide +kernel) rfl rfl ?_
 refine wp_eqB (base':=6) (st':=⟨[(0,.yld 5),(1,.ptr 2 0 0)],[oX true false 5 (.agg [vI p0.Hidden.Grain,z1 p0.Hidden.First,z2 p0.Hidden.Step,z2 p0.Hidden.Show,z1 p0.seen]),oX false false 1 (.ref 3 0 x8.length),oX true false 5 (.agg [vI p0.Hidden.Grain,z1 p0.Hidden.First,z2 p0.Hidden.Step,z2 p0.Hidden.Show,z1 p0.seen]),.refs 4 (eF eI x8),.fam 1 true (eF eI x8),.loop 72 [(1,.ptr 0 0 0),(3,.ptr 1 0 0),(11,.fn (.func 125) [] [.ptr 2 0 0])] [12] (cA Try.f62 [true,true,false,true,true]) (cB Try.f62 [true,true,false,true,true]) .ready none],16⟩) kr kr ?_
 refine wp_seq ?_
 refine wp_post ?_
 refine reg_in (sz 2 2 ?_)
 refine lenL (enc:=eI) (l:=p0.seen) (fl:=true) kr gE ?_
 refine sz 2 5 (reg_end rfl ?_)
 refine ⟨_,wk_refl,?_⟩
 refine wp_block ?_
 refine wwh h (fun s9=>⟨[(0,.yld 5),(3,vI s9.1)],[oX true false 5 (.agg [vI p0.Hidden.Grain,z1 p0.Hidden.First,z2 p0.Hidden.Step,z2 p0.Hidden.Show,z1 p0.seen]),oX false false 1 (.ref 3 0 s9.2.length),oX true false 5 (.agg [vI p0.Hidden.Grain,z1 p0.Hidden.First,z2 p0.Hidden.Step,z2 p0.Hidden.Show,z1 p0.seen]),.refs 4 (eF eI s9.2),.fam 1 true (eF eI s9.2),.loop 72 [(1,.ptr 0 0 0),(3,.ptr 1 0 0),(11,.fn (.func 125) [] [.ptr 2 0 0])] [12] (cA Try.f62 [true,true,false,true,true]) (cB Try.f62 [true,true,false,true,true]) .ready none],16⟩) (fun v out=>out=.go (.exit 0) ⟨[],[oX true false 5 (.agg [vI p0.Hidden.Grain,z1 p0.Hidden.First,z2 p0.Hidden.Step,z2 p0.Hidden.Show,z1 p0.seen]),oX false false 1 (.ref 3 0 v.length),oX true false 5 (.agg [vI p0.Hidden.Grain,z1 p0.Hidden.First,z2 p0.Hidden.Step,z2 p0.Hidden.Show,z1 p0.seen]),.refs 4 (eF eI v),.fam 1 true (eF eI v),.loop 72 [(1,.ptr 0 0 0),(3,.ptr 1 0 0),(11,.fn (.func 125) [] [.ptr 2 0 0])] [12] (cA Try.f62 [true,true,false,true,true]) (cB Try.f62 [true,true,false,true,true]) .ready none],16⟩) (wk_gc (live:=[0,3]) (keep:=[]) kr) ?_ ?_
 ·intro s9 o h
  unfold g_hidden_watcher_backward_b3 at h
  refine wp_seq (sq ?_)
  refine wb [9] h (fun q11 h=>?_) (fun q11 h=>?_)
  ·refine wcT (wp_skip (wp_seq (wp_block (wp_seq ?_))))
   refine wp_post ?_
   refine reg_in (sz 2 2 ?_)
   refine yldR (l:=5) (nt:=72) (us:=[vI s9.1]) (sl:=[(1,.ptr 0 0 0),(3,.ptr 1 0 0),(11,.fn (.func 125) [] [.ptr 2 0 0])]) (ps:=[12]) (assign:=cA Try.f62 [true,true,false,true,true]) (body:=cB Try.f62 [true,true,false,true,true]) (pe:=none) kr rfl rfl ?_
   refine wp_eqB (base':=6) (st':=⟨[(1,.ptr 0 0 0),(3,.ptr 1 0 0),(11,.fn (.func 125) [] [.ptr 2 0 0]),(12,vI s9.1)],[oX true false 5 (.agg [vI p0.Hidden.Grain,z1 p0.Hidden.First,z2 p0.Hidden.Step,z2 p0.Hidden.Show,z1 p0.seen]),oX false false 1 (.ref 3 0 s9.2.length),oX true false 5 (.agg [vI p0.Hidden.Grain,z1 p0.Hidden.First,z2 p0.Hidden.Step,z2 p0.Hidden.Show,z1 p0.seen]),.refs 4 (eF eI s9.2),.fam 1 true (eF eI s9.2),.loop 72 [(1,.ptr 0 0 0),(3,.ptr 1 0 0),(11,.fn (.func 125) [] [.ptr 2 0 0])] [12] (cA Try.f62 [true,true,false,true,true]) (cB Try.f62 [true,true,false,true,true]) .ready none],72⟩) kr kr ?_
   refine rn ?_
   refine ⟨⟨[(1,.ptr 0 0 0),(3,.ptr 1 0 0),(11,.fn (.func 125) [] [.ptr 2 0 0]),(12,vI s9.1),(4,vI s9.1)],[oX true false 5 (.agg [vI p0.Hidden.Grain,z1 p0.Hidden.First,z2 p0.Hidden.Step,z2 p0.Hidden.Show,z1 p0.seen]),oX false false 1 (.ref 3 0 s9.2.length),oX true false 5 (.agg [vI p0.Hidden.Grain,z1 p0.Hidden.First,z2 p0.Hidden.Step,z2 p0.Hidden.Show,z1 p0.seen]),.refs 4 (eF eI s9.2),.fam 1 true (eF eI s9.2),.loop 72 [(1,.ptr 0 0 0),(3,.ptr 1 0 0),(11,.fn (.func 125) [] [.ptr 2 0 0])] [12] (cA Try.f62 [true,true,false,true,true]) (cB Try.f62 [true,true,false,true,true]) .busy none],72⟩,by as_aux_lemma=>kernel_rfl,?_⟩
   refine wp_block (wp_seq ?_)
   refine wp_post ?_
   refine reg_in (sz 3 3 ?_)
   refine lenL (enc:=eI) (l:=p0.Hidden.First) (fl:=true) kr gE ?_
   refine sz 1 5 (reg_end rfl ?_)
   refine ⟨_,wk_refl,?_⟩
   refine wp_block ?_
   refine wwh h (fun s12=>⟨[(1,.ptr 0 0 0),(3,.ptr 1 0 0),(4,vI s9.1),(16,vI (zn p0.Hidden.First)),(17,vI s12.1)],[oX true false 5 (.agg [vI p0.Hidden.Grain,z1 p0.Hidden.First,z2 p0.Hidden.Step,z2 p0.Hidden.Show,z1 p0.seen]),oX false false 1 (.ref 3 0 s12.2.length),oX true false 5 (.agg [vI p0.Hidden.Grain,z1 p0.Hidden.First,z2 p0.Hidden.Step,z2 p0.Hidden.Show,z1 p0.seen]),.refs 4 (eF eI s12.2),.fam 1 true (eF eI s12.2),.loop 72 [(1,.ptr 0 0 0),(3,.ptr 1 0 0),(11,.fn (.func 125) [] [.ptr 2 0 0])] [12] (cA Try.f62 [true,true,false,true,true]) (cB Try.f62 [true,true,false,true,true]) .busy none],72⟩) (fun v out=>out=.go (.exit 2) ⟨[],[oX true false 5 (.agg [vI p0.Hidden.Grain,z1 p0.Hidden.First,z2 p0.Hidden.Step,z2 p0.Hidden.Show,z1 p0.seen]),oX false false 1 (.ref 3 0 v.length),oX true false 5 (.agg [vI p0.Hidden.Grain,z1 p0.Hidden.First,z2 p0.Hidden.Step,z2 p0.Hidden.Show,z1 p0.seen]),.refs 4 (eF eI v),.fam 1 true (eF eI v),.loop 72 [(1,.ptr 0 0 0),(3,.ptr 1 0 0),(11,.fn (.func 125) [] [.ptr 2 0 0])] [12] (cA Try.f62 [true,true,false,true,true]) (cB Try.f62 [true,true,false,true,true]) .busy none],72⟩) (wk_gc (live:=[1,3,4,16,17]) (keep:=[]) kr) ?_ ?_
   ·intro s12 o h
    unfold g_hidden_watcher_backward_b2 at h
    refine sq (wp_seq ?_)
    refine wb [18] h (fun q14 h=>?_) (fun q14 h=>?_)
    ·refine wcT (wp_skip (wp_seq (wp_block (sq (wp_seq (wp_seq ?_))))))
     refine wp_post ?_
     refine reg_in (sz 3 3 ?_)
     refine lenL (enc:=eI) (l:=p0.seen) (fl:=true) kr gE ?_
     refine sz 2 6 (reg_end rfl ?_)
     refine ⟨_,wk_refl,?_⟩
     refine wbz h (fun q16 h=>?_) (fun q16 h=>?_)
     ·refine wp_seq ?_
      refine wgc [1,3,4,16,17,5] [] ⟨(s62_66 s9 p0 s12),[oX true false 5 (.agg [vI p0.Hidden.Grain,z1 p0.Hidden.First,z2 p0.Hidden.Step,z2 p0.Hidden.Show,z1 p0.seen]),oX false false 1 (.ref 3 0 s12.2.length),oX true false 5 (.agg [vI p0.Hidden.Grain,z1 p0.Hidden.First,z2 p0.Hidden.Step,z2 p0.Hidden.Show,z1 p0.seen]),.refs 4 (eF eI s12.2),.fam 1 true (eF eI s12.2),.loop 72 [(1,.ptr 0 0 0),(3,.ptr 1 0 0),(11,.fn (.func 125) [] [.ptr 2 0 0])] [12] (cA Try.f62 [true,true,false,true,true]) (cB Try.f62 [true,true,false,true,true]) .busy none],72⟩ ?_
      refine wp_post ?_
      refine reg_in (sz 2 2 ?_)
      refine bind_elim h (fun a17 q18 h=>?_)
      refine idxF (enc:=eI) (ls:=s12.2) (x:=a17) (n:=s9.1) (ob:=3) (j:=4) kr kr q18 gE ?_
      refine loadF (enc:=eI) (ls:=s12.2) (x:=a17) (n:=s9.1) (ob:=3) (j:=4) kr kr q18 gE ?_
      refine sz 1 5 ?_
      refine bind_elim h (fun a19 q20 h=>?_)
      refine idxI (enc:=eI) (ls:=s12.2) (x:=a17) (y:=a19) (n:=s9.1) (c:=s12.1) (w:=1) (j:=4) (fl:=true) kr kr q18 q20 rfl gE ?_
      refine storeI (enc:=eI) (ls:=s12.2) (x:=a17) (y:=a19) (y':=1) (n:=s9.1) (m:=s12.1) (w:=1) (j:=4) (q:=3) (c:=0) (fl:=true) (v:=vI 1) kr kr kr q18 q20 rfl kr kr kr gE ?_
      refine rknN (n:=s12.2.length) (m:=(List.set s12.2 (zt s9.1) (List.set a17 (zt s12.1) 1)).length) (S:=fun n21=>⟨(s62_66 s9 p0 s12)++[(26,.ref 3 0 n21),(27,vI s9.1),(28,.ptr 3 (zt s9.1) 0),(29,.ref (fid 4 (zt s9.1)) 0 a17.length),(30,vI s12.1),(31,.ptr (fid 4 (zt s9.1)) (zt s12.1) 0)],[oX true false 5 (.agg [vI p0.Hidden.Grain,z1 p0.Hidden.First,z2 p0.Hidden.Step,z2 p0.Hidden.Show,z1 p0.seen]),oX false false 1 (.ref 3 0 n21),oX true false 5 (.agg [vI p0.Hidden.Grain,z1 p0.Hidden.First,z2 p0.Hidden.Step,z2 p0.Hidden.Show,z1 p0.seen]),.refs 4 (eF eI (List.set s12.2 (zt s9.1) (List.set a17 (zt s12.1) 1))),.fam 1 true (eF eI (List.set s12.2 (zt s9.1) (List.set a17 (zt s12.1) 1))),.loop 72 [(1,.ptr 0 0 0),(3,.ptr 1 0 0),(11,.fn (.func 125) [] [.ptr 2 0 0])] [12] (cA Try.f62 [true,true,false,true,true]) (cB Try.f62 [true,true,false,true,true]) .busy none],72⟩) (by simp only [List.length_set]) ?_
      refine reg_end rfl ?_
      refine ⟨_,wk_refl,?_⟩
      refine wg [1,3,4,16,17] [] ?_
      refine wp_exit ?_
      refine rn ?_
      cases h
      exact ⟨_,rfl,(wk_gc (live:=[1,3,4,16,17]) (keep:=[]) kr)⟩
     refine wp_skip (wp_seq ?_)
     refine wgc [1,3,4,16,17,5] [] ⟨(s62_66 s9 p0 s12),[oX true false 5 (.agg [vI p0.Hidden.Grain,z1 p0.Hidden.First,z2 p0.Hidden.Step,z2 p0.Hidden.Show,z1 p0.seen]),oX false false 1 (.ref 3 0 s12.2.length),oX true false 5 (.agg [vI p0.Hidden.Grain,z1 p0.Hidden.First,z2 p0.Hidden.Step,z2 p0.Hidden.Show,z1 p0.seen]),.refs 4 (eF eI s12.2),.fam 1 true (eF eI s12.2),.loop 72 [(1,.ptr 0 0 0),(3,.ptr 1 0 0),(11,.fn (.func 125) [] [.ptr 2 0 0])] [12] (cA Try.f62 [true,true,false,true,true]) (cB Try.f62 [true,true,false,true,true]) .busy none],72⟩ ?_
     refine wp_post ?_
     refine reg_in (sz 3 3 ?_)
     refine bind_elim h (fun a22 q23 h=>?_)
     refine idxF (enc:=eI) (ls:=s12.2) (x:=a22) (n:=zw (s9.1+1)) (ob:=3) (j:=4) kr kr q23 gE ?_
     refine loadF (enc:=eI) (ls:=s12.2) (x:=a22) (n:=zw (s9.1+1)) (ob:=3) (j:=4) kr kr q23 gE ?_
     refine sgz 2 7 (S:=⟨(s62_66 s9 p0 s12)++[(32,.ref 3 0 s12.2.length),(33,vI s9.1),(34,vI (zw (s9.1+1))),(35,.ptr 3 (zt (zw (s9.1+1))) 0),(36,.ref (fid 4 (zt (zw (s9.1+1)))) 0 a22.length),(37,vI (zn a22)),(38,vI 0)],[oX true false 5 (.agg [vI p0.Hidden.Grain,z1 p0.Hidden.First,z2 p0.Hidden.Step,z2 p0.Hidden.Show,z1 p0.seen]),oX false false 1 (.ref 3 0 s12.2.length),oX true false 5 (.agg [vI p0.Hidden.Grain,z1 p0.Hidden.First,z2 p0.Hidden.Step,z2 p0.Hidden.Show,z1 p0.seen]),.refs 4 (eF eI s12.2),.fam 1 true (eF eI s12.2),.loop 72 [(1,.ptr 0 0 0),(3,.ptr 1 0 0),(11,.fn (.func 125) [] [.ptr 2 0 0])] [12] (cA Try.f62 [true,true,false,true,true]) (cB Try.f62 [true,true,false,true,true]) .busy none],72⟩) ?_
     refine reg_end rfl ?_
     refine ⟨⟨(s62_66 s9 p0 s12)++[(32,.ref 3 0 s12.2.length),(33,vI s9.1),(34,vI (zw (s9.1+1))),(35,.ptr 3 (zt (zw (s9.1+1))) 0),(36,.lin 4 (zt (zw (s9.1+1))) a22.length),(37,vI (zn a22)),(38,vI 0)],[oX true false 5 (.agg [vI p0.Hidden.Grain,z1 p0.Hidden.First,z2 p0.Hidden.Step,z2 p0.Hidden.Show,z1 p0.seen]),oX false false 1 (.ref 3 0 s12.2.length),oX true false 5 (.agg [vI p0.Hidden.Grain,z1 p0.Hidden.First,z2 p0.Hidden.Step,z2 p0.Hidden.Show,z1 p0.seen]),.refs 4 (eF eI s12.2),.fam 1 true (eF eI s12.2),.loop 72 [(1,.ptr 0 0 0),(3,.ptr 1 0 0),(11,.fn (.func 125) [] [.ptr 2 0 0])] [12] (cA Try.f62 [true,true,false,true,true]) (cB Try.f62 [true,true,false,true,true]) .busy none],72⟩,(wk_lin 36 (st':=⟨(s62_66 s9 p0 s12)++[(32,.ref 3 0 s12.2.length),(33,vI s9.1),(34,vI (zw (s9.1+1))),(35,.ptr 3 (zt (zw (s9.1+1))) 0),(36,.lin 4 (zt (zw (s9.1+1))) a22.length),(37,vI (zn a22)),(38,vI 0)],[oX true false 5 (.agg [vI p0.Hidden.Grain,z1 p0.Hidden.First,z2 p0.Hidden.Step,z2 p0.Hidden.Show,z1 p0.seen]),oX false false 1 (.ref 3 0 s12.2.length),oX true false 5 (.agg [vI p0.Hidden.Grain,z1 p0.Hidden.First,z2 p0.Hidden.Step,z2 p0.Hidden.Show,z1 p0.seen]),.refs 4 (eF eI s12.2),.fam 1 true (eF eI s12.2),.loop 72 [(1,.ptr 0 0 0),(3,.ptr 1 0 0),(11,.fn (.func 125) [] [.ptr 2 0 0])] [12] (cA Try.f62 [true,true,false,true,true]) (cB Try.f62 [true,true,false,true,true]) .busy none],72⟩) rfl (by kernel_rfl)),?_⟩
     refine wp_block ?_
     refine wwh h (fun s24=>⟨[(1,.ptr 0 0 0),(3,.ptr 1 0 0),(4,vI s9.1),(5,vI s12.1),(16,vI (zn p0.Hidden.First)),(17,vI s12.1),(36,.lin 4 (zt (zw (s9.1+1))) a22.length),(37,vI (zn a22)),(38,vI s24.1)],[oX true false 5 (.agg [vI p0.Hidden.Grain,z1 p0.Hidden.First,z2 p0.Hidden.Step,z2 p0.Hidden.Show,z1 p0.seen]),oX false false 1 (.ref 3 0 s24.2.length),oX true false 5 (.agg [vI p0.Hidden.Grain,z1 p0.Hidden.First,z2 p0.Hidden.Step,z2 p0.Hidden.Show,z1 p0.seen]),.refs 4 (eF eI s24.2),.fam 1 true (eF eI s24.2),.loop 72 [(1,.ptr 0 0 0),(3,.ptr 1 0 0),(11,.fn (.func 125) [] [.ptr 2 0 0])] [12] (cA Try.f62 [true,true,false,true,true]) (cB Try.f62 [true,true,false,true,true]) .busy none],72⟩) (fun v out=>out=.go (.exit 4) ⟨[(1,.ptr 0 0 0),(3,.ptr 1 0 0),(4,vI s9.1),(16,vI (zn p0.Hidden.First)),(17,vI s12.1)],[oX true false 5 (.agg [vI p0.Hidden.Grain,z1 p0.Hidden.First,z2 p0.Hidden.Step,z2 p0.Hidden.Show,z1 p0.seen]),oX false false 1 (.ref 3 0 v.length),oX true false 5 (.agg [vI p0.Hidden.Grain,z1 p0.Hidden.First,z2 p0.Hidden.Step,z2 p0.Hidden.Show,z1 p0.seen]),.refs 4 (eF eI v),.fam 1 true (eF eI v),.loop 72 [(1,.ptr 0 0 0),(3,.ptr 1 0 0),(11,.fn (.func 125) [] [.ptr 2 0 0])] [12] (cA Try.f62 [true,true,false,true,true]) (cB Try.f62 [true,true,false,true,true]) .busy none],72⟩) (wk_gc (live:=[1,3,4,5,16,17,36,37,38]) (keep:=[]) kr) ?_ ?_
     ·intro s24 o h
      unfold g_hidden_watcher_backward_b1 at h
      refine sq (wp_seq ?_)
      refine wbr (S:=fun b25=>⟨[(1,.ptr 0 0 0),(3,.ptr 1 0 0),(4,vI s9.1),(5,vI s12.1),(16,vI (zn p0.Hidden.First)),(17,vI s12.1),(36,.lin 4 (zt (zw (s9.1+1))) a22.length),(37,vI (zn a22)),(38,vI s24.1)]++[(39,vB b25)],[oX true false 5 (.agg [vI p0.Hidden.Grain,z1 p0.Hidden.First,z2 p0.Hidden.Step,z2 p0.Hidden.Show,z1 p0.seen]),oX false false 1 (.ref 3 0 s24.2.length),oX true false 5 (.agg [vI p0.Hidden.Grain,z1 p0.Hidden.First,z2 p0.Hidden.Step,z2 p0.Hidden.Show,z1 p0.seen]),.refs 4 (eF eI s24.2),.fam 1 true (eF eI s24.2),.loop 72 [(1,.ptr 0 0 0),(3,.ptr 1 0 0),(11,.fn (.func 125) [] [.ptr 2 0 0])] [12] (cA Try.f62 [true,true,false,true,true]) (cB Try.f62 [true,true,false,true,true]) .busy none],72⟩) h (fun q26 h=>?_) (fun q26 h=>?_)
      ·refine wcT (wp_skip (wp_seq (wp_block (wp_seq ?_))))
       refine wp_wk (wk_unlin 36 (st':=⟨[(1,.ptr 0 0 0),(3,.ptr 1 0 0),(4,vI s9.1),(5,vI s12.1),(16,vI (zn p0.Hidden.First)),(17,vI s12.1),(36,.ref (fid 4 (zt (zw (s9.1+1)))) 0 a22.length),(37,vI (zn a22)),(38,vI s24.1),(39,vB true)],[oX true false 5 (.agg [vI p0.Hidden.Grain,z1 p0.Hidden.First,z2 p0.Hidden.Step,z2 p0.Hidden.Show,z1 p0.seen]),oX false false 1 (.ref 3 0 s24.2.length),oX true false 5 (.agg [vI p0.Hidden.Grain,z1 p0.Hidden.First,z2 p0.Hidden.Step,z2 p0.Hidden.Show,z1 p0.seen]),.refs 4 (eF eI s24.2),.fam 1 true (eF eI s24.2),.loop 72 [(1,.ptr 0 0 0),(3,.ptr 1 0 0),(11,.fn (.func 125) [] [.ptr 2 0 0])] [12] (cA Try.f62 [true,true,false,true,true]) (cB Try.f62 [true,true,false,true,true]) .busy none],72⟩) rfl kr) ?_
       refine wp_post ?_
       refine reg_in (sz 1 1 ?_)
       refine bind_elim h (fun a27 q28 h=>?_)
       refine bind_elim h (fun a29 q30 h=>?_)
       refine idxI2 (enc:=eI) (ls:=s24.2) (x:=a27) (y:=a29) (n:=zw (s9.1+1)) (c:=s24.1) (w:=1) (j:=4) (m:=a22.length) (fl:=true) kr kr q28 q30 rfl gE h (fun h=>?_)
       refine loadI (enc:=eI) (ls:=s24.2) (x:=a27) (y:=a29) (n:=zw (s9.1+1)) (m:=s24.1) (w:=1) (j:=4) (c:=0) (fl:=true) kr kr q28 q30 rfl gE ?_
       refine sgz 2 5 (S:=⟨[(1,.ptr 0 0 0),(3,.ptr 1 0 0),(4,vI s9.1),(5,vI s12.1),(16,vI (zn p0.Hidden.First)),(17,vI s12.1),(36,.ref (fid 4 (zt (zw (s9.1+1)))) 0 a22.length),(37,vI (zn a22)),(38,vI s24.1),(39,vB true)]++[(40,vI s24.1),(41,.ptr (fid 4 (zt (zw (s9.1+1)))) (zt s24.1) 0),(42,vI a29),(6,vI s24.1),(7,vI a29)],[oX true false 5 (.agg [vI p0.Hidden.Grain,z1 p0.Hidden.First,z2 p0.Hidden.Step,z2 p0.Hidden.Show,z1 p0.seen]),oX false false 1 (.ref 3 0 s24.2.length),oX true false 5 (.agg [vI p0.Hidden.Grain,z1 p0.Hidden.First,z2 p0.Hidden.Step,z2 p0.Hidden.Show,z1 p0.seen]),.refs 4 (eF eI s24.2),.fam 1 true (eF eI s24.2),.loop 72 [(1,.ptr 0 0 0),(3,.ptr 1 0 0),(11,.fn (.func 125) [] [.ptr 2 0 0])] [12] (cA Try.f62 [true,true,false,true,true]) (cB Try.f62 [true,true,false,true,true]) .busy none],72⟩) ?_
       refine reg_end rfl ?_
       refine ⟨⟨[(1,.ptr 0 0 0),(3,.ptr 1 0 0),(4,vI s9.1),(5,vI s12.1),(16,vI (zn p0.Hidden.First)),(17,vI s12.1),(36,.lin 4 (zt (zw (s9.1+1))) a22.length),(37,vI (zn a22)),(38,vI s24.1)]++[(39,vB true),(40,vI s24.1),(41,.ptr (fid 4 (zt (zw (s9.1+1)))) (zt s24.1) 0),(42,vI a29),(6,vI s24.1),(7,vI a29)],[oX true false 5 (.agg [vI p0.Hidden.Grain,z1 p0.Hidden.First,z2 p0.Hidden.Step,z2 p0.Hidden.Show,z1 p0.seen]),oX false false 1 (.ref 3 0 s24.2.length),oX true false 5 (.agg [vI p0.Hidden.Grain,z1 p0.Hidden.First,z2 p0.Hidden.Step,z2 p0.Hidden.Show,z1 p0.seen]),.refs 4 (eF eI s24.2),.fam 1 true (eF eI s24.2),.loop 72 [(1,.ptr 0 0 0),(3,.ptr 1 0 0),(11,.fn (.func 125) [] [.ptr 2 0 0])] [12] (cA Try.f62 [true,true,false,true,true]) (cB Try.f62 [true,true,false,true,true]) .busy none],72⟩,(wk_lin 36 (st':=⟨[(1,.ptr 0 0 0),(3,.ptr 1 0 0),(4,vI s9.1),(5,vI s12.1),(16,vI (zn p0.Hidden.First)),(17,vI s12.1),(36,.lin 4 (zt (zw (s9.1+1))) a22.length),(37,vI (zn a22)),(38,vI s24.1)]++[(39,vB true),(40,vI s24.1),(41,.ptr (fid 4 (zt (zw (s9.1+1)))) (zt s24.1) 0),(42,vI a29),(6,vI s24.1),(7,vI a29)],[oX true false 5 (.agg [vI p0.Hidden.Grain,z1 p0.Hidden.First,z2 p0.Hidden.Step,z2 p0.Hidden.Show,z1 p0.seen]),oX false false 1 (.ref 3 0 s24.2.length),oX true false 5 (.agg [vI p0.Hidden.Grain,z1 p0.Hidden.First,z2 p0.Hidden.Step,z2 p0.Hidden.Show,z1 p0.seen]),.refs 4 (eF eI s24.2),.fam 1 true (eF eI s24.2),.loop 72 [(1,.ptr 0 0 0),(3,.ptr 1 0 0),(11,.fn (.func 125) [] [.ptr 2 0 0])] [12] (cA Try.f62 [true,true,false,true,true]) (cB Try.f62 [true,true,false,true,true]) .busy none],72⟩) rfl (by kernel_rfl)),?_⟩
       refine wp_post ?_
       refine rga hfol (sy 2 2 ?_)
       refine bind_elim h (fun a31 q32 h=>?_)
       refine idxF (enc:=eI) (ls:=s24.2) (x:=a31) (n:=s9.1) (ob:=3) (j:=4) kr kr q32 gE ?_
       refine loadF (enc:=eI) (ls:=s24.2) (x:=a31) (n:=s9.1) (ob:=3) (j:=4) kr kr q32 gE ?_
       refine sy 1 5 ?_
       refine bind_elim h (fun a33 q34 h=>?_)
       refine idxI (enc:=eI) (ls:=s24.2) (x:=a31) (y:=a33) (n:=s9.1) (c:=s12.1) (w:=1) (j:=4) (fl:=true) kr kr q32 q34 rfl gE ?_
       refine loadI (enc:=eI) (ls:=s24.2) (x:=a31) (y:=a33) (n:=s9.1) (m:=s12.1) (w:=1) (j:=4) (c:=0) (fl:=true) kr kr q32 q34 rfl gE ?_
       refine sy 4 11 ?_
       refine bind_elim h (fun a35 q36 h=>?_)
       refine idxL' (enc:=z1) (l:=p0.Hidden.Step) (n:=s12.1) (fl:=false) (w:=1) (a:=a35) kr rfl gE q36 ?_
       refine sy 2 14 ?_
       refine bind_elim h (fun a37 q38 h=>?_)
       refine idxL' (enc:=eI) (l:=a35) (n:=s24.1) (fl:=true) (w:=1) (a:=a37) kr rfl gE q38 ?_
       refine sy 5 20 ?_
       refine callW bodyB_93 (g_hidden_watcher_shown_ok p0 (zw (s9.1+1)) s24.1) h (fun x39 _ h=>?_)
       refine sy 4 25 ?_
       refine idxI (enc:=eI) (ls:=s24.2) (x:=a31) (y:=a33) (n:=s9.1) (c:=s12.1) (w:=1) (j:=4) (fl:=true) kr kr q32 q34 rfl gE ?_
       refine storeI (enc:=eI) (ls:=s24.2) (x:=a31) (y:=a33) (y':=zw (a33+(zw ((zw (a37*x39))*a29)))) (n:=s9.1) (m:=s12.1) (w:=1) (j:=4) (q:=3) (c:=0) (fl:=true) (v:=vI (zw (a33+(zw ((zw (a37*x39))*a29))))) kr kr kr q32 q34 rfl kr kr kr gE ?_
       refine rknN (n:=s24.2.length) (m:=(List.set s24.2 (zt s9.1) (List.set a31 (zt s12.1) (zw (a33+(zw ((zw (a37*x39))*a29)))))).length) (S:=fun n41=>⟨[(1,.ptr 0 0 0),(3,.ptr 1 0 0),(4,vI s9.1),(5,vI s12.1),(16,vI (zn p0.Hidden.First)),(17,vI s12.1),(36,.lin 4 (zt (zw (s9.1+1))) a22.length),(37,vI (zn a22)),(38,vI s24.1)]++[(39,vB true),(40,vI s24.1),(41,.ptr (fid 4 (zt (zw (s9.1+1)))) (zt s24.1) 0),(42,vI a29),(6,vI s24.1),(7,vI a29),(43,.ref 3 0 n41),(44,vI s9.1),(45,.ptr 3 (zt s9.1) 0),(46,.ref (fid 4 (zt s9.1)) 0 a31.length),(47,vI s12.1),(48,.ptr (fid 4 (zt s9.1)) (zt s12.1) 0),(49,vI a33),(50,.ptr 0 0 0),(51,.ptr 0 0 2),(52,z2 p0.Hidden.Step),(53,vI s12.1),(54,.fz [z1 a35]),(55,z1 a35),(56,vI s24.1),(57,.fz [vI a37]),(58,vI a37),(59,.agg [vI p0.Hidden.Grain,z1 p0.Hidden.First,z2 p0.Hidden.Step,z2 p0.Hidden.Show,z1 p0.seen]),(60,vI s9.1),(61,vI (zw (s9.1+1))),(62,vI s24.1),(63,vI x39),(64,vI (zw (a37*x39))),(65,vI a29),(66,vI (zw ((zw (a37*x39))*a29))),(67,vI (zw (a33+(zw ((zw (a37*x39))*a29))))),(68,.ptr (fid 4 (zt s9.1)) (zt s12.1) 0)],[oX true false 5 (.agg [vI p0.Hidden.Grain,z1 p0.Hidden.First,z2 p0.Hidden.Step,z2 p0.Hidden.Show,z1 p0.seen]),oX false false 1 (.ref 3 0 n41),oX true false 5 (.agg [vI p0.Hidden.Grain,z1 p0.Hidden.First,z2 p0.Hidden.Step,z2 p0.Hidden.Show,z1 p0.seen]),.refs 4 (eF eI (List.set s24.2 (zt s9.1) (List.set a31 (zt s12.1) (zw (a33+(zw ((zw (a37*x39))*a29))))))),.fam 1 true (eF eI (List.set s24.2 (zt s9.1) (List.set a31 (zt s12.1) (zw (a33+(zw ((zw (a37*x39))*a29))))))),.loop 72 [(1,.ptr 0 0 0),(3,.ptr 1 0 0),(11,.fn (.func 125) [] [.ptr 2 0 0])] [12] (cA Try.f62 [true,true,false,true,true]) (cB Try.f62 [true,true,false,true,true]) .busy none],72⟩) (by simp only [List.length_set]) ?_
       refine rgd ?_
       refine ⟨_,wk_refl,?_⟩
       refine wg [1,3,4,5,16,17,36,37,38] [] (rn ?_)
       cases h
       exact ⟨_,rfl,(wk_gc (live:=[1,3,4,5,16,17,36,37,38]) (keep:=[]) kr)⟩
      refine wcF (wg [1,3,4,16,17] [] ?_)
      refine wp_exit ?_
      cases h
      exact ⟨kr,rfl⟩
     intro x43 h out hx
     subst hx
     refine rn ?_
     cases h
     exact ⟨_,rfl,(wk_gc (live:=[1,3,4,16,17]) (keep:=[]) kr)⟩
    refine wcF (wg [] [] ?_)
    refine wp_exit ?_
    cases h
    exact ⟨kr,rfl⟩
   intro x45 h out hx
   subst hx
   refine ⟨⟨[(0,.yld 5),(3,vI s9.1),(8,vI s9.1),(9,vB true),(12,.yld 5),(13,vI s9.1),(14,vB true)],[oX true false 5 (.agg [vI p0.Hidden.Grain,z1 p0.Hidden.First,z2 p0.Hidden.Step,z2 p0.Hidden.Show,z1 p0.seen]),oX false false 1 (.ref 3 0 x45.length),oX true false 5 (.agg [vI p0.Hidden.Grain,z1 p0.Hidden.First,z2 p0.Hidden.Step,z2 p0.Hidden.Show,z1 p0.seen]),.refs 4 (eF eI x45),.fam 1 true (eF eI x45),.loop 72 [(1,.ptr 0 0 0),(3,.ptr 1 0 0),(11,.fn (.func 125) [] [.ptr 2 0 0])] [12] (cA Try.f62 [true,true,false,true,true]) (cB Try.f62 [true,true,false,true,true]) .ready none],16⟩,by as_aux_lemma=>kernel_rfl,?_⟩
   refine sz 1 4 (reg_end rfl ?_)
   refine ⟨_,wk_refl,?_⟩
   refine wcF (wp_skip (wg [0,3] [] (rn ?_)))
   cases h
   exact ⟨_,rfl,(wk_gc (live:=[0,3]) (keep:=[]) kr)⟩
  refine wcF (wg [] [] ?_)
  refine wp_exit ?_
  cases h
  exact ⟨kr,rfl⟩
 intro x47 h out hx
 subst hx
 refine ⟨.go .normal ⟨[(1,.ptr 0 0 0),(3,.ptr 1 0 0),(11,.fn (.func 125) [] [.ptr 2 0 0])],[oX true false 5 (.agg [vI p0.Hidden.Grain,z1 p0.Hidden.First,z2 p0.Hidden.Step,z2 p0.Hidden.Show,z1 p0.seen]),oX false false 1 (.ref 3 0 x47.length),oX true false 5 (.agg [vI p0.Hidden.Grain,z1 p0.Hidden.First,z2 p0.Hidden.Step,z2 p0.Hidden.Show,z1 p0.seen]),.refs 4 (eF eI x47),.fam 1 true (eF eI x47),.dead],72⟩,by as_aux_lemma=>kernel_rfl,?_⟩
 refine wp_seq ?_
 refine wp_post ?_
 refine rn ?_
 refine ⟨_,wk_refl,?_⟩
 refine wgc [2] [3,4] ⟨[(2,.ref 0 0 x47.length)],[.refs 1 (eF eI x47),.fam 1 true (eF eI x47)],72⟩ ?_
 refine wp_wk (wk_frzF 0 1 (enc:=eI) (ls:=x47) (st':=⟨[(2,.ref 0 0 x47.length)],[oR false 1 z1 x47,.dead],72⟩) rfl rfl kr) ?_
 cases h
 exact wp_ret (show fnOut _ _ _ _=_ from by kernel_rfl)
theorem g_hidden_Backward_ok (p0:Tapi_Hidden) (p1:(List Int)) (x:((List (List Int)) × Int)) (h:g_hidden_Backward p0 p1=some x):CallOk Try.prog 17 [.agg [vI p0.Grain,z1 p0.First,z2 p0.Step,z2 p0.Show],z1 p1] (.ret (.tup [.ref 0 0 x.1.length,vI x.2]) [oR false 1 z1 x.1]):=by
 refine fn_ok [] Try.func17 rfl (by decide +kernel) rfl ?_
 unfold g_hidden_Backward at h
 refine wp_eqB (base':=0) (st':=⟨[(0,.agg [vI p0.Grain,z1 p0.First,z2 p0.Step,z2 p0.Show]),(1,z1 p1)],[],19⟩) kr kr ?_
 refine wp_seq (reg_in ?_)
 refine sgL false [] [] false gE ?_
 refine sz 2 3 (reg_end rfl (wp_seq (reg_in (sz 2 2 ?_))))
 refine callW bodyB_60 (g_hidden_newWatcher_ok p0 p1) h (fun x1 _ h=>?_)
 refine sz 3 6 ?_
 refine sgL false [] [] false gE ?_
 refine sz 2 9 (reg_end rfl (wp_seq (wp_seq ?_)))
 refine wgc [6,7] [1] ⟨[(6,.ptr 0 0 0),(7,vI x1.2)],[oX true false 5 (.agg [vI x1.1.Hidden.Grain,z1 x1.1.Hidden.First,z2 x1.1.Hidden.Step,z2 x1.1.Hidden.Show,z1 x1.1.seen])],19⟩ ?_
 refine rn ?_
 refine wb [15] h (fun q4 h=>?_) (fun q4 h=>?_)
 ·refine wcT (sq (wg [4,5] [] ?_))
  refine wp_wk (wk_nil 4 1 true false gE) ?_
  cases h
  exact wp_ret (show fnOut _ _ _ _=_ from by kernel_rfl)
 refine wcF (wp_skip (wp_seq (reg_in (sz 1 1 ?_))))
 refine callW bodyB_62 (g_hidden_watcher_backward_ok x1.1) h (fun x5 _ h=>?_)
 refine sz 2 4 (reg_end rfl (wg [4,5] [1] ?_))
 cases h
 exact wp_ret (show fnOut _ _ _ _=_ from by kernel_rfl)
theorem g_ref02_Same_ok (p0:(List Int)) (p1:(List Int)) (x:Bool) (h:g_ref02_Same p0 p1=some x):CallOk Try.prog 64 [z1 p0,z1 p1] (.ret (vB x) []):=by
 refine fn_ok [] Try.func64 rfl (by decide +kernel) rfl ?_
 unfold g_ref02_Same at h
 refine wp_eqB (base':=0) (st':=⟨[(0,z1 p0),(1,z1 p1)],[],26⟩) kr kr ?_
 refine sq (wp_seq (wp_seq (reg_in (sz 1 1 ?_))))
 refine lenL (enc:=eI) (l:=p0) (fl:=true) kr gE ?_
 refine sz 1 3 ?_
 refine lenL (enc:=eI) (l:=p1) (fl:=true) kr gE ?_
 refine sz 1 5 (reg_end rfl ?_)
 refine wbz h (fun q2 h=>?_) (fun q2 h=>?_)
 ·refine wp_seq (wg [] [] (rn ?_))
  refine wgc [4] [] ⟨[(4,vB false)],[],26⟩ ?_
  cases h
  exact wp_ret (show fnOut _ _ _ _=_ from by kernel_rfl)
 refine wp_skip (wp_seq (wp_seq (wg [0,1] [] (rn (wp_block ?_)))))
 refine wwh h (fun s3=>⟨[(0,z1 p0),(1,z1 p1),(5,vI s3)],[],26⟩) (fun x out=>out=match x with | .inl v=>.go (.ret) ⟨[(4,vB false)],[],26⟩ | .inr v=>.go (.exit 0) ⟨[],[],26⟩) (wk_gc (live:=[0,1,5]) (keep:=[]) kr) ?_ ?_
 ·intro s3 o h
  unfold g_ref02_Same_b0 at h
  refine wp_seq (wp_seq (reg_in (sz 2 2 ?_)))
  refine lenL (enc:=eI) (l:=p0) (fl:=true) kr gE ?_
  refine sz 1 4 (reg_end rfl ?_)
  refine wb [14] h (fun q5 h=>?_) (fun q5 h=>?_)
  ·refine wcT (wp_skip (wp_seq (wp_block (wp_seq (rga hfol (sy 2 2 ?_))))))
   refine bind_elim h (fun a6 q7 h=>?_)
   refine idxL' (enc:=eI) (l:=p0) (n:=s3) (fl:=true) (w:=1) (a:=a6) kr rfl gE q7 ?_
   refine sy 3 6 ?_
   refine bind_elim h (fun a8 q9 h=>?_)
   refine idxL' (enc:=eI) (l:=p1) (n:=s3) (fl:=true) (w:=1) (a:=a8) kr rfl gE q9 ?_
   refine sy 2 9 (rgd ?_)
   refine wbz h (fun q11 h=>?_) (fun q11 h=>?_)
   ·refine wp_seq ?_
    refine wgc [] [] ⟨[],[],26⟩ ?_
    refine rn (wg [4] [] ?_)
    refine wp_ret ?_
    cases h
    exact ⟨kr,rfl⟩
   refine wp_skip ?_
   refine wgc [0,1,5] [] ⟨[(0,z1 p0),(1,z1 p1),(5,vI s3)],[],26⟩ ?_
   refine rn ?_
   cases h
   exact ⟨_,rfl,(wk_gc (live:=[0,1,5]) (keep:=[]) kr)⟩
  refine wcF (wg [] [] ?_)
  refine wp_exit ?_
  cases h
  exact ⟨kr,rfl⟩
 intro x12 h out hx
 subst hx
 rcases x12 with x13 | x14
 ·dsimp only at h ⊢
  cases h
  show fnOut _ _ _ _=_
  kernel_rfl
 ·dsimp only at h ⊢
  refine sq (wg [4] [] ?_)
  cases h
  exact wp_ret (show fnOut _ _ _ _=_ from by kernel_rfl)
theorem g_ref17_SameTable_ok (p0:(List (List Int))) (p1:(List (List Int))) (x:Bool) (h:g_ref17_SameTable p0 p1=some x):CallOk Try.prog 19 [z2 p0,z2 p1] (.ret (vB x) []):=by
 refine fn_ok [] Try.func19 rfl (by decide +kernel) rfl ?_
 unfold g_ref17_SameTable at h
 refine wp_eqB (base':=0) (st':=⟨[(0,z2 p0),(1,z2 p1)],[],27⟩) kr kr ?_
 refine sq (wp_seq (wp_seq (reg_in (sz 1 1 ?_))))
 refine lenL (enc:=z1) (l:=p0) (fl:=false) kr gE ?_
 refine sz 1 3 ?_
 refine lenL (enc:=z1) (l:=p1) (fl:=false) kr gE ?_
 refine sz 1 5 (reg_end rfl ?_)
 refine wbz h (fun q2 h=>?_) (fun q2 h=>?_)
 ·refine wp_seq (wg [] [] (rn ?_))
  refine wgc [4] [] ⟨[(4,vB false)],[],27⟩ ?_
  cases h
  exact wp_ret (show fnOut _ _ _ _=_ from by kernel_rfl)
 refine wp_skip (wp_seq (wp_seq (wg [0,1] [] (rn (wp_block ?_)))))
 refine wwh h (fun s3=>⟨[(0,z2 p0),(1,z2 p1),(5,vI s3)],[],27⟩) (fun x out=>out=match x with | .inl v=>.go (.ret) ⟨[(4,vB false)],[],27⟩ | .inr v=>.go (.exit 0) ⟨[],[],27⟩) (wk_gc (live:=[0,1,5]) (keep:=[]) kr) ?_ ?_
 ·intro s3 o h
  unfold g_ref17_SameTable_b0 at h
  refine wp_seq (wp_seq (reg_in (sz 2 2 ?_)))
  refine lenL (enc:=z1) (l:=p0) (fl:=false) kr gE ?_
  refine sz 1 4 (reg_end rfl ?_)
  refine wb [14] h (fun q5 h=>?_) (fun q5 h=>?_)
  ·refine wcT (wp_skip (wp_seq (wp_block (wp_seq (rga hfol (sy 2 2 ?_))))))
   refine bind_elim h (fun a6 q7 h=>?_)
   refine idxL' (enc:=z1) (l:=p0) (n:=s3) (fl:=false) (w:=1) (a:=a6) kr rfl gE q7 ?_
   refine sy 3 6 ?_
   refine bind_elim h (fun a8 q9 h=>?_)
   refine idxL' (enc:=z1) (l:=p1) (n:=s3) (fl:=false) (w:=1) (a:=a8) kr rfl gE q9 ?_
   refine sy 1 8 ?_
   refine callW bodyB_64 (g_ref02_Same_ok a6 a8) h (fun x10 _ h=>?_)
   refine sy 1 10 (rgd ?_)
   refine wbz h (fun q13 h=>?_) (fun q13 h=>?_)
   ·refine wp_seq ?_
    refine wgc [] [] ⟨[],[],27⟩ ?_
    refine rn (wg [4] [] ?_)
    refine wp_ret ?_
    cases h
    exact ⟨kr,rfl⟩
   refine wp_skip ?_
   refine wgc [0,1,5] [] ⟨[(0,z2 p0),(1,z2 p1),(5,vI s3)],[],27⟩ ?_
   refine rn ?_
   cases h
   exact ⟨_,rfl,(wk_gc (live:=[0,1,5]) (keep:=[]) kr)⟩
  refine wcF (wg [] [] ?_)
  refine wp_exit ?_
  cases h
  exact ⟨kr,rfl⟩
 intro x14 h out hx
 subst hx
 rcases x14 with x15 | x16
 ·dsimp only at h ⊢
  cases h
  show fnOut _ _ _ _=_
  kernel_rfl
 ·dsimp only at h ⊢
  refine sq (wg [4] [] ?_)
  cases h
  exact wp_ret (show fnOut _ _ _ _=_ from by kernel_rfl)
end Go.Ab
