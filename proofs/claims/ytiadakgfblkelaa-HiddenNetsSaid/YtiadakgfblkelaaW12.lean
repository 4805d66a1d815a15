/- What functions compute. No conditions. -/
import Derived.Test.YtiadakgfblkelaaProg
import Derived.Test.YtiadakgfblkelaaW9
import Derived.KernelRfl
import Derived.Test.YtiadakgfblkelaaW11
import Derived.Test.YtiadakgfblkelaaW10
set_option linter.all false
namespace Go.Ab
open Go Go.Proofs
set_option maxRecDepth 100000
set_option maxHeartbeats 4000000
noncomputable abbrev s55_9 (p1:Tapi_Hidden) (s1:(Int × (List (List Int)))) (a4:(List Int)):List (Nat × AV):=[(0,z2 p1.Step),(3,.ref 7 0 ((s1.2++[a4]).length)),(4,vI s1.1),(6,vI s1.1),(7,z2 p1.Step),(8,vI (zn p1.Step)),(9,vB true),(5,.nils),(12,.ref 3 0 s1.2.length),(13,.nils),(14,z2 p1.Step),(15,vI s1.1),(16,.fz [z1 a4]),(17,z1 a4),(18,.ref 5 0 a4.length),(19,.ref 6 0 1),(20,.ref 7 0 ((s1.2++[a4]).length))]
noncomputable abbrev s55_11 (p1:Tapi_Hidden) (s1:(Int × (List (List Int)))) (a4:(List Int)):List (Nat × AV):=[(0,z2 p1.Step),(3,.ref 7 0 ((s1.2++[a4]).length)),(4,vI s1.1),(6,vI s1.1),(7,z2 p1.Step),(8,vI (zn p1.Step)),(9,vB true),(5,.nils),(12,.ref 3 0 s1.2.length),(13,.nils),(14,z2 p1.Step),(15,vI s1.1),(16,.fz [z1 a4]),(17,z1 a4),(19,.ref 6 0 1),(20,.ref 7 0 ((s1.2++[a4]).length))]
noncomputable abbrev s55_26 (p1:Tapi_Hidden) (s8:(Int × (List (List Int)))) (a11:(List Int)):List (Nat × AV):=[(0,z2 p1.Show),(3,.ref 9 0 ((s8.2++[a11]).length)),(4,vI s8.1),(6,vI s8.1),(7,z2 p1.Show),(8,vI (zn p1.Show)),(9,vB true),(5,.nils),(12,.ref 5 0 s8.2.length),(13,.nils),(14,z2 p1.Show),(15,vI s8.1),(16,.fz [z1 a11]),(17,z1 a11),(18,.ref 7 0 a11.length),(19,.ref 8 0 1),(20,.ref 9 0 ((s8.2++[a11]).length))]
noncomputable abbrev s55_28 (p1:Tapi_Hidden) (s8:(Int × (List (List Int)))) (a11:(List Int)):List (Nat × AV):=[(0,z2 p1.Show),(3,.ref 9 0 ((s8.2++[a11]).length)),(4,vI s8.1),(6,vI s8.1),(7,z2 p1.Show),(8,vI (zn p1.Show)),(9,vB true),(5,.nils),(12,.ref 5 0 s8.2.length),(13,.nils),(14,z2 p1.Show),(15,vI s8.1),(16,.fz [z1 a11]),(17,z1 a11),(19,.ref 8 0 1),(20,.ref 9 0 ((s8.2++[a11]).length))]
noncomputable abbrev s55_96 (p1:Tapi_Hidden) (x7:(List (List Int))) (x14:(List (List Int))):List AObj:=[oX false false 4 (.agg [vI p1.Grain,.ref 2 0 p1.First.length,.ref 3 0 x7.length,.ref 4 0 x14.length]),oX true false 4 (.agg [vI 0,.nils,.nils,.nils]),oR true 1 eI p1.First,.refs 5 (eF eI x7),.refs 6 (eF eI x14),.fam 1 true (eF eI x7),.fam 1 true (eF eI x14)]
theorem g_ref17_Bend_Of_ok (p0:Tharuspexref17_Bend) (p1:Tapi_Hidden) (x:Tapi_Hidden) (h:g_ref17_Bend_Of p0 p1=some x):CallOk Try.prog 55 [.agg [.int .u8 p0.What,.int .u8 p0.S,.int .u8 p0.At,vI p0.N],.agg [vI p1.Grain,z1 p1.First,z2 p1.Step,z2 p1.Show]] (.ret (.agg [vI x.Grain,z1 x.First,z2 x.Step,z2 x.Show]) []):=by
 refine fn_ok [[.keep,.lst true,.lst false,.lst false]] Try.func55 rfl (by decide +kernel) rfl ?_
 unfold g_ref17_Bend_Of at h
 refine wp_eqB (base':=0) (st':=⟨[(0,.agg [.int .u8 p0.What,.int .u8 p0.S,.int .u8 p0.At,vI p0.N]),(1,.agg [vI p1.Grain,z1 p1.First,z2 p1.Step,z2 p1.Show])],[],123⟩) kr kr ?_
 refine wp_seq (reg_in (sz 1 1 ?_))
 refine sgL false [] [] false gE ?_
 refine sgL false [] [] false gE ?_
 refine reg_end rfl (wp_seq ?_)
 refine wp_post ?_
 refine rga hfol (sy 2 2 ?_)
 refine inlN (f:=90) (fn:=Try.f90) (as0:=[z2 p1.Step]) kr kr Try.func90 rfl (by decide +kernel) rfl ?_
 refine wp_eqB (base':=3) (st':=⟨[(0,z2 p1.Step)],[.dead,.dead,.dead],22⟩) kr kr ?_
 refine sq (sq (wp_seq ?_))
 refine sqN (S:=⟨[(0,z2 p1.Step),(2,.nils),(3,.nils),(4,vI 0)],[.dead,.dead,.dead],22⟩) ?_
 refine wp_block ?_
 refine wwh h (fun s1=>⟨[(0,z2 p1.Step),(3,.ref 3 0 s1.2.length),(4,vI s1.1)],[.dead,.dead,.dead,.refs 4 (eF eI s1.2),.fam 1 true (eF eI s1.2)],22⟩) (fun v out=>out=.go (.exit 0) ⟨[(3,.ref 3 0 v.length)],[.dead,.dead,.dead,.refs 4 (eF eI v),.fam 1 true (eF eI v)],22⟩) (wk_trans (wk_gc (live:=[0,3,4]) (keep:=[]) (st':=⟨[(0,z2 p1.Step),(3,.nils),(4,vI 0)],[.dead,.dead,.dead],22⟩) kr) (wk_trans (wk_nil 3 1 true true (st':=⟨[(0,z2 p1.Step),(3,.ref 3 0 0),(4,vI 0)],[.dead,.dead,.dead,.row false false true true 1 []],22⟩) kr) (wk_trans (wk_fam 3 1 true (x0:=([]:List Int)) (n:=0) (enc1:=fun _=>AV.nils) eI rfl rfl rfl (st':=⟨[(0,z2 p1.Step),(3,.ref 3 0 (([]:List (List Int)).length)),(4,vI 0)],[.dead,.dead,.dead,.refs 4 (eF eI ([]:List (List Int))),.fam 1 true (eF eI ([]:List (List Int)))],22⟩) kr) (wk_gc (live:=[0,3,4]) (keep:=[3,4]) kr)))) ?_ ?_
 ·intro s1 o h
  unfold g_ref17_Bend_Of_b0 at h
  refine wp_seq (wp_seq (reg_in (sz 2 2 ?_)))
  refine lenL (enc:=z1) (l:=p1.Step) (fl:=false) kr gE ?_
  refine sz 1 4 (reg_end rfl ?_)
  refine wb [9] h (fun q3 h=>?_) (fun q3 h=>?_)
  ·refine wcT (wp_skip (wp_seq (wp_block (sq ?_))))
   refine wp_post ?_
   refine reg_in (sz 4 4 ?_)
   refine bind_elim h (fun a4 q5 h=>?_)
   refine idxL' (enc:=z1) (l:=p1.Step) (n:=s1.1) (fl:=false) (w:=1) (a:=a4) kr rfl gE q5 ?_
   refine sz 1 6 ?_
   refine appN (enc:=eI) (m:=a4) (w:=1) (bytes:=8) (nr':=true) (fl':=true) (a:=.nils) (b:=z1 a4) (rds:=[]) (S:=⟨[(0,z2 p1.Step),(3,.ref 3 0 s1.2.length),(4,vI s1.1),(6,vI s1.1),(7,z2 p1.Step),(8,vI (zn p1.Step)),(9,vB true),(5,.nils),(12,.ref 3 0 s1.2.length),(13,.nils),(14,z2 p1.Step),(15,vI s1.1)]++[(16,.fz [z1 a4]),(17,z1 a4),(18,.ref 5 0 a4.length)],[.dead,.dead,.dead,.refs 4 (eF eI s1.2),.fam 1 true (eF eI s1.2),oR true 1 eI a4],22⟩) false kr (.inl rfl) (elems_lst (fun _=>rfl)) rfl kr kr h (fun h=>?_)
   refine sgN true 1 8 gE rfl ?_
   refine appF (enc:=eI) (ls:=s1.2) (q:=a4) (bytes:=24) (ob:=3) (j:=4) (tm:=6) (m:=5) kr kr rfl kr gE kr h (fun h=>?_)
   refine sgz 1 10 (S:=⟨(s55_9 p1 s1 a4),[.dead,.dead,.dead,.dead,.fam 1 true (eF eI s1.2),oR true 1 eI a4,.row false false false false 1 [.ref 5 0 a4.length],.row false false false false 1 (famRefs 4 0 (eF eI s1.2)++[.ref 5 0 a4.length])],22⟩) ?_
   refine reg_end rfl ?_
   refine ⟨⟨(s55_11 p1 s1 a4),[.dead,.dead,.dead,.dead,.fam 1 true (eF eI (s1.2++[a4])),.dead,.dead,.refs 4 (eF eI (s1.2++[a4]))],22⟩,(wk_trans (wk_dead 6 (st':=⟨(s55_9 p1 s1 a4),[.dead,.dead,.dead,.dead,.fam 1 true (eF eI s1.2),oR true 1 eI a4,.dead,.row false false false false 1 (famRefs 4 0 (eF eI s1.2)++[.ref 5 0 a4.length])],22⟩) (by kernel_rfl)) (wk_adoptA 7 4 5 (enc:=eI) (ls:=s1.2) (b:=a4) [0,3,4,6,7,8,9,5,12,13,14,15,16,17,19,20] (st':=⟨(s55_11 p1 s1 a4),[.dead,.dead,.dead,.dead,.fam 1 true (eF eI (s1.2++[a4])),.dead,.dead,.refs 4 (eF eI (s1.2++[a4]))],22⟩) rfl rfl rfl (by kernel_rfl) (by kernel_rfl))),?_⟩
   refine wg [0,3,4] [7,4] (rn ?_)
   cases h
   exact ⟨_,rfl,(wk_gc (live:=[0,3,4]) (keep:=[3,4]) kr)⟩
  refine wcF (wg [3] [3,4] ?_)
  refine wp_exit ?_
  cases h
  exact ⟨kr,rfl⟩
 intro x7 h out hx
 subst hx
 refine sq (wg [2] [3,4] ?_)
 refine wp_ret ?_
 refine ⟨⟨[(0,.agg [.int .u8 p0.What,.int .u8 p0.S,.int .u8 p0.At,vI p0.N]),(1,.agg [vI p1.Grain,z1 p1.First,z2 p1.Step,z2 p1.Show])]++[(2,.ptr 0 0 0),(3,.ptr 1 0 0),(4,.ptr 2 0 0),(10,.ptr 1 0 2),(11,z2 p1.Step),(12,.ref 3 0 x7.length)],[oX true true 4 (.agg [.int .u8 p0.What,.int .u8 p0.S,.int .u8 p0.At,vI p0.N]),oX true false 4 (.agg [vI p1.Grain,z1 p1.First,z2 p1.Step,z2 p1.Show]),oX true false 4 (.agg [vI 0,.nils,.nils,.nils]),.refs 4 (eF eI x7),.fam 1 true (eF eI x7)],123⟩,by as_aux_lemma=>kernel_rfl,?_⟩
 refine sy 2 5 ?_
 refine inlN (f:=90) (fn:=Try.f90) (as0:=[z2 p1.Show]) kr kr Try.func90 rfl (by decide +kernel) rfl ?_
 refine wp_eqB (base':=5) (st':=⟨[(0,z2 p1.Show)],[.dead,.dead,.dead,.dead,.dead],22⟩) kr kr ?_
 refine sq (sq (wp_seq ?_))
 refine sqN (S:=⟨[(0,z2 p1.Show),(2,.nils),(3,.nils),(4,vI 0)],[.dead,.dead,.dead,.dead,.dead],22⟩) ?_
 refine wp_block ?_
 refine wwh h (fun s8=>⟨[(0,z2 p1.Show),(3,.ref 5 0 s8.2.length),(4,vI s8.1)],[.dead,.dead,.dead,.dead,.dead,.refs 6 (eF eI s8.2),.fam 1 true (eF eI s8.2)],22⟩) (fun v out=>out=.go (.exit 0) ⟨[(3,.ref 5 0 v.length)],[.dead,.dead,.dead,.dead,.dead,.refs 6 (eF eI v),.fam 1 true (eF eI v)],22⟩) (wk_trans (wk_gc (live:=[0,3,4]) (keep:=[]) (st':=⟨[(0,z2 p1.Show),(3,.nils),(4,vI 0)],[.dead,.dead,.dead,.dead,.dead],22⟩) kr) (wk_trans (wk_nil 3 1 true true (st':=⟨[(0,z2 p1.Show),(3,.ref 5 0 0),(4,vI 0)],[.dead,.dead,.dead,.dead,.dead,.row false false true true 1 []],22⟩) kr) (wk_trans (wk_fam 5 1 true (x0:=([]:List Int)) (n:=0) (enc1:=fun _=>AV.nils) eI rfl rfl rfl (st':=⟨[(0,z2 p1.Show),(3,.ref 5 0 (([]:List (List Int)).length)),(4,vI 0)],[.dead,.dead,.dead,.dead,.dead,.refs 6 (eF eI ([]:List (List Int))),.fam 1 true (eF eI ([]:List (List Int)))],22⟩) kr) (wk_gc (live:=[0,3,4]) (keep:=[5,6]) kr)))) ?_ ?_
 ·intro s8 o h
  unfold g_ref17_Bend_Of_b1 at h
  refine wp_seq (wp_seq (reg_in (sz 2 2 ?_)))
  refine lenL (enc:=z1) (l:=p1.Show) (fl:=false) kr gE ?_
  refine sz 1 4 (reg_end rfl ?_)
  refine wb [9] h (fun q10 h=>?_) (fun q10 h=>?_)
  ·refine wcT (wp_skip (wp_seq (wp_block (sq ?_))))
   refine wp_post ?_
   refine reg_in (sz 4 4 ?_)
   refine bind_elim h (fun a11 q12 h=>?_)
   refine idxL' (enc:=z1) (l:=p1.Show) (n:=s8.1) (fl:=false) (w:=1) (a:=a11) kr rfl gE q12 ?_
   refine sz 1 6 ?_
   refine appN (enc:=eI) (m:=a11) (w:=1) (bytes:=8) (nr':=true) (fl':=true) (a:=.nils) (b:=z1 a11) (rds:=[]) (S:=⟨[(0,z2 p1.Show),(3,.ref 5 0 s8.2.length),(4,vI s8.1),(6,vI s8.1),(7,z2 p1.Show),(8,vI (zn p1.Show)),(9,vB true),(5,.nils),(12,.ref 5 0 s8.2.length),(13,.nils),(14,z2 p1.Show),(15,vI s8.1)]++[(16,.fz [z1 a11]),(17,z1 a11),(18,.ref 7 0 a11.length)],[.dead,.dead,.dead,.dead,.dead,.refs 6 (eF eI s8.2),.fam 1 true (eF eI s8.2),oR true 1 eI a11],22⟩) false kr (.inl rfl) (elems_lst (fun _=>rfl)) rfl kr kr h (fun h=>?_)
   refine sgN true 1 8 gE rfl ?_
   refine appF (enc:=eI) (ls:=s8.2) (q:=a11) (bytes:=24) (ob:=5) (j:=6) (tm:=8) (m:=7) kr kr rfl kr gE kr h (fun h=>?_)
   refine sgz 1 10 (S:=⟨(s55_26 p1 s8 a11),[.dead,.dead,.dead,.dead,.dead,.dead,.fam 1 true (eF eI s8.2),oR true 1 eI a11,.row false false false false 1 [.ref 7 0 a11.length],.row false false false false 1 (famRefs 6 0 (eF eI s8.2)++[.ref 7 0 a11.length])],22⟩) ?_
   refine reg_end rfl ?_
   refine ⟨⟨(s55_28 p1 s8 a11),[.dead,.dead,.dead,.dead,.dead,.dead,.fam 1 true (eF eI (s8.2++[a11])),.dead,.dead,.refs 6 (eF eI (s8.2++[a11]))],22⟩,(wk_trans (wk_dead 8 (st':=⟨(s55_26 p1 s8 a11),[.dead,.dead,.dead,.dead,.dead,.dead,.fam 1 true (eF eI s8.2),oR true 1 eI a11,.dead,.row false false false false 1 (famRefs 6 0 (eF eI s8.2)++[.ref 7 0 a11.length])],22⟩) (by kernel_rfl)) (wk_adoptA 9 6 7 (enc:=eI) (ls:=s8.2) (b:=a11) [0,3,4,6,7,8,9,5,12,13,14,15,16,17,19,20] (st':=⟨(s55_28 p1 s8 a11),[.dead,.dead,.dead,.dead,.dead,.dead,.fam 1 true (eF eI (s8.2++[a11])),.dead,.dead,.refs 6 (eF eI (s8.2++[a11]))],22⟩) rfl rfl rfl (by kernel_rfl) (by kernel_rfl))),?_⟩
   refine wg [0,3,4] [9,6] (rn ?_)
   cases h
   exact ⟨_,rfl,(wk_gc (live:=[0,3,4]) (keep:=[5,6]) kr)⟩
  refine wcF (wg [3] [5,6] ?_)
  refine wp_exit ?_
  cases h
  exact ⟨kr,rfl⟩
 intro x14 h out hx
 subst hx
 refine sq (wg [2] [5,6] ?_)
 refine wp_ret ?_
 refine ⟨⟨[(0,.agg [.int .u8 p0.What,.int .u8 p0.S,.int .u8 p0.At,vI p0.N]),(1,.agg [vI p1.Grain,z1 p1.First,z2 p1.Step,z2 p1.Show])]++[(2,.ptr 0 0 0),(3,.ptr 1 0 0),(4,.ptr 2 0 0),(10,.ptr 1 0 2),(11,z2 p1.Step),(12,.ref 3 0 x7.length),(13,.ptr 1 0 3),(14,z2 p1.Show)]++[(15,.ref 5 0 x14.length)],[oX true true 4 (.agg [.int .u8 p0.What,.int .u8 p0.S,.int .u8 p0.At,vI p0.N]),oX true false 4 (.agg [vI p1.Grain,z1 p1.First,z2 p1.Step,z2 p1.Show]),oX true false 4 (.agg [vI 0,.nils,.nils,.nils]),.refs 4 (eF eI x7),.fam 1 true (eF eI x7),.refs 6 (eF eI x14),.fam 1 true (eF eI x14)],123⟩,by as_aux_lemma=>kernel_rfl,?_⟩
 refine sy 4 10 (rgd ?_)
 refine ⟨_,wk_refl,?_⟩
 refine wp_seq (wg [2,3,4] [0,1,2,3,5,4,6] (rn (wp_seq ?_)))
 refine wp_post ?_
 refine reg_in (sz 3 3 ?_)
 refine appN (enc:=eI) (m:=p1.First) (w:=1) (bytes:=8) (nr':=true) (fl':=true) (a:=.nils) (b:=z1 p1.First) (rds:=[]) false kr (.inl rfl) (elems_lst (fun _=>rfl)) rfl gE kr h (fun h=>?_)
 refine sz 2 6 (reg_end rfl ?_)
 refine ⟨_,wk_refl,?_⟩
 refine wp_seq ?_
 refine wgc [2,3,4] [0,1,2,7,3,4,5,6] ⟨[(2,.ptr 0 0 0),(3,.ptr 1 0 0),(4,.ptr 2 0 0)],[oX true true 4 (.agg [.int .u8 p0.What,.int .u8 p0.S,.int .u8 p0.At,vI p0.N]),oX false false 4 (.agg [vI p1.Grain,.ref 3 0 p1.First.length,.ref 4 0 x7.length,.ref 5 0 x14.length]),oX true false 4 (.agg [vI 0,.nils,.nils,.nils]),oR true 1 eI p1.First,.refs 6 (eF eI x7),.refs 7 (eF eI x14),.fam 1 true (eF eI x7),.fam 1 true (eF eI x14)],123⟩ ?_
 refine wp_post ?_
 refine rga hfol (sy 8 8 (rgd ?_))
 refine ⟨_,wk_refl,?_⟩
 refine wp_seq (wp_seq (wg [2,3,4,6,7] [0,1,2,3,4,5,6,7] ?_))
 refine wp_post ?_
 refine rn ?_
 refine ⟨_,wk_refl,?_⟩
 refine wp_block (sq ?_)
 refine wb [34,33] h (fun q16 h=>?_) (fun q16 h=>?_)
 ·refine wcT ?_
  refine wgc [2,3,4] [0,1,2,3,4,5,6,7] ⟨[(2,.ptr 0 0 0),(3,.ptr 1 0 0),(4,.ptr 2 0 0)],[oX true true 4 (.agg [.int .u8 p0.What,.int .u8 p0.S,.int .u8 p0.At,vI p0.N]),oX false false 4 (.agg [vI p1.Grain,.ref 3 0 p1.First.length,.ref 4 0 x7.length,.ref 5 0 x14.length]),oX true false 4 (.agg [vI 0,.nils,.nils,.nils]),oR true 1 eI p1.First,.refs 6 (eF eI x7),.refs 7 (eF eI x14),.fam 1 true (eF eI x7),.fam 1 true (eF eI x14)],123⟩ ?_
  refine wp_post ?_
  refine rn ?_
  refine ⟨_,wk_refl,?_⟩
  refine wp_seq ?_
  refine wp_post ?_
  refine rn ?_
  refine ⟨_,wk_refl,?_⟩
  refine wgc [4] [2,3,4,5,6,7] ⟨[(4,.ptr 0 0 0)],[oX false false 4 (.agg [vI p0.N,.ref 1 0 p1.First.length,.ref 2 0 x7.length,.ref 3 0 x14.length]),oR true 1 eI p1.First,.refs 4 (eF eI x7),.refs 5 (eF eI x14),.fam 1 true (eF eI x7),.fam 1 true (eF eI x14)],123⟩ ?_
  refine wp_wk (wk_frzF 2 4 (enc:=eI) (ls:=x7) (st':=⟨[(4,.ptr 0 0 0)],[oX false false 4 (.agg [vI p0.N,.ref 1 0 p1.First.length,.ref 2 0 x7.length,.ref 3 0 x14.length]),oR true 1 eI p1.First,oR false 1 z1 x7,.refs 5 (eF eI x14),.dead,.fam 1 true (eF eI x14)],123⟩) rfl rfl kr) ?_
  refine wp_wk (wk_frzF 3 5 (enc:=eI) (ls:=x14) (st':=⟨[(4,.ptr 0 0 0)],[oX false false 4 (.agg [vI p0.N,.ref 1 0 p1.First.length,.ref 2 0 x7.length,.ref 3 0 x14.length]),oR true 1 eI p1.First,oR false 1 z1 x7,oR false 1 z1 x14,.dead,.dead],123⟩) rfl rfl kr) ?_
  refine wp_wk (wk_snapO 0 0 (st':=⟨[(4,.ptr 0 0 0)],[oX false false 4 (.agg [vI p0.N,z1 p1.First,z2 x7,z2 x14]),.row false true true true 1 (List.map eI p1.First),.row false true true false 1 (List.map z1 x7),.row false true true false 1 (List.map z1 x14),.dead,.dead],123⟩) (y:=.agg [vI p0.N,z1 p1.First,z2 x7,z2 x14]) (ids:=[1,2,3]) rfl rfl rfl (snap_agg (msnap_cons rfl (msnap_cons (snap_full (w:=1) (bx:=false) (ro:=false) kr) (msnap_cons (snap_full (w:=1) (bx:=false) (ro:=false) kr) (msnap_cons (snap_full (w:=1) (bx:=false) (ro:=false) kr) msnap_nil (by rfl)) (by rfl)) (by rfl)) (by rfl))) kr) ?_
  cases h
  exact wp_ret (show fnOut _ _ _ _=_ from by kernel_rfl)
 refine wcF (sq ?_)
 refine wbz h (fun q18 h=>?_) (fun q18 h=>?_)
 ·refine wgc [2,3,4,7] [0,1,2,3,4,5,6,7] ⟨[(2,.ptr 0 0 0),(3,.ptr 1 0 0),(4,.ptr 2 0 0),(7,vI (zw (p0.At)))],[oX true true 4 (.agg [.int .u8 p0.What,.int .u8 p0.S,.int .u8 p0.At,vI p0.N]),oX false false 4 (.agg [vI p1.Grain,.ref 3 0 p1.First.length,.ref 4 0 x7.length,.ref 5 0 x14.length]),oX true false 4 (.agg [vI 0,.nils,.nils,.nils]),oR true 1 eI p1.First,.refs 6 (eF eI x7),.refs 7 (eF eI x14),.fam 1 true (eF eI x7),.fam 1 true (eF eI x14)],123⟩ ?_
  refine wp_post ?_
  refine rga hfol (sy 6 6 ?_)
  refine remR (k:=.i64) (a:=zw (p0.At)) (b:=(zn p1.First)) kr gE h (fun h=>?_)
  refine sy 2 9 ?_
  refine bind_elim h (fun a19 q20 h=>?_)
  refine idxR' (enc:=eI) (l:=p1.First) (n:=Int.tmod (zw (p0.At)) (zn p1.First)) (w:=1) (ob:=3) (ro:=false) (nr:=true) (fl:=true) (a:=a19) kr kr gE q20 ?_
  refine bind_elim h (fun a21 q22 h=>?_)
  refine storeR (enc:=eI) (l:=p1.First) (n:=(Int.tmod (zw (p0.At)) (zn p1.First))) (ob:=3) (w:=1) (bx:=false) (nr:=true) (fl:=true) (c:=0) (a:=a21) (a':=p0.N) (v:=vI p0.N) false kr kr q22 kr rfl kr gE kr ?_
  refine rknN (n:=p1.First.length) (m:=(List.set p1.First (zt (Int.tmod (zw (p0.At)) (zn p1.First))) p0.N).length) (S:=fun n23=>⟨[(2,.ptr 0 0 0),(3,.ptr 1 0 0),(4,.ptr 2 0 0),(7,vI (zw (p0.At))),(40,.ptr 1 0 1),(41,.ref 3 0 n23),(42,vI (zw (p0.At))),(43,.ptr 1 0 1),(44,.ref 3 0 n23),(45,vI (zn p1.First)),(46,vI (Int.tmod (zw (p0.At)) (zn p1.First))),(47,.ptr 0 0 3),(48,vI p0.N),(49,.ptr 3 (zt (Int.tmod (zw (p0.At)) (zn p1.First))) 0)],[oX true true 4 (.agg [.int .u8 p0.What,.int .u8 p0.S,.int .u8 p0.At,vI p0.N]),oX false false 4 (.agg [vI p1.Grain,.ref 3 0 n23,.ref 4 0 x7.length,.ref 5 0 x14.length]),oX true false 4 (.agg [vI 0,.nils,.nils,.nils]),oR true 1 eI (List.set p1.First (zt (Int.tmod (zw (p0.At)) (zn p1.First))) p0.N),.refs 6 (eF eI x7),.refs 7 (eF eI x14),.fam 1 true (eF eI x7),.fam 1 true (eF eI x14)],123⟩) (by simp only [List.length_set]) ?_
  refine rgd ?_
  refine ⟨_,wk_refl,?_⟩
  refine wp_seq (wg [3,4] [1,2,3,4,5,6,7] ?_)
  refine wp_post ?_
  refine rn ?_
  refine ⟨_,wk_refl,?_⟩
  refine wgc [4] [1,2,3,4,5,6] ⟨[(4,.ptr 0 0 0)],[oX false false 4 (.agg [vI p1.Grain,.ref 1 0 ((List.set p1.First (zt (Int.tmod (zw (p0.At)) (zn p1.First))) p0.N).length),.ref 2 0 x7.length,.ref 3 0 x14.length]),oR true 1 eI (List.set p1.First (zt (Int.tmod (zw (p0.At)) (zn p1.First))) p0.N),.refs 4 (eF eI x7),.refs 5 (eF eI x14),.fam 1 true (eF eI x7),.fam 1 true (eF eI x14)],123⟩ ?_
  refine wp_wk (wk_frzF 2 4 (enc:=eI) (ls:=x7) (st':=⟨[(4,.ptr 0 0 0)],[oX false false 4 (.agg [vI p1.Grain,.ref 1 0 ((List.set p1.First (zt (Int.tmod (zw (p0.At)) (zn p1.First))) p0.N).length),.ref 2 0 x7.length,.ref 3 0 x14.length]),oR true 1 eI (List.set p1.First (zt (Int.tmod (zw (p0.At)) (zn p1.First))) p0.N),oR false 1 z1 x7,.refs 5 (eF eI x14),.dead,.fam 1 true (eF eI x14)],123⟩) rfl rfl kr) ?_
  refine wp_wk (wk_frzF 3 5 (enc:=eI) (ls:=x14) (st':=⟨[(4,.ptr 0 0 0)],[oX false false 4 (.agg [vI p1.Grain,.ref 1 0 ((List.set p1.First (zt (Int.tmod (zw (p0.At)) (zn p1.First))) p0.N).length),.ref 2 0 x7.length,.ref 3 0 x14.length]),oR true 1 eI (List.set p1.First (zt (Int.tmod (zw (p0.At)) (zn p1.First))) p0.N),oR false 1 z1 x7,oR false 1 z1 x14,.dead,.dead],123⟩) rfl rfl kr) ?_
  refine wp_wk (wk_snapO 0 0 (st':=⟨[(4,.ptr 0 0 0)],[oX false false 4 (.agg [vI p1.Grain,z1 (List.set p1.First (zt (Int.tmod (zw (p0.At)) (zn p1.First))) p0.N),z2 x7,z2 x14]),.row false true true true 1 (List.map eI (List.set p1.First (zt (Int.tmod (zw (p0.At)) (zn p1.First))) p0.N)),.row false true true false 1 (List.map z1 x7),.row false true true false 1 (List.map z1 x14),.dead,.dead],123⟩) (y:=.agg [vI p1.Grain,z1 (List.set p1.First (zt (Int.tmod (zw (p0.At)) (zn p1.First))) p0.N),z2 x7,z2 x14]) (ids:=[1,2,3]) rfl rfl rfl (snap_agg (msnap_cons rfl (msnap_cons (snap_full (w:=1) (bx:=false) (ro:=false) kr) (msnap_cons (snap_full (w:=1) (bx:=false) (ro:=false) kr) (msnap_cons (snap_full (w:=1) (bx:=false) (ro:=false) kr) msnap_nil (by rfl)) (by rfl)) (by rfl)) (by rfl))) kr) ?_
  cases h
  exact wp_ret (show fnOut _ _ _ _=_ from by kernel_rfl)
 refine wp_seq ?_
 refine wgc [2,3,4,6,7,31] [0,1,2,3,4,5,6,7] ⟨[(2,.ptr 0 0 0),(3,.ptr 1 0 0),(4,.ptr 2 0 0),(6,vI (zw (p0.S))),(7,vI (zw (p0.At))),(31,.int .u8 (Int.tmod p0.What 8))],[oX true true 4 (.agg [.int .u8 p0.What,.int .u8 p0.S,.int .u8 p0.At,vI p0.N]),oX false false 4 (.agg [vI p1.Grain,.ref 3 0 p1.First.length,.ref 4 0 x7.length,.ref 5 0 x14.length]),oX true false 4 (.agg [vI 0,.nils,.nils,.nils]),oR true 1 eI p1.First,.refs 6 (eF eI x7),.refs 7 (eF eI x14),.fam 1 true (eF eI x7),.fam 1 true (eF eI x14)],123⟩ ?_
 refine rn ?_
 refine wb [51,50] h (fun q25 h=>?_) (fun q25 h=>?_)
 ·refine wcT (wp_seq ?_)
  refine wp_post ?_
  refine rga hfol (sy 6 6 ?_)
  refine remR (k:=.i64) (a:=zw (p0.S)) (b:=(zn x7)) kr gE h (fun h=>?_)
  refine bind_elim h (fun a26 q27 h=>?_)
  refine idxF (enc:=eI) (ls:=x7) (x:=a26) (n:=Int.tmod (zw (p0.S)) (zn x7)) (ob:=4) (j:=6) kr kr q27 gE ?_
  refine loadF (enc:=eI) (ls:=x7) (x:=a26) (n:=Int.tmod (zw (p0.S)) (zn x7)) (ob:=4) (j:=6) kr kr q27 gE ?_
  refine sgy 1 10 (S:=⟨[(2,.ptr 0 0 0),(3,.ptr 1 0 0),(4,.ptr 2 0 0),(6,vI (zw (p0.S))),(7,vI (zw (p0.At))),(31,.int .u8 (Int.tmod p0.What 8))]++[(51,vB true),(50,vB true),(52,.ptr 1 0 2),(53,.ref 4 0 x7.length),(54,vI (zw (p0.S))),(55,.ptr 1 0 2),(56,.ref 4 0 x7.length),(57,vI (zn x7))]++[(58,vI (Int.tmod (zw (p0.S)) (zn x7))),(59,.ptr 4 (zt (Int.tmod (zw (p0.S)) (zn x7))) 0),(60,.ref (fid 6 (zt (Int.tmod (zw (p0.S)) (zn x7)))) 0 a26.length),(8,.ref (fid 6 (zt (Int.tmod (zw (p0.S)) (zn x7)))) 0 a26.length)],[oX true true 4 (.agg [.int .u8 p0.What,.int .u8 p0.S,.int .u8 p0.At,vI p0.N]),oX false false 4 (.agg [vI p1.Grain,.ref 3 0 p1.First.length,.ref 4 0 x7.length,.ref 5 0 x14.length]),oX true false 4 (.agg [vI 0,.nils,.nils,.nils]),oR true 1 eI p1.First,.refs 6 (eF eI x7),.refs 7 (eF eI x14),.fam 1 true (eF eI x7),.fam 1 true (eF eI x14)],123⟩) ?_
  refine rgd ?_
  refine ⟨⟨[(2,.ptr 0 0 0),(3,.ptr 1 0 0),(4,.ptr 2 0 0),(6,vI (zw (p0.S))),(7,vI (zw (p0.At))),(31,.int .u8 (Int.tmod p0.What 8))]++[(51,vB true),(50,vB true),(52,.ptr 1 0 2),(53,.ref 4 0 x7.length),(54,vI (zw (p0.S))),(55,.ptr 1 0 2),(56,.ref 4 0 x7.length),(57,vI (zn x7))]++[(58,vI (Int.tmod (zw (p0.S)) (zn x7))),(59,.ptr 4 (zt (Int.tmod (zw (p0.S)) (zn x7))) 0),(60,.ref (fid 6 (zt (Int.tmod (zw (p0.S)) (zn x7)))) 0 a26.length),(8,.lin 6 (zt (Int.tmod (zw (p0.S)) (zn x7))) a26.length)],[oX true true 4 (.agg [.int .u8 p0.What,.int .u8 p0.S,.int .u8 p0.At,vI p0.N]),oX false false 4 (.agg [vI p1.Grain,.ref 3 0 p1.First.length,.ref 4 0 x7.length,.ref 5 0 x14.length]),oX true false 4 (.agg [vI 0,.nils,.nils,.nils]),oR true 1 eI p1.First,.refs 6 (eF eI x7),.refs 7 (eF eI x14),.fam 1 true (eF eI x7),.fam 1 true (eF eI x14)],123⟩,(wk_lin 8 (st':=⟨[(2,.ptr 0 0 0),(3,.ptr 1 0 0),(4,.ptr 2 0 0),(6,vI (zw (p0.S))),(7,vI (zw (p0.At))),(31,.int .u8 (Int.tmod p0.What 8))]++[(51,vB true),(50,vB true),(52,.ptr 1 0 2),(53,.ref 4 0 x7.length),(54,vI (zw (p0.S))),(55,.ptr 1 0 2),(56,.ref 4 0 x7.length),(57,vI (zn x7))]++[(58,vI (Int.tmod (zw (p0.S)) (zn x7))),(59,.ptr 4 (zt (Int.tmod (zw (p0.S)) (zn x7))) 0),(60,.ref (fid 6 (zt (Int.tmod (zw (p0.S)) (zn x7)))) 0 a26.length),(8,.lin 6 (zt (Int.tmod (zw (p0.S)) (zn x7))) a26.length)],[oX true true 4 (.agg [.int .u8 p0.What,.int .u8 p0.S,.int .u8 p0.At,vI p0.N]),oX false false 4 (.agg [vI p1.Grain,.ref 3 0 p1.First.length,.ref 4 0 x7.length,.ref 5 0 x14.length]),oX true false 4 (.agg [vI 0,.nils,.nils,.nils]),oR true 1 eI p1.First,.refs 6 (eF eI x7),.refs 7 (eF eI x14),.fam 1 true (eF eI x7),.fam 1 true (eF eI x14)],123⟩) rfl (by kernel_rfl)),?_⟩
  refine wgc [2,3,4,7,8] [0,1,2,6,3,4,5,7] ⟨[(2,.ptr 0 0 0),(3,.ptr 1 0 0),(4,.ptr 2 0 0),(7,vI (zw (p0.At))),(8,.lin 3 (zt (Int.tmod (zw (p0.S)) (zn x7))) a26.length)],[oX true true 4 (.agg [.int .u8 p0.What,.int .u8 p0.S,.int .u8 p0.At,vI p0.N]),oX false false 4 (.agg [vI p1.Grain,.ref 4 0 p1.First.length,.ref 5 0 x7.length,.ref 6 0 x14.length]),oX true false 4 (.agg [vI 0,.nils,.nils,.nils]),.fam 1 true (eF eI x7),oR true 1 eI p1.First,.refs 3 (eF eI x7),.refs 7 (eF eI x14),.fam 1 true (eF eI x14)],123⟩ ?_
  refine wp_wk (wk_unlin 8 (st':=⟨[(2,.ptr 0 0 0),(3,.ptr 1 0 0),(4,.ptr 2 0 0),(7,vI (zw (p0.At))),(8,.ref (fid 3 (zt (Int.tmod (zw (p0.S)) (zn x7)))) 0 a26.length)],[oX true true 4 (.agg [.int .u8 p0.What,.int .u8 p0.S,.int .u8 p0.At,vI p0.N]),oX false false 4 (.agg [vI p1.Grain,.ref 4 0 p1.First.length,.ref 5 0 x7.length,.ref 6 0 x14.length]),oX true false 4 (.agg [vI 0,.nils,.nils,.nils]),.fam 1 true (eF eI x7),oR true 1 eI p1.First,.refs 3 (eF eI x7),.refs 7 (eF eI x14),.fam 1 true (eF eI x14)],123⟩) rfl kr) ?_
  refine wp_post ?_
  refine rga hfol (sy 4 4 ?_)
  refine remR (k:=.i64) (a:=zw (p0.At)) (b:=(zn a26)) kr gE h (fun h=>?_)
  refine sy 2 7 ?_
  refine bind_elim h (fun a28 q29 h=>?_)
  refine idxI (enc:=eI) (ls:=x7) (x:=a26) (y:=a28) (n:=Int.tmod (zw (p0.S)) (zn x7)) (c:=Int.tmod (zw (p0.At)) (zn a26)) (w:=1) (j:=3) (fl:=true) kr kr q27 q29 rfl gE ?_
  refine storeI (enc:=eI) (ls:=x7) (x:=a26) (y:=a28) (y':=p0.N) (n:=Int.tmod (zw (p0.S)) (zn x7)) (m:=Int.tmod (zw (p0.At)) (zn a26)) (w:=1) (j:=3) (q:=5) (c:=0) (fl:=true) (v:=vI p0.N) kr kr kr q27 q29 rfl kr kr kr gE ?_
  refine rknN (n:=x7.length) (m:=(List.set x7 (zt (Int.tmod (zw (p0.S)) (zn x7))) (List.set a26 (zt (Int.tmod (zw (p0.At)) (zn a26))) p0.N)).length) (S:=fun n30=>⟨[(2,.ptr 0 0 0),(3,.ptr 1 0 0),(4,.ptr 2 0 0),(7,vI (zw (p0.At))),(8,.ref (fid 3 (zt (Int.tmod (zw (p0.S)) (zn x7)))) 0 a26.length),(61,.ref (fid 3 (zt (Int.tmod (zw (p0.S)) (zn x7)))) 0 a26.length),(62,vI (zw (p0.At))),(63,.ref (fid 3 (zt (Int.tmod (zw (p0.S)) (zn x7)))) 0 a26.length),(64,vI (zn a26)),(65,vI (Int.tmod (zw (p0.At)) (zn a26))),(66,.ptr 0 0 3),(67,vI p0.N),(68,.ptr (fid 3 (zt (Int.tmod (zw (p0.S)) (zn x7)))) (zt (Int.tmod (zw (p0.At)) (zn a26))) 0)],[oX true true 4 (.agg [.int .u8 p0.What,.int .u8 p0.S,.int .u8 p0.At,vI p0.N]),oX false false 4 (.agg [vI p1.Grain,.ref 4 0 p1.First.length,.ref 5 0 n30,.ref 6 0 x14.length]),oX true false 4 (.agg [vI 0,.nils,.nils,.nils]),.fam 1 true (eF eI (List.set x7 (zt (Int.tmod (zw (p0.S)) (zn x7))) (List.set a26 (zt (Int.tmod (zw (p0.At)) (zn a26))) p0.N))),oR true 1 eI p1.First,.refs 3 (eF eI (List.set x7 (zt (Int.tmod (zw (p0.S)) (zn x7))) (List.set a26 (zt (Int.tmod (zw (p0.At)) (zn a26))) p0.N))),.refs 7 (eF eI x14),.fam 1 true (eF eI x14)],123⟩) (by simp only [List.length_set]) ?_
  refine rgd ?_
  refine ⟨_,wk_refl,?_⟩
  refine wp_seq (wg [3,4] [1,2,4,5,6,3,7] ?_)
  refine wp_post ?_
  refine rn ?_
  refine ⟨_,wk_refl,?_⟩
  refine wgc [4] [1,2,3,4,5,6] ⟨[(4,.ptr 0 0 0)],[oX false false 4 (.agg [vI p1.Grain,.ref 1 0 p1.First.length,.ref 2 0 ((List.set x7 (zt (Int.tmod (zw (p0.S)) (zn x7))) (List.set a26 (zt (Int.tmod (zw (p0.At)) (zn a26))) p0.N)).length),.ref 3 0 x14.length]),oR true 1 eI p1.First,.refs 4 (eF eI (List.set x7 (zt (Int.tmod (zw (p0.S)) (zn x7))) (List.set a26 (zt (Int.tmod (zw (p0.At)) (zn a26))) p0.N))),.refs 5 (eF eI x14),.fam 1 true (eF eI (List.set x7 (zt (Int.tmod (zw (p0.S)) (zn x7))) (List.set a26 (zt (Int.tmod (zw (p0.At)) (zn a26))) p0.N))),.fam 1 true (eF eI x14)],123⟩ ?_
  refine wp_wk (wk_frzF 2 4 (enc:=eI) (ls:=(List.set x7 (zt (Int.tmod (zw (p0.S)) (zn x7))) (List.set a26 (zt (Int.tmod (zw (p0.At)) (zn a26))) p0.N))) (st':=⟨[(4,.ptr 0 0 0)],[oX false false 4 (.agg [vI p1.Grain,.ref 1 0 p1.First.length,.ref 2 0 ((List.set x7 (zt (Int.tmod (zw (p0.S)) (zn x7))) (List.set a26 (zt (Int.tmod (zw (p0.At)) (zn a26))) p0.N)).length),.ref 3 0 x14.length]),oR true 1 eI p1.First,oR false 1 z1 (List.set x7 (zt (Int.tmod (zw (p0.S)) (zn x7))) (List.set a26 (zt (Int.tmod (zw (p0.At)) (zn a26))) p0.N)),.refs 5 (eF eI x14),.dead,.fam 1 true (eF eI x14)],123⟩) rfl rfl kr) ?_
  refine wp_wk (wk_frzF 3 5 (enc:=eI) (ls:=x14) (st':=⟨[(4,.ptr 0 0 0)],[oX false false 4 (.agg [vI p1.Grain,.ref 1 0 p1.First.length,.ref 2 0 ((List.set x7 (zt (Int.tmod (zw (p0.S)) (zn x7))) (List.set a26 (zt (Int.tmod (zw (p0.At)) (zn a26))) p0.N)).length),.ref 3 0 x14.length]),oR true 1 eI p1.First,oR false 1 z1 (List.set x7 (zt (Int.tmod (zw (p0.S)) (zn x7))) (List.set a26 (zt (Int.tmod (zw (p0.At)) (zn a26))) p0.N)),oR false 1 z1 x14,.dead,.dead],123⟩) rfl rfl kr) ?_
  refine wp_wk (wk_snapO 0 0 (st':=⟨[(4,.ptr 0 0 0)],[oX false false 4 (.agg [vI p1.Grain,z1 p1.First,z2 (List.set x7 (zt (Int.tmod (zw (p0.S)) (zn x7))) (List.set a26 (zt (Int.tmod (zw (p0.At)) (zn a26))) p0.N)),z2 x14]),.row false true true true 1 (List.map eI p1.First),.row false true true false 1 (List.map z1 (List.set x7 (zt (Int.tmod (zw (p0.S)) (zn x7))) (List.set a26 (zt (Int.tmod (zw (p0.At)) (zn a26))) p0.N))),.row false true true false 1 (List.map z1 x14),.dead,.dead],123⟩) (y:=.agg [vI p1.Grain,z1 p1.First,z2 (List.set x7 (zt (Int.tmod (zw (p0.S)) (zn x7))) (List.set a26 (zt (Int.tmod (zw (p0.At)) (zn a26))) p0.N)),z2 x14]) (ids:=[1,2,3]) rfl rfl rfl (snap_agg (msnap_cons rfl (msnap_cons (snap_full (w:=1) (bx:=false) (ro:=false) kr) (msnap_cons (snap_full (w:=1) (bx:=false) (ro:=false) kr) (msnap_cons (snap_full (w:=1) (bx:=false) (ro:=false) kr) msnap_nil (by rfl)) (by rfl)) (by rfl)) (by rfl))) kr) ?_
  cases h
  exact wp_ret (show fnOut _ _ _ _=_ from by kernel_rfl)
 refine wcF (sq ?_)
 refine wbz h (fun q32 h=>?_) (fun q32 h=>?_)
 ·refine wp_seq (wg [2,3,4,6,7] [0,1,2,3,4,5,6,7] ?_)
  refine wp_post ?_
  refine rga hfol (sy 6 6 ?_)
  refine remR (k:=.i64) (a:=zw (p0.S)) (b:=(zn x14)) kr gE h (fun h=>?_)
  refine bind_elim h (fun a33 q34 h=>?_)
  refine idxF (enc:=eI) (ls:=x14) (x:=a33) (n:=Int.tmod (zw (p0.S)) (zn x14)) (ob:=5) (j:=7) kr kr q34 gE ?_
  refine loadF (enc:=eI) (ls:=x14) (x:=a33) (n:=Int.tmod (zw (p0.S)) (zn x14)) (ob:=5) (j:=7) kr kr q34 gE ?_
  refine sgy 1 10 (S:=⟨[(2,.ptr 0 0 0),(3,.ptr 1 0 0),(4,.ptr 2 0 0),(6,vI (zw (p0.S))),(7,vI (zw (p0.At)))]++[(71,.ptr 1 0 3),(72,.ref 5 0 x14.length),(73,vI (zw (p0.S))),(74,.ptr 1 0 3),(75,.ref 5 0 x14.length),(76,vI (zn x14)),(77,vI (Int.tmod (zw (p0.S)) (zn x14))),(78,.ptr 5 (zt (Int.tmod (zw (p0.S)) (zn x14))) 0),(79,.ref (fid 7 (zt (Int.tmod (zw (p0.S)) (zn x14)))) 0 a33.length),(9,.ref (fid 7 (zt (Int.tmod (zw (p0.S)) (zn x14)))) 0 a33.length)],[oX true true 4 (.agg [.int .u8 p0.What,.int .u8 p0.S,.int .u8 p0.At,vI p0.N]),oX false false 4 (.agg [vI p1.Grain,.ref 3 0 p1.First.length,.ref 4 0 x7.length,.ref 5 0 x14.length]),oX true false 4 (.agg [vI 0,.nils,.nils,.nils]),oR true 1 eI p1.First,.refs 6 (eF eI x7),.refs 7 (eF eI x14),.fam 1 true (eF eI x7),.fam 1 true (eF eI x14)],123⟩) ?_
  refine rgd ?_
  refine ⟨⟨[(2,.ptr 0 0 0),(3,.ptr 1 0 0),(4,.ptr 2 0 0),(6,vI (zw (p0.S))),(7,vI (zw (p0.At)))]++[(71,.ptr 1 0 3),(72,.ref 5 0 x14.length),(73,vI (zw (p0.S))),(74,.ptr 1 0 3),(75,.ref 5 0 x14.length),(76,vI (zn x14)),(77,vI (Int.tmod (zw (p0.S)) (zn x14))),(78,.ptr 5 (zt (Int.tmod (zw (p0.S)) (zn x14))) 0),(79,.ref (fid 7 (zt (Int.tmod (zw (p0.S)) (zn x14)))) 0 a33.length),(9,.lin 7 (zt (Int.tmod (zw (p0.S)) (zn x14))) a33.length)],[oX true true 4 (.agg [.int .u8 p0.What,.int .u8 p0.S,.int .u8 p0.At,vI p0.N]),oX false false 4 (.agg [vI p1.Grain,.ref 3 0 p1.First.length,.ref 4 0 x7.length,.ref 5 0 x14.length]),oX true false 4 (.agg [vI 0,.nils,.nils,.nils]),oR true 1 eI p1.First,.refs 6 (eF eI x7),.refs 7 (eF eI x14),.fam 1 true (eF eI x7),.fam 1 true (eF eI x14)],123⟩,(wk_lin 9 (st':=⟨[(2,.ptr 0 0 0),(3,.ptr 1 0 0),(4,.ptr 2 0 0),(6,vI (zw (p0.S))),(7,vI (zw (p0.At)))]++[(71,.ptr 1 0 3),(72,.ref 5 0 x14.length),(73,vI (zw (p0.S))),(74,.ptr 1 0 3),(75,.ref 5 0 x14.length),(76,vI (zn x14)),(77,vI (Int.tmod (zw (p0.S)) (zn x14))),(78,.ptr 5 (zt (Int.tmod (zw (p0.S)) (zn x14))) 0),(79,.ref (fid 7 (zt (Int.tmod (zw (p0.S)) (zn x14)))) 0 a33.length),(9,.lin 7 (zt (Int.tmod (zw (p0.S)) (zn x14))) a33.length)],[oX true true 4 (.agg [.int .u8 p0.What,.int .u8 p0.S,.int .u8 p0.At,vI p0.N]),oX false false 4 (.agg [vI p1.Grain,.ref 3 0 p1.First.length,.ref 4 0 x7.length,.ref 5 0 x14.length]),oX true false 4 (.agg [vI 0,.nils,.nils,.nils]),oR true 1 eI p1.First,.refs 6 (eF eI x7),.refs 7 (eF eI x14),.fam 1 true (eF eI x7),.fam 1 true (eF eI x14)],123⟩) rfl (by kernel_rfl)),?_⟩
  refine wgc [2,3,4,7,9] [0,1,2,7,3,4,5,6] ⟨[(2,.ptr 0 0 0),(3,.ptr 1 0 0),(4,.ptr 2 0 0),(7,vI (zw (p0.At))),(9,.lin 3 (zt (Int.tmod (zw (p0.S)) (zn x14))) a33.length)],[oX true true 4 (.agg [.int .u8 p0.What,.int .u8 p0.S,.int .u8 p0.At,vI p0.N]),oX false false 4 (.agg [vI p1.Grain,.ref 4 0 p1.First.length,.ref 5 0 x7.length,.ref 6 0 x14.length]),oX true false 4 (.agg [vI 0,.nils,.nils,.nils]),.fam 1 true (eF eI x14),oR true 1 eI p1.First,.refs 7 (eF eI x7),.refs 3 (eF eI x14),.fam 1 true (eF eI x7)],123⟩ ?_
  refine wp_wk (wk_unlin 9 (st':=⟨[(2,.ptr 0 0 0),(3,.ptr 1 0 0),(4,.ptr 2 0 0),(7,vI (zw (p0.At))),(9,.ref (fid 3 (zt (Int.tmod (zw (p0.S)) (zn x14)))) 0 a33.length)],[oX true true 4 (.agg [.int .u8 p0.What,.int .u8 p0.S,.int .u8 p0.At,vI p0.N]),oX false false 4 (.agg [vI p1.Grain,.ref 4 0 p1.First.length,.ref 5 0 x7.length,.ref 6 0 x14.length]),oX true false 4 (.agg [vI 0,.nils,.nils,.nils]),.fam 1 true (eF eI x14),oR true 1 eI p1.First,.refs 7 (eF eI x7),.refs 3 (eF eI x14),.fam 1 true (eF eI x7)],123⟩) rfl kr) ?_
  refine wp_post ?_
  refine rga hfol (sy 4 4 ?_)
  refine remR (k:=.i64) (a:=zw (p0.At)) (b:=(zn a33)) kr gE h (fun h=>?_)
  refine sy 2 7 ?_
  refine bind_elim h (fun a35 q36 h=>?_)
  refine idxI (enc:=eI) (ls:=x14) (x:=a33) (y:=a35) (n:=Int.tmod (zw (p0.S)) (zn x14)) (c:=Int.tmod (zw (p0.At)) (zn a33)) (w:=1) (j:=3) (fl:=true) kr kr q34 q36 rfl gE ?_
  refine storeI (enc:=eI) (ls:=x14) (x:=a33) (y:=a35) (y':=p0.N) (n:=Int.tmod (zw (p0.S)) (zn x14)) (m:=Int.tmod (zw (p0.At)) (zn a33)) (w:=1) (j:=3) (q:=6) (c:=0) (fl:=true) (v:=vI p0.N) kr kr kr q34 q36 rfl kr kr kr gE ?_
  refine rknN (n:=x14.length) (m:=(List.set x14 (zt (Int.tmod (zw (p0.S)) (zn x14))) (List.set a33 (zt (Int.tmod (zw (p0.At)) (zn a33))) p0.N)).length) (S:=fun n37=>⟨[(2,.ptr 0 0 0),(3,.ptr 1 0 0),(4,.ptr 2 0 0),(7,vI (zw (p0.At))),(9,.ref (fid 3 (zt (Int.tmod (zw (p0.S)) (zn x14)))) 0 a33.length),(80,.ref (fid 3 (zt (Int.tmod (zw (p0.S)) (zn x14)))) 0 a33.length),(81,vI (zw (p0.At))),(82,.ref (fid 3 (zt (Int.tmod (zw (p0.S)) (zn x14)))) 0 a33.length),(83,vI (zn a33)),(84,vI (Int.tmod (zw (p0.At)) (zn a33))),(85,.ptr 0 0 3),(86,vI p0.N),(87,.ptr (fid 3 (zt (Int.tmod (zw (p0.S)) (zn x14)))) (zt (Int.tmod (zw (p0.At)) (zn a33))) 0)],[oX true true 4 (.agg [.int .u8 p0.What,.int .u8 p0.S,.int .u8 p0.At,vI p0.N]),oX false false 4 (.agg [vI p1.Grain,.ref 4 0 p1.First.length,.ref 5 0 x7.length,.ref 6 0 n37]),oX true false 4 (.agg [vI 0,.nils,.nils,.nils]),.fam 1 true (eF eI (List.set x14 (zt (Int.tmod (zw (p0.S)) (zn x14))) (List.set a33 (zt (Int.tmod (zw (p0.At)) (zn a33))) p0.N))),oR true 1 eI p1.First,.refs 7 (eF eI x7),.refs 3 (eF eI (List.set x14 (zt (Int.tmod (zw (p0.S)) (zn x14))) (List.set a33 (zt (Int.tmod (zw (p0.At)) (zn a33))) p0.N))),.fam 1 true (eF eI x7)],123⟩) (by simp only [List.length_set]) ?_
  refine rgd ?_
  refine ⟨_,wk_refl,?_⟩
  refine wp_seq (wg [3,4] [1,2,4,5,6,7,3] ?_)
  refine wp_post ?_
  refine rn ?_
  refine ⟨_,wk_refl,?_⟩
  refine wgc [4] [1,2,3,4,5,6] ⟨[(4,.ptr 0 0 0)],[oX false false 4 (.agg [vI p1.Grain,.ref 1 0 p1.First.length,.ref 2 0 x7.length,.ref 3 0 ((List.set x14 (zt (Int.tmod (zw (p0.S)) (zn x14))) (List.set a33 (zt (Int.tmod (zw (p0.At)) (zn a33))) p0.N)).length)]),oR true 1 eI p1.First,.refs 4 (eF eI x7),.refs 5 (eF eI (List.set x14 (zt (Int.tmod (zw (p0.S)) (zn x14))) (List.set a33 (zt (Int.tmod (zw (p0.At)) (zn a33))) p0.N))),.fam 1 true (eF eI x7),.fam 1 true (eF eI (List.set x14 (zt (Int.tmod (zw (p0.S)) (zn x14))) (List.set a33 (zt (Int.tmod (zw (p0.At)) (zn a33))) p0.N)))],123⟩ ?_
  refine wp_wk (wk_frzF 2 4 (enc:=eI) (ls:=x7) (st':=⟨[(4,.ptr 0 0 0)],[oX false false 4 (.agg [vI p1.Grain,.ref 1 0 p1.First.length,.ref 2 0 x7.length,.ref 3 0 ((List.set x14 (zt (Int.tmod (zw (p0.S)) (zn x14))) (List.set a33 (zt (Int.tmod (zw (p0.At)) (zn a33))) p0.N)).length)]),oR true 1 eI p1.First,oR false 1 z1 x7,.refs 5 (eF eI (List.set x14 (zt (Int.tmod (zw (p0.S)) (zn x14))) (List.set a33 (zt (Int.tmod (zw (p0.At)) (zn a33))) p0.N))),.dead,.fam 1 true (eF eI (List.set x14 (zt (Int.tmod (zw (p0.S)) (zn x14))) (List.set a33 (zt (Int.tmod (zw (p0.At)) (zn a33))) p0.N)))],123⟩) rfl rfl kr) ?_
  refine wp_wk (wk_frzF 3 5 (enc:=eI) (ls:=(List.set x14 (zt (Int.tmod (zw (p0.S)) (zn x14))) (List.set a33 (zt (Int.tmod (zw (p0.At)) (zn a33))) p0.N))) (st':=⟨[(4,.ptr 0 0 0)],[oX false false 4 (.agg [vI p1.Grain,.ref 1 0 p1.First.length,.ref 2 0 x7.length,.ref 3 0 ((List.set x14 (zt (Int.tmod (zw (p0.S)) (zn x14))) (List.set a33 (zt (Int.tmod (zw (p0.At)) (zn a33))) p0.N)).length)]),oR true 1 eI p1.First,oR false 1 z1 x7,oR false 1 z1 (List.set x14 (zt (Int.tmod (zw (p0.S)) (zn x14))) (List.set a33 (zt (Int.tmod (zw (p0.At)) (zn a33))) p0.N)),.dead,.dead],123⟩) rfl rfl kr) ?_
  refine wp_wk (wk_snapO 0 0 (st':=⟨[(4,.ptr 0 0 0)],[oX false false 4 (.agg [vI p1.Grain,z1 p1.First,z2 x7,z2 (List.set x14 (zt (Int.tmod (zw (p0.S)) (zn x14))) (List.set a33 (zt (Int.tmod (zw (p0.At)) (zn a33))) p0.N))]),.row false true true true 1 (List.map eI p1.First),.row false true true false 1 (List.map z1 x7),.row false true true false 1 (List.map z1 (List.set x14 (zt (Int.tmod (zw (p0.S)) (zn x14))) (List.set a33 (zt (Int.tmod (zw (p0.At)) (zn a33))) p0.N))),.dead,.dead],123⟩) (y:=.agg [vI p1.Grain,z1 p1.First,z2 x7,z2 (List.set x14 (zt (Int.tmod (zw (p0.S)) (zn x14))) (List.set a33 (zt (Int.tmod (zw (p0.At)) (zn a33))) p0.N))]) (ids:=[1,2,3]) rfl rfl rfl (snap_agg (msnap_cons rfl (msnap_cons (snap_full (w:=1) (bx:=false) (ro:=false) kr) (msnap_cons (snap_full (w:=1) (bx:=false) (ro:=false) kr) (msnap_cons (snap_full (w:=1) (bx:=false) (ro:=false) kr) msnap_nil (by rfl)) (by rfl)) (by rfl)) (by rfl))) kr) ?_
  cases h
  exact wp_ret (show fnOut _ _ _ _=_ from by kernel_rfl)
 refine wp_seq (wg [3,4,6,31] [1,2,3,4,5,6,7] (rn ?_))
 refine wbr (S:=fun b38=>⟨[(3,.ptr 0 0 0),(4,.ptr 1 0 0),(6,vI (zw (p0.S))),(31,.int .u8 (Int.tmod p0.What 8))]++[(89,vB b38),(88,vB b38)],(s55_96 p1 x7 x14),123⟩) h (fun q39 h=>?_) (fun q39 h=>?_)
 ·refine wcT ?_
  refine wp_wk (wk_frzF 3 5 (enc:=eI) (ls:=x7) (st':=⟨[(3,.ptr 0 0 0),(4,.ptr 1 0 0),(6,vI (zw (p0.S))),(31,.int .u8 (Int.tmod p0.What 8))]++[(89,vB true),(88,vB true)],[oX false false 4 (.agg [vI p1.Grain,.ref 2 0 p1.First.length,.ref 3 0 x7.length,.ref 4 0 x14.length]),oX true false 4 (.agg [vI 0,.nils,.nils,.nils]),oR true 1 eI p1.First,oR false 1 z1 x7,.refs 6 (eF eI x14),.dead,.fam 1 true (eF eI x14)],123⟩) rfl rfl kr) ?_
  refine wp_post ?_
  refine reg_in (sz 2 2 ?_)
  refine sliceP (enc:=z1) (l:=x7) (ob:=3) (ro:=false) (nr:=true) (fl:=false) (lo:=(some (vI 1))) (hi:=none) (a:=1) (b:=(zn x7)) (w:=1) kr kr rfl rfl gE h (fun q40 h=>?_)
  refine sz 2 5 (reg_end rfl ?_)
  refine ⟨_,wk_refl,?_⟩
  refine wp_seq (wg [3,4] [0,1,2,3,4,6] ?_)
  refine wp_post ?_
  refine rn ?_
  refine ⟨_,wk_refl,?_⟩
  refine wgc [4] [1,2,3,4,5] ⟨[(4,.ptr 0 0 0)],[oX false false 4 (.agg [vI p1.Grain,.ref 1 0 p1.First.length,.ref 2 1 (zt (zn x7) - zt (1:Int)),.ref 3 0 x14.length]),oR true 1 eI p1.First,oR false 1 z1 x7,.refs 4 (eF eI x14),.fam 1 true (eF eI x14)],123⟩ ?_
  refine wp_wk (wk_frzF 3 4 (enc:=eI) (ls:=x14) (st':=⟨[(4,.ptr 0 0 0)],[oX false false 4 (.agg [vI p1.Grain,.ref 1 0 p1.First.length,.ref 2 1 (zt (zn x7) - zt (1:Int)),.ref 3 0 x14.length]),oR true 1 eI p1.First,oR false 1 z1 x7,oR false 1 z1 x14,.dead],123⟩) rfl rfl kr) ?_
  refine wp_wk (wk_snapO 0 0 (st':=⟨[(4,.ptr 0 0 0)],[oX false false 4 (.agg [vI p1.Grain,z1 p1.First,z2 (sub x7 1 (zn x7)),z2 x14]),.row false true true true 1 (List.map eI p1.First),.row false true true false 1 (List.map z1 x7),.row false true true false 1 (List.map z1 x14),.dead],123⟩) (y:=.agg [vI p1.Grain,z1 p1.First,z2 (sub x7 1 (zn x7)),z2 x14]) (ids:=[1,2,3]) rfl rfl rfl (snap_agg (msnap_cons rfl (msnap_cons (snap_full (w:=1) (bx:=false) (ro:=false) kr) (msnap_cons (snap_part (a:=1) (b:=(zn x7)) (w:=1) (bx:=false) (ro:=false) kr q40) (msnap_cons (snap_full (w:=1) (bx:=false) (ro:=false) kr) msnap_nil (by rfl)) (by rfl)) (by rfl)) (by rfl))) kr) ?_
  cases h
  exact wp_ret (show fnOut _ _ _ _=_ from by kernel_rfl)
 refine wcF (sq ?_)
 refine wbz h (fun q42 h=>?_) (fun q42 h=>?_)
 ·refine wgc [3,4,6] [0,1,2,3,4,5,6] ⟨[(3,.ptr 0 0 0),(4,.ptr 1 0 0),(6,vI (zw (p0.S)))],(s55_96 p1 x7 x14),123⟩ ?_
  refine bind_elim h (fun a43 q44 h=>?_)
  refine wp_wk (wk_steal 4 6 (enc:=eI) (ls:=x14) (x:=a43) (n:=Int.tmod (zw (p0.S)) (zn x14)) [3,4,6] (st':=⟨[(3,.ptr 0 0 0),(4,.ptr 1 0 0),(6,vI (zw (p0.S)))],[oX false false 4 (.agg [vI p1.Grain,.ref 2 0 p1.First.length,.ref 3 0 x7.length,.ref 4 0 x14.length]),oX true false 4 (.agg [vI 0,.nils,.nils,.nils]),oR true 1 eI p1.First,.refs 5 (eF eI x7),.row false false false false 1 ((famRefs 6 0 (eF eI (List.set x14 (zt (Int.tmod (zw (p0.S)) (zn x14))) ([]:List Int)))).set (zt (Int.tmod (zw (p0.S)) (zn x14))) (.ref 7 0 a43.length)),.fam 1 true (eF eI x7),.fam 1 true (eF eI (List.set x14 (zt (Int.tmod (zw (p0.S)) (zn x14))) ([]:List Int))),oR true 1 eI a43],123⟩) rfl rfl q44 kr kr) ?_
  refine wp_wk (wk_eq (congrArg (fun n45=>(⟨[(3,.ptr 0 0 0),(4,.ptr 1 0 0),(6,vI (zw (p0.S)))],[oX false false 4 (.agg [vI p1.Grain,.ref 2 0 p1.First.length,.ref 3 0 x7.length,.ref 4 0 n45]),oX true false 4 (.agg [vI 0,.nils,.nils,.nils]),oR true 1 eI p1.First,.refs 5 (eF eI x7),.row false false false false 1 ((famRefs 6 0 (eF eI (List.set x14 (zt (Int.tmod (zw (p0.S)) (zn x14))) ([]:List Int)))).set (zt (Int.tmod (zw (p0.S)) (zn x14))) (.ref 7 0 a43.length)),.fam 1 true (eF eI x7),.fam 1 true (eF eI (List.set x14 (zt (Int.tmod (zw (p0.S)) (zn x14))) ([]:List Int))),oR true 1 eI a43],123⟩:St)) (show x14.length=(List.set x14 (zt (Int.tmod (zw (p0.S)) (zn x14))) ([]:List Int)).length by simp only [List.length_set]))) ?_
  refine wp_post ?_
  refine rga hfol (sy 6 6 ?_)
  refine remR (k:=.i64) (a:=zw (p0.S)) (b:=(((List.set x14 (zt (Int.tmod (zw (p0.S)) (zn x14))) ([]:List Int)).length):Int)) kr gE h (fun h=>?_)
  refine sy 6 13 ?_
  refine remR (k:=.i64) (a:=zw (p0.S)) (b:=(((List.set x14 (zt (Int.tmod (zw (p0.S)) (zn x14))) ([]:List Int)).length):Int)) kr gE h (fun h=>?_)
  refine rknI (n:=Int.tmod (zw (p0.S)) (((List.set x14 (zt (Int.tmod (zw (p0.S)) (zn x14))) ([]:List Int)).length):Int)) (m:=Int.tmod (zw (p0.S)) (zn x14)) (S:=fun n46=>⟨[(3,.ptr 0 0 0),(4,.ptr 1 0 0),(6,vI (zw (p0.S))),(96,.ptr 0 0 3),(97,.ref 4 0 ((List.set x14 (zt (Int.tmod (zw (p0.S)) (zn x14))) ([]:List Int)).length)),(98,vI (zw (p0.S))),(99,.ptr 0 0 3),(100,.ref 4 0 ((List.set x14 (zt (Int.tmod (zw (p0.S)) (zn x14))) ([]:List Int)).length)),(101,vI (((List.set x14 (zt (Int.tmod (zw (p0.S)) (zn x14))) ([]:List Int)).length):Int))]++[(102,vI n46),(103,.ptr 0 0 3),(104,.ref 4 0 ((List.set x14 (zt (Int.tmod (zw (p0.S)) (zn x14))) ([]:List Int)).length)),(105,vI (zw (p0.S))),(106,.ptr 0 0 3),(107,.ref 4 0 ((List.set x14 (zt (Int.tmod (zw (p0.S)) (zn x14))) ([]:List Int)).length)),(108,vI (((List.set x14 (zt (Int.tmod (zw (p0.S)) (zn x14))) ([]:List Int)).length):Int)),(109,vI n46)],[oX false false 4 (.agg [vI p1.Grain,.ref 2 0 p1.First.length,.ref 3 0 x7.length,.ref 4 0 ((List.set x14 (zt (Int.tmod (zw (p0.S)) (zn x14))) ([]:List Int)).length)]),oX true false 4 (.agg [vI 0,.nils,.nils,.nils]),oR true 1 eI p1.First,.refs 5 (eF eI x7),.row false false false false 1 ((famRefs 6 0 (eF eI (List.set x14 (zt (Int.tmod (zw (p0.S)) (zn x14))) ([]:List Int)))).set (zt (Int.tmod (zw (p0.S)) (zn x14))) (.ref 7 0 a43.length)),.fam 1 true (eF eI x7),.fam 1 true (eF eI (List.set x14 (zt (Int.tmod (zw (p0.S)) (zn x14))) ([]:List Int))),oR true 1 eI a43],123⟩) (by simp only [List.length_set]) ?_
  refine idxS (enc:=eI) (ls:=(List.set x14 (zt (Int.tmod (zw (p0.S)) (zn x14))) ([]:List Int))) (x:=([]:List Int)) (n:=Int.tmod (zw (p0.S)) (zn x14)) (ob:=4) (j:=6) (m:=7) (q:=a43.length) kr kr (lkI_set ([]:List Int) q44) gE ?_
  refine loadS (enc:=eI) (ls:=(List.set x14 (zt (Int.tmod (zw (p0.S)) (zn x14))) ([]:List Int))) (x:=([]:List Int)) (n:=Int.tmod (zw (p0.S)) (zn x14)) (ob:=4) (j:=6) (m:=7) (q:=a43.length) kr kr (lkI_set ([]:List Int) q44) gE ?_
  refine sgL false [] [] true gE ?_
  refine appR (enc:=eI) (l:=a43) (m:=([0]:(List Int))) (w:=1) (bytes:=8) (ob:=7) (nr:=true) (fl:=true) (nr':=true) (fl':=true) (b:=.ref 8 0 1) (rds:=[8]) false kr kr kr rfl gE kr h (fun h=>?_)
  refine idxS (enc:=eI) (ls:=(List.set x14 (zt (Int.tmod (zw (p0.S)) (zn x14))) ([]:List Int))) (x:=([]:List Int)) (n:=Int.tmod (zw (p0.S)) (zn x14)) (ob:=4) (j:=6) (m:=7) (q:=a43.length) kr kr (lkI_set ([]:List Int) q44) gE ?_
  refine storeS2 (enc:=eI) (ls:=(List.set x14 (zt (Int.tmod (zw (p0.S)) (zn x14))) ([]:List Int))) (x:=([]:List Int)) (n:=Int.tmod (zw (p0.S)) (zn x14)) (ob:=4) (j:=6) (m0:=7) (q0:=a43.length) (m:=9) (q:=(a43++([0]:(List Int))).length) (S:=⟨[(3,.ptr 0 0 0),(4,.ptr 1 0 0),(6,vI (zw (p0.S))),(96,.ptr 0 0 3),(97,.ref 4 0 ((List.set x14 (zt (Int.tmod (zw (p0.S)) (zn x14))) ([]:List Int)).length)),(98,vI (zw (p0.S))),(99,.ptr 0 0 3),(100,.ref 4 0 ((List.set x14 (zt (Int.tmod (zw (p0.S)) (zn x14))) ([]:List Int)).length)),(101,vI (((List.set x14 (zt (Int.tmod (zw (p0.S)) (zn x14))) ([]:List Int)).length):Int))]++[(102,vI (Int.tmod (zw (p0.S)) (zn x14))),(103,.ptr 0 0 3),(104,.ref 4 0 ((List.set x14 (zt (Int.tmod (zw (p0.S)) (zn x14))) ([]:List Int)).length)),(105,vI (zw (p0.S))),(106,.ptr 0 0 3),(107,.ref 4 0 ((List.set x14 (zt (Int.tmod (zw (p0.S)) (zn x14))) ([]:List Int)).length)),(108,vI (((List.set x14 (zt (Int.tmod (zw (p0.S)) (zn x14))) ([]:List Int)).length):Int)),(109,vI (Int.tmod (zw (p0.S)) (zn x14))),(110,.ptr 4 (zt (Int.tmod (zw (p0.S)) (zn x14))) 0),(111,.ref 7 0 a43.length),(112,.ref 8 0 1),(113,.ref 9 0 ((a43++([0]:(List Int))).length)),(114,.ptr 4 (zt (Int.tmod (zw (p0.S)) (zn x14))) 0)],[oX false false 4 (.agg [vI p1.Grain,.ref 2 0 p1.First.length,.ref 3 0 x7.length,.ref 4 0 ((List.set x14 (zt (Int.tmod (zw (p0.S)) (zn x14))) ([]:List Int)).length)]),oX true false 4 (.agg [vI 0,.nils,.nils,.nils]),oR true 1 eI p1.First,.refs 5 (eF eI x7),.row false false false false 1 ((famRefs 6 0 (eF eI (List.set x14 (zt (Int.tmod (zw (p0.S)) (zn x14))) ([]:List Int)))).set (zt (Int.tmod (zw (p0.S)) (zn x14))) (.ref 9 0 ((a43++([0]:(List Int))).length))),.fam 1 true (eF eI x7),.fam 1 true (eF eI (List.set x14 (zt (Int.tmod (zw (p0.S)) (zn x14))) ([]:List Int))),.dead,.row false false true true 1 [vI 0],oR true 1 eI (a43++([0]:(List Int)))],123⟩) kr kr (lkI_set ([]:List Int) q44) kr kr kr ?_
  refine rgd ?_
  refine ⟨⟨[(3,.ptr 0 0 0),(4,.ptr 1 0 0),(6,vI (zw (p0.S))),(96,.ptr 0 0 3),(97,.ref 4 0 ((List.set (List.set x14 (zt (Int.tmod (zw (p0.S)) (zn x14))) ([]:List Int)) (zt (Int.tmod (zw (p0.S)) (zn x14))) (a43++([0]:(List Int)))).length)),(98,vI (zw (p0.S))),(99,.ptr 0 0 3),(100,.ref 4 0 ((List.set (List.set x14 (zt (Int.tmod (zw (p0.S)) (zn x14))) ([]:List Int)) (zt (Int.tmod (zw (p0.S)) (zn x14))) (a43++([0]:(List Int)))).length)),(101,vI (((List.set x14 (zt (Int.tmod (zw (p0.S)) (zn x14))) ([]:List Int)).length):Int)),(102,vI (Int.tmod (zw (p0.S)) (zn x14))),(103,.ptr 0 0 3),(104,.ref 4 0 ((List.set (List.set x14 (zt (Int.tmod (zw (p0.S)) (zn x14))) ([]:List Int)) (zt (Int.tmod (zw (p0.S)) (zn x14))) (a43++([0]:(List Int)))).length)),(105,vI (zw (p0.S))),(106,.ptr 0 0 3),(107,.ref 4 0 ((List.set (List.set x14 (zt (Int.tmod (zw (p0.S)) (zn x14))) ([]:List Int)) (zt (Int.tmod (zw (p0.S)) (zn x14))) (a43++([0]:(List Int)))).length)),(108,vI (((List.set x14 (zt (Int.tmod (zw (p0.S)) (zn x14))) ([]:List Int)).length):Int)),(109,vI (Int.tmod (zw (p0.S)) (zn x14))),(110,.ptr 4 (zt (Int.tmod (zw (p0.S)) (zn x14))) 0),(111,.ref 7 0 a43.length),(112,.ref 8 0 1),(114,.ptr 4 (zt (Int.tmod (zw (p0.S)) (zn x14))) 0)],[oX false false 4 (.agg [vI p1.Grain,.ref 2 0 p1.First.length,.ref 3 0 x7.length,.ref 4 0 ((List.set (List.set x14 (zt (Int.tmod (zw (p0.S)) (zn x14))) ([]:List Int)) (zt (Int.tmod (zw (p0.S)) (zn x14))) (a43++([0]:(List Int)))).length)]),oX true false 4 (.agg [vI 0,.nils,.nils,.nils]),oR true 1 eI p1.First,.refs 5 (eF eI x7),.refs 6 (eF eI (List.set (List.set x14 (zt (Int.tmod (zw (p0.S)) (zn x14))) ([]:List Int)) (zt (Int.tmod (zw (p0.S)) (zn x14))) (a43++([0]:(List Int))))),.fam 1 true (eF eI x7),.fam 1 true (eF eI (List.set (List.set x14 (zt (Int.tmod (zw (p0.S)) (zn x14))) ([]:List Int)) (zt (Int.tmod (zw (p0.S)) (zn x14))) (a43++([0]:(List Int))))),.dead,.row false false true true 1 [vI 0],.dead],123⟩,(wk_trans (wk_adopt 4 6 9 (enc:=eI) (ls:=(List.set x14 (zt (Int.tmod (zw (p0.S)) (zn x14))) ([]:List Int))) (x:=([]:List Int)) (b:=(a43++([0]:(List Int)))) (n:=Int.tmod (zw (p0.S)) (zn x14)) [3,4,6,96,97,98,99,100,101,102,103,104,105,106,107,108,109,110,111,112,114] (st':=⟨[(3,.ptr 0 0 0),(4,.ptr 1 0 0),(6,vI (zw (p0.S))),(96,.ptr 0 0 3),(97,.ref 4 0 ((List.set x14 (zt (Int.tmod (zw (p0.S)) (zn x14))) ([]:List Int)).length)),(98,vI (zw (p0.S))),(99,.ptr 0 0 3),(100,.ref 4 0 ((List.set x14 (zt (Int.tmod (zw (p0.S)) (zn x14))) ([]:List Int)).length)),(101,vI (((List.set x14 (zt (Int.tmod (zw (p0.S)) (zn x14))) ([]:List Int)).length):Int))]++[(102,vI (Int.tmod (zw (p0.S)) (zn x14))),(103,.ptr 0 0 3),(104,.ref 4 0 ((List.set x14 (zt (Int.tmod (zw (p0.S)) (zn x14))) ([]:List Int)).length)),(105,vI (zw (p0.S))),(106,.ptr 0 0 3),(107,.ref 4 0 ((List.set x14 (zt (Int.tmod (zw (p0.S)) (zn x14))) ([]:List Int)).length)),(108,vI (((List.set x14 (zt (Int.tmod (zw (p0.S)) (zn x14))) ([]:List Int)).length):Int)),(109,vI (Int.tmod (zw (p0.S)) (zn x14))),(110,.ptr 4 (zt (Int.tmod (zw (p0.S)) (zn x14))) 0),(111,.ref 7 0 a43.length),(112,.ref 8 0 1),(114,.ptr 4 (zt (Int.tmod (zw (p0.S)) (zn x14))) 0)],[oX false false 4 (.agg [vI p1.Grain,.ref 2 0 p1.First.length,.ref 3 0 x7.length,.ref 4 0 ((List.set x14 (zt (Int.tmod (zw (p0.S)) (zn x14))) ([]:List Int)).length)]),oX true false 4 (.agg [vI 0,.nils,.nils,.nils]),oR true 1 eI p1.First,.refs 5 (eF eI x7),.refs 6 (eF eI (List.set (List.set x14 (zt (Int.tmod (zw (p0.S)) (zn x14))) ([]:List Int)) (zt (Int.tmod (zw (p0.S)) (zn x14))) (a43++([0]:(List Int))))),.fam 1 true (eF eI x7),.fam 1 true (eF eI (List.set (List.set x14 (zt (Int.tmod (zw (p0.S)) (zn x14))) ([]:List Int)) (zt (Int.tmod (zw (p0.S)) (zn x14))) (a43++([0]:(List Int))))),.dead,.row false false true true 1 [vI 0],.dead],123⟩) rfl rfl rfl (lkI_set ([]:List Int) q44) (by kernel_rfl) (by kernel_rfl)) (wk_eq (congrArg (fun n47=>(⟨[(3,.ptr 0 0 0),(4,.ptr 1 0 0),(6,vI (zw (p0.S))),(96,.ptr 0 0 3),(97,.ref 4 0 n47),(98,vI (zw (p0.S))),(99,.ptr 0 0 3),(100,.ref 4 0 n47),(101,vI (((List.set x14 (zt (Int.tmod (zw (p0.S)) (zn x14))) ([]:List Int)).length):Int)),(102,vI (Int.tmod (zw (p0.S)) (zn x14))),(103,.ptr 0 0 3),(104,.ref 4 0 n47),(105,vI (zw (p0.S))),(106,.ptr 0 0 3),(107,.ref 4 0 n47),(108,vI (((List.set x14 (zt (Int.tmod (zw (p0.S)) (zn x14))) ([]:List Int)).length):Int)),(109,vI (Int.tmod (zw (p0.S)) (zn x14))),(110,.ptr 4 (zt (Int.tmod (zw (p0.S)) (zn x14))) 0),(111,.ref 7 0 a43.length),(112,.ref 8 0 1),(114,.ptr 4 (zt (Int.tmod (zw (p0.S)) (zn x14))) 0)],[oX false false 4 (.agg [vI p1.Grain,.ref 2 0 p1.First.length,.ref 3 0 x7.length,.ref 4 0 n47]),oX true false 4 (.agg [vI 0,.nils,.nils,.nils]),oR true 1 eI p1.First,.refs 5 (eF eI x7),.refs 6 (eF eI (List.set (List.set x14 (zt (Int.tmod (zw (p0.S)) (zn x14))) ([]:List Int)) (zt (Int.tmod (zw (p0.S)) (zn x14))) (a43++([0]:(List Int))))),.fam 1 true (eF eI x7),.fam 1 true (eF eI (List.set (List.set x14 (zt (Int.tmod (zw (p0.S)) (zn x14))) ([]:List Int)) (zt (Int.tmod (zw (p0.S)) (zn x14))) (a43++([0]:(List Int))))),.dead,.row false false true true 1 [vI 0],.dead],123⟩:St)) (show (List.set x14 (zt (Int.tmod (zw (p0.S)) (zn x14))) ([]:List Int)).length=(List.set (List.set x14 (zt (Int.tmod (zw (p0.S)) (zn x14))) ([]:List Int)) (zt (Int.tmod (zw (p0.S)) (zn x14))) (a43++([0]:(List Int)))).length by simp only [List.length_set])))),?_⟩
  refine wp_seq (wg [3,4] [0,1,2,3,4,5,6] ?_)
  refine wp_post ?_
  refine rn ?_
  refine ⟨_,wk_refl,?_⟩
  refine wgc [4] [1,2,3,4,5,6] ⟨[(4,.ptr 0 0 0)],[oX false false 4 (.agg [vI p1.Grain,.ref 1 0 p1.First.length,.ref 2 0 x7.length,.ref 3 0 ((List.set (List.set x14 (zt (Int.tmod (zw (p0.S)) (zn x14))) ([]:List Int)) (zt (Int.tmod (zw (p0.S)) (zn x14))) (a43++([0]:(List Int)))).length)]),oR true 1 eI p1.First,.refs 4 (eF eI x7),.refs 5 (eF eI (List.set (List.set x14 (zt (Int.tmod (zw (p0.S)) (zn x14))) ([]:List Int)) (zt (Int.tmod (zw (p0.S)) (zn x14))) (a43++([0]:(List Int))))),.fam 1 true (eF eI x7),.fam 1 true (eF eI (List.set (List.set x14 (zt (Int.tmod (zw (p0.S)) (zn x14))) ([]:List Int)) (zt (Int.tmod (zw (p0.S)) (zn x14))) (a43++([0]:(List Int)))))],123⟩ ?_
  refine wp_wk (wk_frzF 2 4 (enc:=eI) (ls:=x7) (st':=⟨[(4,.ptr 0 0 0)],[oX false false 4 (.agg [vI p1.Grain,.ref 1 0 p1.First.length,.ref 2 0 x7.length,.ref 3 0 ((List.set (List.set x14 (zt (Int.tmod (zw (p0.S)) (zn x14))) ([]:List Int)) (zt (Int.tmod (zw (p0.S)) (zn x14))) (a43++([0]:(List Int)))).length)]),oR true 1 eI p1.First,oR false 1 z1 x7,.refs 5 (eF eI (List.set (List.set x14 (zt (Int.tmod (zw (p0.S)) (zn x14))) ([]:List Int)) (zt (Int.tmod (zw (p0.S)) (zn x14))) (a43++([0]:(List Int))))),.dead,.fam 1 true (eF eI (List.set (List.set x14 (zt (Int.tmod (zw (p0.S)) (zn x14))) ([]:List Int)) (zt (Int.tmod (zw (p0.S)) (zn x14))) (a43++([0]:(List Int)))))],123⟩) rfl rfl kr) ?_
  refine wp_wk (wk_frzF 3 5 (enc:=eI) (ls:=(List.set (List.set x14 (zt (Int.tmod (zw (p0.S)) (zn x14))) ([]:List Int)) (zt (Int.tmod (zw (p0.S)) (zn x14))) (a43++([0]:(List Int))))) (st':=⟨[(4,.ptr 0 0 0)],[oX false false 4 (.agg [vI p1.Grain,.ref 1 0 p1.First.length,.ref 2 0 x7.length,.ref 3 0 ((List.set (List.set x14 (zt (Int.tmod (zw (p0.S)) (zn x14))) ([]:List Int)) (zt (Int.tmod (zw (p0.S)) (zn x14))) (a43++([0]:(List Int)))).length)]),oR true 1 eI p1.First,oR false 1 z1 x7,oR false 1 z1 (List.set (List.set x14 (zt (Int.tmod (zw (p0.S)) (zn x14))) ([]:List Int)) (zt (Int.tmod (zw (p0.S)) (zn x14))) (a43++([0]:(List Int)))),.dead,.dead],123⟩) rfl rfl kr) ?_
  refine wp_wk (wk_snapO 0 0 (st':=⟨[(4,.ptr 0 0 0)],[oX false false 4 (.agg [vI p1.Grain,z1 p1.First,z2 x7,z2 (List.set (List.set x14 (zt (Int.tmod (zw (p0.S)) (zn x14))) ([]:List Int)) (zt (Int.tmod (zw (p0.S)) (zn x14))) (a43++([0]:(List Int))))]),.row false true true true 1 (List.map eI p1.First),.row false true true false 1 (List.map z1 x7),.row false true true false 1 (List.map z1 (List.set (List.set x14 (zt (Int.tmod (zw (p0.S)) (zn x14))) ([]:List Int)) (zt (Int.tmod (zw (p0.S)) (zn x14))) (a43++([0]:(List Int))))),.dead,.dead],123⟩) (y:=.agg [vI p1.Grain,z1 p1.First,z2 x7,z2 (List.set (List.set x14 (zt (Int.tmod (zw (p0.S)) (zn x14))) ([]:List Int)) (zt (Int.tmod (zw (p0.S)) (zn x14))) (a43++([0]:(List Int))))]) (ids:=[1,2,3]) rfl rfl rfl (snap_agg (msnap_cons rfl (msnap_cons (snap_full (w:=1) (bx:=false) (ro:=false) kr) (msnap_cons (snap_full (w:=1) (bx:=false) (ro:=false) kr) (msnap_cons (snap_full (w:=1) (bx:=false) (ro:=false) kr) msnap_nil (by rfl)) (by rfl)) (by rfl)) (by rfl))) kr) ?_
  cases h
  exact wp_ret (show fnOut _ _ _ _=_ from by kernel_rfl)
 refine wp_seq (wg [3,4,31] [0,1,2,3,4,5,6] (rn ?_))
 refine wb [116,115] h (fun q49 h=>?_) (fun q49 h=>?_)
 ·refine wcT ?_
  refine wp_post ?_
  refine reg_in (sz 2 2 ?_)
  refine sgL false [] [] true gE ?_
  refine appR (enc:=eI) (l:=p1.First) (m:=([0]:(List Int))) (w:=1) (bytes:=8) (ob:=2) (nr:=true) (fl:=true) (nr':=true) (fl':=true) (b:=.ref 7 0 1) (rds:=[7]) false kr kr kr rfl gE kr h (fun h=>?_)
  refine sz 2 6 (reg_end rfl ?_)
  refine ⟨_,wk_refl,?_⟩
  refine wp_seq ?_
  refine wgc [3,4] [0,1,8,3,4,5,6] ⟨[(3,.ptr 0 0 0),(4,.ptr 1 0 0)],[oX false false 4 (.agg [vI p1.Grain,.ref 2 0 ((p1.First++([0]:(List Int))).length),.ref 3 0 x7.length,.ref 4 0 x14.length]),oX true false 4 (.agg [vI 0,.nils,.nils,.nils]),oR true 1 eI (p1.First++([0]:(List Int))),.refs 5 (eF eI x7),.refs 6 (eF eI x14),.fam 1 true (eF eI x7),.fam 1 true (eF eI x14)],123⟩ ?_
  refine wp_post ?_
  refine rn ?_
  refine ⟨_,wk_refl,?_⟩
  refine wgc [4] [1,2,3,4,5,6] ⟨[(4,.ptr 0 0 0)],[oX false false 4 (.agg [vI p1.Grain,.ref 1 0 ((p1.First++([0]:(List Int))).length),.ref 2 0 x7.length,.ref 3 0 x14.length]),oR true 1 eI (p1.First++([0]:(List Int))),.refs 4 (eF eI x7),.refs 5 (eF eI x14),.fam 1 true (eF eI x7),.fam 1 true (eF eI x14)],123⟩ ?_
  refine wp_wk (wk_frzF 2 4 (enc:=eI) (ls:=x7) (st':=⟨[(4,.ptr 0 0 0)],[oX false false 4 (.agg [vI p1.Grain,.ref 1 0 ((p1.First++([0]:(List Int))).length),.ref 2 0 x7.length,.ref 3 0 x14.length]),oR true 1 eI (p1.First++([0]:(List Int))),oR false 1 z1 x7,.refs 5 (eF eI x14),.dead,.fam 1 true (eF eI x14)],123⟩) rfl rfl kr) ?_
  refine wp_wk (wk_frzF 3 5 (enc:=eI) (ls:=x14) (st':=⟨[(4,.ptr 0 0 0)],[oX false false 4 (.agg [vI p1.Grain,.ref 1 0 ((p1.First++([0]:(List Int))).length),.ref 2 0 x7.length,.ref 3 0 x14.length]),oR true 1 eI (p1.First++([0]:(List Int))),oR false 1 z1 x7,oR false 1 z1 x14,.dead,.dead],123⟩) rfl rfl kr) ?_
  refine wp_wk (wk_snapO 0 0 (st':=⟨[(4,.ptr 0 0 0)],[oX false false 4 (.agg [vI p1.Grain,z1 (p1.First++([0]:(List Int))),z2 x7,z2 x14]),.row false true true true 1 (List.map eI (p1.First++([0]:(List Int)))),.row false true true false 1 (List.map z1 x7),.row false true true false 1 (List.map z1 x14),.dead,.dead],123⟩) (y:=.agg [vI p1.Grain,z1 (p1.First++([0]:(List Int))),z2 x7,z2 x14]) (ids:=[1,2,3]) rfl rfl rfl (snap_agg (msnap_cons rfl (msnap_cons (snap_full (w:=1) (bx:=false) (ro:=false) kr) (msnap_cons (snap_full (w:=1) (bx:=false) (ro:=false) kr) (msnap_cons (snap_full (w:=1) (bx:=false) (ro:=false) kr) msnap_nil (by rfl)) (by rfl)) (by rfl)) (by rfl))) kr) ?_
  cases h
  exact wp_ret (show fnOut _ _ _ _=_ from by kernel_rfl)
 refine wcF ?_
 refine wp_post ?_
 refine rn ?_
 refine ⟨_,wk_refl,?_⟩
 refine wp_seq ?_
 refine wp_post ?_
 refine rn ?_
 refine ⟨_,wk_refl,?_⟩
 refine wgc [4] [1,2,3,5] ⟨[(4,.ptr 0 0 0)],[oX false false 4 (.agg [vI p1.Grain,.ref 1 0 p1.First.length,.ref 2 0 x7.length,.nils]),oR true 1 eI p1.First,.refs 3 (eF eI x7),.fam 1 true (eF eI x7)],123⟩ ?_
 refine wp_wk (wk_frzF 2 3 (enc:=eI) (ls:=x7) (st':=⟨[(4,.ptr 0 0 0)],[oX false false 4 (.agg [vI p1.Grain,.ref 1 0 p1.First.length,.ref 2 0 x7.length,.nils]),oR true 1 eI p1.First,oR false 1 z1 x7,.dead],123⟩) rfl rfl kr) ?_
 refine wp_wk (wk_snapO 0 0 (st':=⟨[(4,.ptr 0 0 0)],[oX false false 4 (.agg [vI p1.Grain,z1 p1.First,z2 x7,.nils]),.row false true true true 1 (List.map eI p1.First),.row false true true false 1 (List.map z1 x7),.dead],123⟩) (y:=.agg [vI p1.Grain,z1 p1.First,z2 x7,.nils]) (ids:=[1,2]) rfl rfl rfl (snap_agg (msnap_cons rfl (msnap_cons (snap_full (w:=1) (bx:=false) (ro:=false) kr) (msnap_cons (snap_full (w:=1) (bx:=false) (ro:=false) kr) (msnap_cons rfl msnap_nil (by rfl)) (by rfl)) (by rfl)) (by rfl))) kr) ?_
 cases h
 exact wp_ret (show fnOut _ _ _ _=_ from by kernel_rfl)
noncomputable abbrev s56_5 (p0:Tapi_Hidden):List AObj:=[oX true false 4 (.agg [vI p0.Grain,z1 p0.First,z2 p0.Step,z2 p0.Show]),oX true false 4 (.agg [vI 0,.nils,.nils,.nils]),oX true false 4 (.agg [vI p0.Grain,z1 (sub p0.First 0 (if 6 < (zn p0.First) then 6 else (zn p0.First))),.nils,.nils])]
noncomputable abbrev s56_7 (p0:Tapi_Hidden):List (Nat × AV):=[(1,.ptr 0 0 0),(2,.ptr 1 0 0),(3,.ptr 2 0 0),(24,z2 (sub p0.Step 0 (if 6 < (zn p0.Step) then 6 else (zn p0.Step)))),(25,vI ((sub p0.Step 0 (if 6 < (zn p0.Step) then 6 else (zn p0.Step))).length:Int)),(26,vI 0)]
noncomputable abbrev s56_13 (p0:Tapi_Hidden) (s1:(Int × (List (List Int)))):List (Nat × AV):=[(1,.ptr 0 0 0),(2,.ptr 1 0 0),(3,.ptr 2 0 0),(24,z2 (sub p0.Step 0 (if 6 < (zn p0.Step) then 6 else (zn p0.Step)))),(25,vI ((sub p0.Step 0 (if 6 < (zn p0.Step) then 6 else (zn p0.Step))).length:Int)),(26,vI s1.1)]
noncomputable abbrev s56_27 (p0:Tapi_Hidden):List (Nat × AV):=[(2,.ptr 0 0 0),(3,.ptr 1 0 0),(47,z2 (sub p0.Show 0 (if 6 < (zn p0.Show) then 6 else (zn p0.Show)))),(48,vI ((sub p0.Show 0 (if 6 < (zn p0.Show) then 6 else (zn p0.Show))).length:Int)),(49,vI 0)]
noncomputable abbrev s56_34 (p0:Tapi_Hidden) (s8:(Int × (List (List Int)))):List (Nat × AV):=[(2,.ptr 0 0 0),(3,.ptr 1 0 0),(47,z2 (sub p0.Show 0 (if 6 < (zn p0.Show) then 6 else (zn p0.Show)))),(48,vI ((sub p0.Show 0 (if 6 < (zn p0.Show) then 6 else (zn p0.Show))).length:Int)),(49,vI s8.1)]
theorem g_law17_few_ok (p0:Tapi_Hidden) (x:Tapi_Hidden) (h:g_law17_few p0=some x):CallOk Try.prog 56 [.agg [vI p0.Grain,z1 p0.First,z2 p0.Step,z2 p0.Show]] (.ret (.agg [vI x.Grain,z1 x.First,z2 x.Step,z2 x.Show]) []):=by
 refine fn_ok [[.keep,.lst true,.lst false,.lst false]] Try.func56 rfl (by decide +kernel) rfl ?_
 unfold g_law17_few at h
 refine wp_eqB (base':=0) (st':=⟨[(0,.agg [vI p0.Grain,z1 p0.First,z2 p0.Step,z2 p0.Show])],[],65⟩) kr kr ?_
 refine wp_seq (reg_in ?_)
 refine sgL false [] [] false gE ?_
 refine sgL false [] [] false gE ?_
 refine reg_end rfl (wp_seq (rga hfol (sy 6 6 ?_)))
 refine lenL (enc:=eI) (l:=p0.First) (fl:=true) kr gE ?_
 refine sy 1 8 ?_
 refine sliceL (enc:=eI) (l:=p0.First) (fl:=true) (lo:=none) (hi:=(some (vI (if 6 < (zn p0.First) then 6 else (zn p0.First))))) (a:=0) (b:=(if 6 < (zn p0.First) then 6 else (zn p0.First))) (w:=1) kr (fun _=>rfl) rfl rfl gE h (fun h=>?_)
 refine sy 1 10 ?_
 refine sgL false [] [] false gE ?_
 refine sy 1 12 (rgd (wp_seq (wp_seq ?_)))
 refine wgc [1,2,3] [0,1,2] ⟨[(1,.ptr 0 0 0),(2,.ptr 1 0 0),(3,.ptr 2 0 0)],(s56_5 p0),65⟩ ?_
 refine reg_in (sz 4 4 ?_)
 refine lenL (enc:=z1) (l:=p0.Step) (fl:=false) kr gE ?_
 refine sz 1 6 ?_
 refine sliceL (enc:=z1) (l:=p0.Step) (fl:=false) (lo:=none) (hi:=(some (vI (if 6 < (zn p0.Step) then 6 else (zn p0.Step))))) (a:=0) (b:=(if 6 < (zn p0.Step) then 6 else (zn p0.Step))) (w:=1) kr (fun _=>rfl) rfl rfl gE h (fun h=>?_)
 refine lenL (enc:=z1) (l:=(sub p0.Step 0 (if 6 < (zn p0.Step) then 6 else (zn p0.Step)))) (fl:=false) kr gE ?_
 refine sz 1 9 (reg_end rfl (wp_block ?_))
 refine wwh h (fun s1=>⟨(s56_13 p0 s1),[oX true false 4 (.agg [vI p0.Grain,z1 p0.First,z2 p0.Step,z2 p0.Show]),oX true false 4 (.agg [vI 0,.nils,.nils,.nils]),oX false false 4 (.agg [vI p0.Grain,z1 (sub p0.First 0 (if 6 < (zn p0.First) then 6 else (zn p0.First))),.ref 3 0 s1.2.length,.nils]),oR false 1 z1 s1.2],65⟩) (fun v out=>out=.go (.exit 0) ⟨[(1,.ptr 0 0 0),(2,.ptr 1 0 0),(3,.ptr 2 0 0)],[oX true false 4 (.agg [vI p0.Grain,z1 p0.First,z2 p0.Step,z2 p0.Show]),oX true false 4 (.agg [vI 0,.nils,.nils,.nils]),oX false false 4 (.agg [vI p0.Grain,z1 (sub p0.First 0 (if 6 < (zn p0.First) then 6 else (zn p0.First))),.ref 3 0 v.length,.nils]),oR false 1 z1 v],65⟩) (wk_trans (wk_gc (live:=[1,2,3,24,25,26]) (keep:=[0,1,2]) (st':=⟨(s56_7 p0),(s56_5 p0),65⟩) kr) (wk_trans (wk_nilO 2 0 2 1 true false (st':=⟨(s56_7 p0),[oX true false 4 (.agg [vI p0.Grain,z1 p0.First,z2 p0.Step,z2 p0.Show]),oX true false 4 (.agg [vI 0,.nils,.nils,.nils]),oX false false 4 (.agg [vI p0.Grain,z1 (sub p0.First 0 (if 6 < (zn p0.First) then 6 else (zn p0.First))),.ref 3 0 0,.nils]),.row false false true false 1 []],65⟩) kr) (wk_gc (live:=[1,2,3,24,25,26]) (keep:=[0,1,2,3]) kr))) ?_ ?_
 ·intro s1 o h
  unfold g_law17_few_b0 at h
  refine sq (wp_seq ?_)
  refine wb [27] h (fun q3 h=>?_) (fun q3 h=>?_)
  ·refine wcT (wp_skip (wp_seq (wp_block (wp_seq (reg_in ?_)))))
   refine bind_elim h (fun a4 q5 h=>?_)
   refine idxL' (enc:=z1) (l:=(sub p0.Step 0 (if 6 < (zn p0.Step) then 6 else (zn p0.Step)))) (n:=s1.1) (fl:=false) (w:=1) (a:=a4) kr rfl gE q5 ?_
   refine sz 2 3 (reg_end rfl (rga hfol (sy 4 4 ?_)))
   refine lenL (enc:=eI) (l:=a4) (fl:=true) kr gE ?_
   refine sy 1 6 ?_
   refine sliceL (enc:=eI) (l:=a4) (fl:=true) (lo:=none) (hi:=(some (vI (if 6 < (zn a4) then 6 else (zn a4))))) (a:=0) (b:=(if 6 < (zn a4) then 6 else (zn a4))) (w:=1) kr (fun _=>rfl) rfl rfl gE h (fun h=>?_)
   refine sgL false [] [.lst true] false gE ?_
   refine appR (enc:=z1) (l:=s1.2) (m:=([(sub a4 0 (if 6 < (zn a4) then 6 else (zn a4)))]:(List (List Int)))) (w:=1) (bytes:=24) (ob:=3) (nr:=true) (fl:=false) (nr':=true) (fl':=false) (b:=.ref 4 0 1) (rds:=[4]) false kr kr kr rfl gE kr h (fun h=>?_)
   refine sy 2 11 (rgd ?_)
   refine wgc [1,2,3,24,25,26] [0,1,2,5] ⟨(s56_13 p0 s1),[oX true false 4 (.agg [vI p0.Grain,z1 p0.First,z2 p0.Step,z2 p0.Show]),oX true false 4 (.agg [vI 0,.nils,.nils,.nils]),oX false false 4 (.agg [vI p0.Grain,z1 (sub p0.First 0 (if 6 < (zn p0.First) then 6 else (zn p0.First))),.ref 3 0 ((s1.2++([(sub a4 0 (if 6 < (zn a4) then 6 else (zn a4)))]:(List (List Int)))).length),.nils]),oR false 1 z1 (s1.2++([(sub a4 0 (if 6 < (zn a4) then 6 else (zn a4)))]:(List (List Int))))],65⟩ ?_
   refine rn ?_
   cases h
   exact ⟨_,rfl,(wk_gc (live:=[1,2,3,24,25,26]) (keep:=[0,1,2,3]) kr)⟩
  refine wcF (wg [1,2,3] [0,1,2,3] ?_)
  refine wp_exit ?_
  cases h
  exact ⟨kr,rfl⟩
 intro x7 h out hx
 subst hx
 refine wp_seq (wp_seq (reg_in (sz 4 4 ?_)))
 refine lenL (enc:=z1) (l:=p0.Show) (fl:=false) kr gE ?_
 refine sz 1 6 ?_
 refine sliceL (enc:=z1) (l:=p0.Show) (fl:=false) (lo:=none) (hi:=(some (vI (if 6 < (zn p0.Show) then 6 else (zn p0.Show))))) (a:=0) (b:=(if 6 < (zn p0.Show) then 6 else (zn p0.Show))) (w:=1) kr (fun _=>rfl) rfl rfl gE h (fun h=>?_)
 refine lenL (enc:=z1) (l:=(sub p0.Show 0 (if 6 < (zn p0.Show) then 6 else (zn p0.Show)))) (fl:=false) kr gE ?_
 refine sz 1 9 (reg_end rfl (wp_block ?_))
 refine wwh h (fun s8=>⟨(s56_34 p0 s8),[oX true false 4 (.agg [vI 0,.nils,.nils,.nils]),oX false false 4 (.agg [vI p0.Grain,z1 (sub p0.First 0 (if 6 < (zn p0.First) then 6 else (zn p0.First))),.ref 2 0 x7.length,.ref 3 0 s8.2.length]),oR false 1 z1 x7,oR false 1 z1 s8.2],65⟩) (fun v out=>out=.go (.exit 2) ⟨[(2,.ptr 0 0 0),(3,.ptr 1 0 0)],[oX true false 4 (.agg [vI 0,.nils,.nils,.nils]),oX false false 4 (.agg [vI p0.Grain,z1 (sub p0.First 0 (if 6 < (zn p0.First) then 6 else (zn p0.First))),.ref 2 0 x7.length,.ref 3 0 v.length]),oR false 1 z1 x7,oR false 1 z1 v],65⟩) (wk_trans (wk_gc (live:=[2,3,47,48,49]) (keep:=[1,2,3]) (st':=⟨(s56_27 p0),[oX true false 4 (.agg [vI 0,.nils,.nils,.nils]),oX false false 4 (.agg [vI p0.Grain,z1 (sub p0.First 0 (if 6 < (zn p0.First) then 6 else (zn p0.First))),.ref 2 0 x7.length,.nils]),oR false 1 z1 x7],65⟩) kr) (wk_trans (wk_nilO 1 0 3 1 true false (st':=⟨(s56_27 p0),[oX true false 4 (.agg [vI 0,.nils,.nils,.nils]),oX false false 4 (.agg [vI p0.Grain,z1 (sub p0.First 0 (if 6 < (zn p0.First) then 6 else (zn p0.First))),.ref 2 0 x7.length,.ref 3 0 0]),oR false 1 z1 x7,.row false false true false 1 []],65⟩) kr) (wk_gc (live:=[2,3,47,48,49]) (keep:=[0,1,2,3]) kr))) ?_ ?_
 ·intro s8 o h
  unfold g_law17_few_b1 at h
  refine sq (wp_seq ?_)
  refine wb [50] h (fun q10 h=>?_) (fun q10 h=>?_)
  ·refine wcT (wp_skip (wp_seq (wp_block (wp_seq (reg_in ?_)))))
   refine bind_elim h (fun a11 q12 h=>?_)
   refine idxL' (enc:=z1) (l:=(sub p0.Show 0 (if 6 < (zn p0.Show) then 6 else (zn p0.Show)))) (n:=s8.1) (fl:=false) (w:=1) (a:=a11) kr rfl gE q12 ?_
   refine sz 2 3 (reg_end rfl (rga hfol (sy 4 4 ?_)))
   refine lenL (enc:=eI) (l:=a11) (fl:=true) kr gE ?_
   refine sy 1 6 ?_
   refine sliceL (enc:=eI) (l:=a11) (fl:=true) (lo:=none) (hi:=(some (vI (if 6 < (zn a11) then 6 else (zn a11))))) (a:=0) (b:=(if 6 < (zn a11) then 6 else (zn a11))) (w:=1) kr (fun _=>rfl) rfl rfl gE h (fun h=>?_)
   refine sgL false [] [.lst true] false gE ?_
   refine appR (enc:=z1) (l:=s8.2) (m:=([(sub a11 0 (if 6 < (zn a11) then 6 else (zn a11)))]:(List (List Int)))) (w:=1) (bytes:=24) (ob:=3) (nr:=true) (fl:=false) (nr':=true) (fl':=false) (b:=.ref 4 0 1) (rds:=[4]) false kr kr kr rfl gE kr h (fun h=>?_)
   refine sy 2 11 (rgd ?_)
   refine wgc [2,3,47,48,49] [0,1,2,5] ⟨(s56_34 p0 s8),[oX true false 4 (.agg [vI 0,.nils,.nils,.nils]),oX false false 4 (.agg [vI p0.Grain,z1 (sub p0.First 0 (if 6 < (zn p0.First) then 6 else (zn p0.First))),.ref 2 0 x7.length,.ref 3 0 ((s8.2++([(sub a11 0 (if 6 < (zn a11) then 6 else (zn a11)))]:(List (List Int)))).length)]),oR false 1 z1 x7,oR false 1 z1 (s8.2++([(sub a11 0 (if 6 < (zn a11) then 6 else (zn a11)))]:(List (List Int))))],65⟩ ?_
   refine rn ?_
   cases h
   exact ⟨_,rfl,(wk_gc (live:=[2,3,47,48,49]) (keep:=[0,1,2,3]) kr)⟩
  refine wcF (wg [2,3] [0,1,2,3] ?_)
  refine wp_exit ?_
  cases h
  exact ⟨kr,rfl⟩
 intro x14 h out hx
 subst hx
 refine sq ?_
 refine wgc [2] [0,2,3] ⟨[(2,.ptr 0 0 0)],[oX false false 4 (.agg [vI p0.Grain,z1 (sub p0.First 0 (if 6 < (zn p0.First) then 6 else (zn p0.First))),.ref 1 0 x7.length,.ref 2 0 x14.length]),oR false 1 z1 x7,oR false 1 z1 x14],65⟩ ?_
 refine wp_wk (wk_snapO 0 0 (st':=⟨[(2,.ptr 0 0 0)],[oX false false 4 (.agg [vI p0.Grain,z1 (sub p0.First 0 (if 6 < (zn p0.First) then 6 else (zn p0.First))),z2 x7,z2 x14]),.row false true true false 1 (List.map z1 x7),.row false true true false 1 (List.map z1 x14)],65⟩) (y:=.agg [vI p0.Grain,z1 (sub p0.First 0 (if 6 < (zn p0.First) then 6 else (zn p0.First))),z2 x7,z2 x14]) (ids:=[1,2]) rfl rfl rfl (snap_agg (msnap_cons rfl (msnap_cons rfl (msnap_cons (snap_full (w:=1) (bx:=false) (ro:=false) kr) (msnap_cons (snap_full (w:=1) (bx:=false) (ro:=false) kr) msnap_nil (by rfl)) (by rfl)) (by rfl)) (by rfl))) kr) ?_
 cases h
 exact wp_ret (show fnOut _ _ _ _=_ from by kernel_rfl)
theorem g_law17_chains_ok (p0:Tharuspexref17_Draft) (p1:Tharuspexref17_Bend) (p2:Tapi_Hidden) (x:(Tapi_Hidden × Tapi_Hidden × Tapi_Hidden)) (h:g_law17_chains p0 p1 p2=some x):CallOk Try.prog 12 [.agg [.int .u8 p0.Grain,.int .u8 p0.States,.int .u8 p0.Shows,eL true (AV.int .u8) p0.L,eL true (AV.int .u8) p0.Seen],.agg [.int .u8 p1.What,.int .u8 p1.S,.int .u8 p1.At,vI p1.N],.agg [vI p2.Grain,z1 p2.First,z2 p2.Step,z2 p2.Show]] (.ret (.agg [vI x.1.Grain,z1 x.1.First,z2 x.1.Step,z2 x.1.Show,vI x.2.1.Grain,z1 x.2.1.First,z2 x.2.1.Step,z2 x.2.1.Show,vI x.2.2.Grain,z1 x.2.2.First,z2 x.2.2.Step,z2 x.2.2.Show]) []):=by
 refine fn_ok [[.keep,.lst true,.lst false,.lst false,.keep,.lst true,.lst false,.lst false,.keep,.lst true,.lst false,.lst false]] Try.func12 rfl (by decide +kernel) rfl ?_
 unfold g_law17_chains at h
 refine wp_eqB (base':=0) (st':=⟨[(0,.agg [.int .u8 p0.Grain,.int .u8 p0.States,.int .u8 p0.Shows,eL true (AV.int .u8) p0.L,eL true (AV.int .u8) p0.Seen]),(1,.agg [.int .u8 p1.What,.int .u8 p1.S,.int .u8 p1.At,vI p1.N]),(2,.agg [vI p2.Grain,z1 p2.First,z2 p2.Step,z2 p2.Show])],[],17⟩) kr kr ?_
 refine wp_seq (reg_in ?_)
 refine sgL false [] [] false gE ?_
 refine sz 1 2 ?_
 refine sgL false [] [] false gE ?_
 refine sgL false [] [] false gE ?_
 refine reg_end rfl (wp_seq (reg_in (sz 1 1 ?_)))
 refine callW bodyB_25 (g_ref17_Draft_Hidden_ok p0) h (fun x1 _ h=>?_)
 refine sgL false [] [] false gE ?_
 refine sz 1 4 (reg_end rfl (wp_seq (wg [4,5,6,7] [1,2,3,7,4,5,6] (rga hfol (sy 3 3 ?_)))))
 refine callR (as0:=[.agg [.int .u8 p1.What,.int .u8 p1.S,.int .u8 p1.At,vI p1.N],.agg [vI x1.Grain,.ref 4 0 x1.First.length,.ref 5 0 x1.Step.length,.ref 6 0 x1.Show.length]]) (ids:=[4,5,6]) kr bodyB_55 (msnap_cons (snap_agg (msnap_cons rfl (msnap_cons rfl (msnap_cons rfl (msnap_cons rfl msnap_nil (by rfl)) (by rfl)) (by rfl)) (by rfl))) (msnap_cons (snap_agg (msnap_cons rfl (msnap_cons (snap_full (w:=1) (bx:=false) (ro:=false) kr) (msnap_cons (snap_full (w:=1) (bx:=false) (ro:=false) kr) (msnap_cons (snap_full (w:=1) (bx:=false) (ro:=false) kr) msnap_nil (by rfl)) (by rfl)) (by rfl)) (by rfl))) msnap_nil (by rfl)) (by rfl)) (fun x3 q4=>g_ref17_Bend_Of_ok p1 x1 x3 q4) gF h (fun x3 q4 h=>?_)
 refine sy 1 5 ?_
 refine callW bodyB_56 (g_law17_few_ok p2) h (fun x5 _ h=>?_)
 refine sy 2 8 (rgd ?_)
 refine wgc [6] [2,4,5,6] ⟨[(6,.ptr 0 0 0)],[oX false false 12 (.agg [vI x1.Grain,.ref 1 0 x1.First.length,.ref 2 0 x1.Step.length,.ref 3 0 x1.Show.length,vI x3.Grain,z1 x3.First,z2 x3.Step,z2 x3.Show,vI x5.Grain,z1 x5.First,z2 x5.Step,z2 x5.Show]),.row false true true true 1 (List.map eI x1.First),.row false true true false 1 (List.map z1 x1.Step),.row false true true false 1 (List.map z1 x1.Show)],17⟩ ?_
 refine wp_wk (wk_snapO 0 0 (st':=⟨[(6,.ptr 0 0 0)],[oX false false 12 (.agg [vI x1.Grain,z1 x1.First,z2 x1.Step,z2 x1.Show,vI x3.Grain,z1 x3.First,z2 x3.Step,z2 x3.Show,vI x5.Grain,z1 x5.First,z2 x5.Step,z2 x5.Show]),.row false true true true 1 (List.map eI x1.First),.row false true true false 1 (List.map z1 x1.Step),.row false true true false 1 (List.map z1 x1.Show)],17⟩) (y:=.agg [vI x1.Grain,z1 x1.First,z2 x1.Step,z2 x1.Show,vI x3.Grain,z1 x3.First,z2 x3.Step,z2 x3.Show,vI x5.Grain,z1 x5.First,z2 x5.Step,z2 x5.Show]) (ids:=[1,2,3]) rfl rfl rfl (snap_agg (msnap_cons rfl (msnap_cons (snap_full (w:=1) (bx:=false) (ro:=true) kr) (msnap_cons (snap_full (w:=1) (bx:=false) (ro:=true) kr) (msnap_cons (snap_full (w:=1) (bx:=false) (ro:=true) kr) (msnap_cons rfl (msnap_cons rfl (msnap_cons rfl (msnap_cons rfl (msnap_cons rfl (msnap_cons rfl (msnap_cons rfl (msnap_cons rfl msnap_nil (by rfl)) (by rfl)) (by rfl)) (by rfl)) (by rfl)) (by rfl)) (by rfl)) (by rfl)) (by rfl)) (by rfl)) (by rfl)) (by rfl))) kr) ?_
 cases h
 exact wp_ret (show fnOut _ _ _ _=_ from by kernel_rfl)
theorem g_ref17_row_ok (p0:(List Int)) (p1:Int) (p2:Int) (x:Bool) (h:g_ref17_row p0 p1 p2=some x):CallOk Try.prog 59 [z1 p0,vI p1,vI p2] (.ret (vB x) []):=by
 refine fn_ok [] Try.func59 rfl (by decide +kernel) rfl ?_
 unfold g_ref17_row at h
 refine wp_eqB (base':=0) (st':=⟨[(0,z1 p0),(1,vI p1),(2,vI p2)],[],43⟩) kr kr ?_
 refine sq (sq (wp_seq (sq (wp_block ?_))))
 refine wwh h (fun s1=>⟨[(0,z1 p0),(1,vI p1),(2,vI p2),(7,vI s1.1),(8,vI s1.2)],[],43⟩) (fun x out=>out=match x with | .inl v=>.go (.ret) ⟨[(6,vB false)],[],43⟩ | .inr v=>.go (.exit 0) ⟨[(0,z1 p0),(1,vI p1),(2,vI p2),(7,vI v)],[],43⟩) (wk_gc (live:=[0,1,2,7,8]) (keep:=[]) kr) ?_ ?_
 ·intro s1 o h
  unfold g_ref17_row_b0 at h
  refine wp_seq (wp_seq (reg_in (sz 2 2 ?_)))
  refine lenL (enc:=eI) (l:=p0) (fl:=true) kr gE ?_
  refine sz 1 4 (reg_end rfl ?_)
  refine wb [12] h (fun q3 h=>?_) (fun q3 h=>?_)
  ·refine wcT (wp_skip (wp_seq (wp_block (wp_seq (wp_seq (reg_in (sz 2 2 ?_)))))))
   refine bind_elim h (fun a4 q5 h=>?_)
   refine idxL' (enc:=eI) (l:=p0) (n:=s1.2) (fl:=true) (w:=1) (a:=a4) kr rfl gE q5 ?_
   refine sz 3 6 ?_
   refine rw_wk (wk_gc (live:=[0,1,2,7,8,20]) (keep:=[]) (st':=⟨[(0,z1 p0),(1,vI p1),(2,vI p2),(7,vI s1.1),(8,vI s1.2),(20,vB (decide (a4 < 0)))],[],43⟩) kr) ?_
   refine rb [20] h (fun q7 h=>?_) (fun q7 h=>?_)
   ·refine sz 7 13 (reg_end rfl (wcT (wp_seq (wg [] [] (rn (wg [6] [] ?_))))))
    refine wp_ret ?_
    cases h
    exact ⟨kr,rfl⟩
   refine sz 2 8 ?_
   refine idxL' (enc:=eI) (l:=p0) (n:=s1.2) (fl:=true) (w:=1) (a:=a4) kr rfl gE q5 ?_
   refine sz 4 13 (reg_end rfl ?_)
   refine wbz h (fun q9 h=>?_) (fun q9 h=>?_)
   ·refine wp_seq (wg [] [] (rn (wg [6] [] ?_)))
    refine wp_ret ?_
    cases h
    exact ⟨kr,rfl⟩
   refine wp_skip (wg [0,1,2,7,8] [] (reg_in (sz 3 3 ?_)))
   refine idxL' (enc:=eI) (l:=p0) (n:=s1.2) (fl:=true) (w:=1) (a:=a4) kr rfl gE q5 ?_
   refine sz 3 7 (reg_end rfl ?_)
   refine wgc [0,1,2,7,8] [] ⟨[(0,z1 p0),(1,vI p1),(2,vI p2),(7,vI (zw (s1.1+a4))),(8,vI s1.2)],[],43⟩ ?_
   refine rn ?_
   cases h
   exact ⟨_,rfl,(wk_gc (live:=[0,1,2,7,8]) (keep:=[]) kr)⟩
  refine wcF (wg [0,1,2,7] [] ?_)
  refine wp_exit ?_
  cases h
  exact ⟨kr,rfl⟩
 intro x10 h out hx
 subst hx
 rcases x10 with x11 | x12
 ·dsimp only at h ⊢
  cases h
  show fnOut _ _ _ _=_
  kernel_rfl
 ·dsimp only at h ⊢
  refine wp_seq (reg_in (sz 1 1 ?_))
  refine lenL (enc:=eI) (l:=p0) (fl:=true) kr gE ?_
  refine sz 3 5 (rwg [2,7,38] [] ?_)
  refine rb [38] h (fun q14 h=>?_) (fun q14 h=>?_)
  ·refine sz 5 10 (reg_end rfl (wg [6] [] ?_))
   cases h
   exact wp_ret (show fnOut _ _ _ _=_ from by kernel_rfl)
  refine sz 5 10 (reg_end rfl (wg [6] [] ?_))
  cases h
  exact wp_ret (show fnOut _ _ _ _=_ from by kernel_rfl)
noncomputable abbrev s14_2 (p0:Tapi_Hidden):List AObj:=[oX true false 4 (.agg [vI p0.Grain,z1 p0.First,z2 p0.Step,z2 p0.Show])]
theorem g_ref17_Right_ok (p0:Tapi_Hidden) (x:Bool) (h:g_ref17_Right p0=some x):CallOk Try.prog 14 [.agg [vI p0.Grain,z1 p0.First,z2 p0.Step,z2 p0.Show]] (.ret (vB x) []):=by
 refine fn_ok [] Try.func14 rfl (by decide +kernel) rfl ?_
 unfold g_ref17_Right at h
 refine wp_eqB (base':=0) (st':=⟨[(0,.agg [vI p0.Grain,z1 p0.First,z2 p0.Step,z2 p0.Show])],[],86⟩) kr kr ?_
 refine wp_seq (reg_in ?_)
 refine sgL false [] [] false gE ?_
 refine sz 1 2 (reg_end rfl (wp_seq (reg_in (sz 2 2 ?_))))
 refine lenL (enc:=eI) (l:=p0.First) (fl:=true) kr gE ?_
 refine sz 1 4 (reg_end rfl (wp_seq (wp_seq (wg [1,3] [0] (reg_in (sz 4 4 ?_))))))
 refine rb [11,12] h (fun q2 h=>?_) (fun q2 h=>?_)
 ·refine sgz 35 39 (S:=⟨[(1,.ptr 0 0 0),(3,vI (zn p0.First)),(9,.ptr 0 0 0),(10,vI p0.Grain),(11,vB true),(12,vB true),(13,.tup []),(14,.tup []),(15,.tup []),(16,vB true),(17,vB true),(18,.tup []),(19,.tup []),(20,vB true),(21,vB true),(22,.tup []),(23,.tup []),(24,vB true),(25,vB true),(26,.tup []),(27,.tup []),(28,.tup []),(29,.tup []),(30,.tup []),(31,.tup []),(32,.tup []),(33,vB true),(34,vB true),(35,.tup []),(36,.tup []),(37,.tup []),(38,.tup []),(39,.tup []),(40,vB true),(41,vB true),(42,.tup []),(43,.tup []),(44,.tup []),(45,.tup []),(46,.tup []),(47,vB true)],(s14_2 p0),86⟩) ?_
  refine reg_end rfl (wcT (wp_seq (wg [] [] (rn (wg [2] [] ?_)))))
  cases h
  exact wp_ret (show fnOut _ _ _ _=_ from by kernel_rfl)
 refine sz 5 9 ?_
 refine rw_wk (wk_gc (live:=[1,3,17]) (keep:=[0]) (st':=⟨[(1,.ptr 0 0 0),(3,vI (zn p0.First)),(17,vB (decide (p0.Grain > 12)))],(s14_2 p0),86⟩) kr) ?_
 refine rb [17] h (fun q4 h=>?_) (fun q4 h=>?_)
 ·refine sz 30 39 (reg_end rfl (wcT (wp_seq ?_)))
  refine wgc [] [] ⟨[],[],86⟩ ?_
  refine rn (wg [2] [] ?_)
  cases h
  exact wp_ret (show fnOut _ _ _ _=_ from by kernel_rfl)
 refine sz 4 13 (rwg [1,3,21] [0] ?_)
 refine rb [21] h (fun q6 h=>?_) (fun q6 h=>?_)
 ·refine sz 26 39 (reg_end rfl (wcT (wp_seq ?_)))
  refine wgc [] [] ⟨[],[],86⟩ ?_
  refine rn (wg [2] [] ?_)
  cases h
  exact wp_ret (show fnOut _ _ _ _=_ from by kernel_rfl)
 refine sz 4 17 (rwg [1,3,25] [0] ?_)
 refine rb [25] h (fun q8 h=>?_) (fun q8 h=>?_)
 ·refine sz 22 39 (reg_end rfl (wcT (wp_seq ?_)))
  refine wgc [] [] ⟨[],[],86⟩ ?_
  refine rn (wg [2] [] ?_)
  cases h
  exact wp_ret (show fnOut _ _ _ _=_ from by kernel_rfl)
 refine sz 5 22 ?_
 refine callW bodyB_59 (g_ref17_row_ok p0.First (zn p0.First) p0.Grain) h (fun x9 _ h=>?_)
 refine sz 3 26 ?_
 refine rw_wk (wk_gc (live:=[1,3,34]) (keep:=[0]) (st':=⟨[(1,.ptr 0 0 0),(3,vI (zn p0.First)),(34,vB (!x9))],(s14_2 p0),86⟩) kr) ?_
 refine rb [34] h (fun q12 h=>?_) (fun q12 h=>?_)
 ·refine sz 13 39 (reg_end rfl (wcT (wp_seq (wg [] [] (rn ?_)))))
  refine wgc [2] [] ⟨[(2,vB false)],[],86⟩ ?_
  cases h
  exact wp_ret (show fnOut _ _ _ _=_ from by kernel_rfl)
 refine sz 2 28 ?_
 refine lenL (enc:=z1) (l:=p0.Step) (fl:=false) kr gE ?_
 refine sz 4 33 (rwg [1,3,41] [0] ?_)
 refine rb [41] h (fun q14 h=>?_) (fun q14 h=>?_)
 ·refine sz 6 39 (reg_end rfl (wcT (wp_seq ?_)))
  refine wgc [] [] ⟨[],[],86⟩ ?_
  refine rn (wg [2] [] ?_)
  cases h
  exact wp_ret (show fnOut _ _ _ _=_ from by kernel_rfl)
 refine sz 2 35 ?_
 refine lenL (enc:=z1) (l:=p0.Show) (fl:=false) kr gE ?_
 refine sz 3 39 (reg_end rfl ?_)
 refine wbz h (fun q16 h=>?_) (fun q16 h=>?_)
 ·refine wp_seq ?_
  refine wgc [] [] ⟨[],[],86⟩ ?_
  refine rn (wg [2] [] ?_)
  cases h
  exact wp_ret (show fnOut _ _ _ _=_ from by kernel_rfl)
 refine wp_skip (wp_seq ?_)
 refine wgc [1,3] [0] ⟨[(1,.ptr 0 0 0),(3,vI (zn p0.First))],(s14_2 p0),86⟩ ?_
 refine reg_in (sz 2 2 ?_)
 refine bind_elim h (fun a17 q18 h=>?_)
 refine idxL' (enc:=z1) (l:=p0.Show) (n:=0) (fl:=false) (w:=1) (a:=a17) kr rfl gE q18 ?_
 refine sz 1 4 ?_
 refine lenL (enc:=eI) (l:=a17) (fl:=true) kr gE ?_
 refine sz 1 6 (reg_end rfl (wp_seq (wp_seq (wg [1,3,4] [0] (reg_in (sz 3 3 ?_))))))
 refine rb [54,55] h (fun q20 h=>?_) (fun q20 h=>?_)
 ·refine sz 3 6 (reg_end rfl (wcT (wp_seq ?_)))
  refine wgc [] [] ⟨[],[],86⟩ ?_
  refine rn (wg [2] [] ?_)
  cases h
  exact wp_ret (show fnOut _ _ _ _=_ from by kernel_rfl)
 refine sz 3 6 (reg_end rfl ?_)
 refine wbz h (fun q22 h=>?_) (fun q22 h=>?_)
 ·refine wp_seq ?_
  refine wgc [] [] ⟨[],[],86⟩ ?_
  refine rn (wg [2] [] ?_)
  cases h
  exact wp_ret (show fnOut _ _ _ _=_ from by kernel_rfl)
 refine wp_skip (wp_seq (wp_seq ?_))
 refine wgc [1,3,4] [0] ⟨[(1,.ptr 0 0 0),(3,vI (zn p0.First)),(4,vI (zn a17))],(s14_2 p0),86⟩ ?_
 refine rn (wp_block ?_)
 refine wwh h (fun s23=>⟨[(1,.ptr 0 0 0),(3,vI (zn p0.First)),(4,vI (zn a17)),(5,vI s23)],(s14_2 p0),86⟩) (fun x out=>out=match x with | .inl v=>.go (.ret) ⟨[(2,vB false)],[],86⟩ | .inr v=>.go (.exit 0) ⟨[],[],86⟩) (wk_gc (live:=[1,3,4,5]) (keep:=[0]) kr) ?_ ?_
 ·intro s23 o h
  unfold g_ref17_Right_b0 at h
  refine wp_seq (sq ?_)
  refine wb [61] h (fun q25 h=>?_) (fun q25 h=>?_)
  ·refine wcT (wp_skip (wp_seq (wp_block (wp_seq (rga hfol (sy 3 3 ?_))))))
   refine bind_elim h (fun a26 q27 h=>?_)
   refine idxL' (enc:=z1) (l:=p0.Step) (n:=s23) (fl:=false) (w:=1) (a:=a26) kr rfl gE q27 ?_
   refine sy 4 8 ?_
   refine callW bodyB_59 (g_ref17_row_ok a26 (zn p0.First) p0.Grain) h (fun x28 _ h=>?_)
   refine sy 2 11 ?_
   refine rb [73,74] h (fun q31 h=>?_) (fun q31 h=>?_)
   ·refine sy 11 22 (rgd (wcT (wp_seq ?_)))
    refine wgc [] [] ⟨[],[],86⟩ ?_
    refine rn (wg [2] [] ?_)
    refine wp_ret ?_
    cases h
    exact ⟨kr,rfl⟩
   refine sy 3 14 ?_
   refine bind_elim h (fun a32 q33 h=>?_)
   refine idxL' (enc:=z1) (l:=p0.Show) (n:=s23) (fl:=false) (w:=1) (a:=a32) kr rfl gE q33 ?_
   refine sy 4 19 ?_
   refine callW bodyB_59 (g_ref17_row_ok a32 (zn a17) p0.Grain) h (fun x34 _ h=>?_)
   refine sy 2 22 (rgd ?_)
   refine wbz h (fun q37 h=>?_) (fun q37 h=>?_)
   ·refine wp_seq ?_
    refine wgc [] [] ⟨[],[],86⟩ ?_
    refine rn (wg [2] [] ?_)
    refine wp_ret ?_
    cases h
    exact ⟨kr,rfl⟩
   refine wp_skip ?_
   refine wgc [1,3,4,5] [0] ⟨[(1,.ptr 0 0 0),(3,vI (zn p0.First)),(4,vI (zn a17)),(5,vI s23)],(s14_2 p0),86⟩ ?_
   refine rn ?_
   cases h
   exact ⟨_,rfl,(wk_gc (live:=[1,3,4,5]) (keep:=[0]) kr)⟩
  refine wcF (wg [] [] ?_)
  refine wp_exit ?_
  cases h
  exact ⟨kr,rfl⟩
 intro x38 h out hx
 subst hx
 rcases x38 with x39 | x40
 ·dsimp only at h ⊢
  cases h
  show fnOut _ _ _ _=_
  kernel_rfl
 ·dsimp only at h ⊢
  refine sq (wg [2] [] ?_)
  cases h
  exact wp_ret (show fnOut _ _ _ _=_ from by kernel_rfl)
theorem g_slices_Clone_int_int_c_ok (c0:Int) (d0:(List Int)) (x:(List Int)) (h:g_slices_Clone_int_int_c c0 d0=some x):CallOk Try.prog 37 [z1 (c0::d0)] (.ret (.ref 0 0 x.length) [oR true 1 eI x]):=by
 refine fn_ok [] Try.func37 rfl (by decide +kernel) rfl ?_
 unfold g_slices_Clone_int_int_c at h
 refine wp_eqB (base':=0) (st':=⟨[(0,z1 (c0::d0))],[],8⟩) kr kr ?_
 refine sq (wp_seq (sq (wcF (wp_skip (wp_seq (reg_in (sz 2 2 ?_)))))))
 refine appN (enc:=eI) (m:=(c0::d0)) (w:=1) (bytes:=8) (nr':=true) (fl':=true) (a:=.emp) (b:=z1 (c0::d0)) (rds:=[]) false kr (.inr rfl) (elems_lst (fun _=>rfl)) rfl gE kr h (fun h=>?_)
 refine sz 1 4 (reg_end rfl (wg [2] [0] ?_))
 cases h
 exact wp_ret (show fnOut _ _ _ _=_ from by kernel_rfl)
theorem g_slices_Clone_int_int_e_ok  (x:(List Int)) (h:g_slices_Clone_int_int_e=some x):CallOk Try.prog 37 [.emn] (.ret (.ref 0 0 x.length) [oR true 1 eI x]):=by
 refine fn_ok [] Try.func37 rfl (by decide +kernel) rfl ?_
 unfold g_slices_Clone_int_int_e at h
 refine wp_eqB (base':=0) (st':=⟨[(0,.emn)],[],8⟩) kr kr ?_
 refine sq (wp_seq (sq (wcF (wp_skip (wp_seq (reg_in (sz 2 2 (sz 1 3 (sz 1 4 ?_)))))))))
 refine reg_end rfl (wg [2] [0] ?_)
 cases h
 exact wp_ret (show fnOut _ _ _ _=_ from by kernel_rfl)
theorem g_slices_Clone_int_int_n_ok  (x:(List Int)) (h:g_slices_Clone_int_int_n=some x):CallOk Try.prog 37 [.nils] (.ret (.ref 0 0 x.length) [oR true 1 eI x]):=by
 refine fn_ok [] Try.func37 rfl (by decide +kernel) rfl ?_
 unfold g_slices_Clone_int_int_n at h
 refine wp_eqB (base':=0) (st':=⟨[(0,.nils)],[],8⟩) kr kr ?_
 refine sq (wp_seq (sq (wcT (sq (wg [2] [] ?_)))))
 refine wp_wk (wk_nil 2 1 true true gE) ?_
 cases h
 exact wp_ret (show fnOut _ _ _ _=_ from by kernel_rfl)
theorem g_slices_Clone_int_int_ok (p0:(List Int)) (x:(List Int)) (h:g_slices_Clone_int_int p0=some x):CallOk Try.prog 37 [z1 p0] (.ret (.ref 0 0 x.length) [oR true 1 eI x]):=by
 cases p0 with
 | cons c0 d0=>exact g_slices_Clone_int_int_c_ok c0 d0 x h
 | nil =>
  cases h1:g_slices_Clone_int_int_n with
  | none=>simp [g_slices_Clone_int_int,h1] at h
  | some y =>
   cases h2:g_slices_Clone_int_int_e with
   | none=>simp [g_slices_Clone_int_int,h1,h2] at h
   | some z =>
    by_cases e:y=z
    ·subst e
     simp [g_slices_Clone_int_int,h1,h2] at h
     subst h
     exact CallOk.nil (l1:=[]) (l2:=[]) (g_slices_Clone_int_int_n_ok y h1) (g_slices_Clone_int_int_e_ok y h2)
    ·simp [g_slices_Clone_int_int,h1,h2,e] at h
noncomputable abbrev s84_4 (s1:(Int × (List (List Int)))) (p0:(List (List Int))):List (Nat × AV):=[(3,.ref 0 0 s1.2.length),(6,z2 p0),(7,vI (zn p0)),(8,vI s1.1)]
theorem g_hidden_copied_ok (p0:(List (List Int))) (x:(List (List Int))) (h:g_hidden_copied p0=some x):CallOk Try.prog 84 [z2 p0] (.ret (.ref 0 0 x.length) [oR false 1 z1 x]):=by
 refine fn_ok [] Try.func84 rfl (by decide +kernel) rfl ?_
 unfold g_hidden_copied at h
 refine wp_eqB (base':=0) (st':=⟨[(0,z2 p0)],[],19⟩) kr kr ?_
 refine sq (sq (wp_seq (wp_seq (reg_in (sz 1 1 ?_)))))
 refine lenL (enc:=z1) (l:=p0) (fl:=false) kr gE ?_
 refine sz 1 3 (reg_end rfl (wp_block ?_))
 refine wwh h (fun s1=>⟨(s84_4 s1 p0),[oR false 1 z1 s1.2],19⟩) (fun v out=>out=.go (.exit 0) ⟨[(3,.ref 0 0 v.length)],[oR false 1 z1 v],19⟩) (wk_trans (wk_gc (live:=[3,6,7,8]) (keep:=[]) (st':=⟨[(3,.nils),(6,z2 p0),(7,vI (zn p0)),(8,vI 0)],[],19⟩) kr) (wk_trans (wk_nil 3 1 true false (st':=⟨[(3,.ref 0 0 0),(6,z2 p0),(7,vI (zn p0)),(8,vI 0)],[.row false false true false 1 []],19⟩) kr) (wk_gc (live:=[3,6,7,8]) (keep:=[0]) kr))) ?_ ?_
 ·intro s1 o h
  unfold g_hidden_copied_b0 at h
  refine sq (wp_seq ?_)
  refine wb [9] h (fun q3 h=>?_) (fun q3 h=>?_)
  ·refine wcT (wp_skip (wp_seq (wp_block (wp_seq (reg_in ?_)))))
   refine bind_elim h (fun a4 q5 h=>?_)
   refine idxL' (enc:=z1) (l:=p0) (n:=s1.1) (fl:=false) (w:=1) (a:=a4) kr rfl gE q5 ?_
   refine sz 2 3 (reg_end rfl (reg_in (sz 2 2 ?_)))
   refine callR (as0:=[z1 a4]) (ids:=[]) (S:=fun x6=>⟨(s84_4 s1 p0)++[(9,vB true),(10,.fz [z1 a4]),(11,z1 a4),(5,z1 a4),(12,.ref 0 0 s1.2.length),(13,z1 a4),(14,.ref 1 0 x6.length)],[oR false 1 z1 s1.2,oR true 1 eI x6],19⟩) kr bodyB_37 (msnap_cons rfl msnap_nil) (fun x6 q7=>g_slices_Clone_int_int_ok a4 x6 q7) (fun _=>by as_aux_lemma=>kernel_rfl) h (fun x6 q7 h=>?_)
   refine bsR (parts:=[(0,z1 x6)]) (ids:=[1]) (es:=[(1,.row false true true true 1 (List.map eI x6)),(2,.row false false true (List.all [z1 x6] AV.scs) 1 [z1 x6])]) (S:=⟨(s84_4 s1 p0)++[(9,vB true),(10,.fz [z1 a4]),(11,z1 a4),(5,z1 a4),(12,.ref 0 0 s1.2.length),(13,z1 a4),(14,.ref 1 0 x6.length),(15,.ref 2 0 1)],[oR false 1 z1 s1.2,.row false true true true 1 (List.map eI x6),.row false false true false 1 [z1 x6]],19⟩) [.lst true] false rfl (sparts_snap rfl (snap_full (w:=1) (bx:=false) (ro:=false) kr) sparts_nil (by rfl)) kr ?_
   refine appR (enc:=z1) (l:=s1.2) (m:=([x6]:(List (List Int)))) (w:=1) (bytes:=24) (ob:=0) (nr:=true) (fl:=false) (nr':=true) (fl':=false) (b:=.ref 2 0 1) (rds:=[2]) false kr kr kr rfl gE kr h (fun h=>?_)
   refine sz 1 6 (reg_end rfl (wg [3,6,7,8] [3] (rn ?_)))
   cases h
   exact ⟨_,rfl,(wk_gc (live:=[3,6,7,8]) (keep:=[0]) kr)⟩
  refine wcF (wg [3] [0] ?_)
  refine wp_exit ?_
  cases h
  exact ⟨kr,rfl⟩
 intro x9 h out hx
 subst hx
 refine sq (wg [2] [0] ?_)
 cases h
 exact wp_ret (show fnOut _ _ _ _=_ from by kernel_rfl)
end Go.Ab
