/- What functions compute. No conditions. -/
import Derived.Test.YtiadakgfblkelaaProg
import Derived.Test.YtiadakgfblkelaaW9
import Derived.KernelRfl
import Derived.Test.YtiadakgfblkelaaW13
import Derived.Test.YtiadakgfblkelaaW10
import Derived.Test.YtiadakgfblkelaaW11
import Derived.Test.YtiadakgfblkelaaW12
import Derived.Test.YtiadakgfblkelaaEng8
import Derived.IntWalk
set_option linter.all false
namespace Go.Ab
open Go Go.Proofs
set_option maxRecDepth 100000
set_option maxHeartbeats 4000000
noncomputable abbrev s68_2 (p0:Tapi_Hidden):List AObj:=[oX true false 4 (.agg [vI p0.Grain,z1 p0.First,z2 p0.Step,z2 p0.Show])]
theorem g_ref17_Weight_ok (p0:Tapi_Hidden) (p1:(List Int)) (p2:(List Int)) (x:Int) (h:g_ref17_Weight p0 p1 p2=some x):CallOk Try.prog 68 [.agg [vI p0.Grain,z1 p0.First,z2 p0.Step,z2 p0.Show],z1 p1,z1 p2] (.ret (vI x) []):=by
 refine fn_ok [] Try.func68 rfl (by decide +kernel) rfl ?_
 unfold g_ref17_Weight at h
 refine wp_eqB (base':=0) (st':=⟨[(0,.agg [vI p0.Grain,z1 p0.First,z2 p0.Step,z2 p0.Show]),(1,z1 p1),(2,z1 p2)],[],54⟩) kr kr ?_
 refine wp_seq (reg_in ?_)
 refine sgL false [] [] false gE ?_
 refine sz 1 2 (reg_end rfl (sq (wp_seq (sq (wp_block ?_)))))
 refine wwh h (fun s1=>⟨[(1,z1 p1),(2,z1 p2),(3,.ptr 0 0 0),(7,vI s1.1),(8,vI s1.2)],(s68_2 p0),54⟩) (fun v out=>out=.go (.exit 0) ⟨[(7,vI v)],[],54⟩) (wk_gc (live:=[1,2,3,7,8]) (keep:=[0]) kr) ?_ ?_
 ·intro s1 o h
  unfold g_ref17_Weight_b0 at h
  refine wp_seq (wp_seq (reg_in (sz 2 2 ?_)))
  refine lenL (enc:=eI) (l:=p2) (fl:=true) kr gE ?_
  refine sz 1 4 (reg_end rfl ?_)
  refine wb [12] h (fun q3 h=>?_) (fun q3 h=>?_)
  ·refine wcT (wp_skip (wp_seq (wp_block (wp_seq (sq ?_)))))
   refine wbz h (fun q5 h=>?_) (fun q5 h=>?_)
   ·refine wgc [1,2,3,8] [0] ⟨[(1,z1 p1),(2,z1 p2),(3,.ptr 0 0 0),(8,vI s1.2)],(s68_2 p0),54⟩ ?_
    refine rga hfol (sy 3 3 ?_)
    refine bind_elim h (fun a6 q7 h=>?_)
    refine idxL' (enc:=eI) (l:=p2) (n:=0) (fl:=true) (w:=1) (a:=a6) kr rfl gE q7 ?_
    refine sy 1 5 ?_
    refine bind_elim h (fun a8 q9 h=>?_)
    refine idxL' (enc:=eI) (l:=p0.First) (n:=a6) (fl:=true) (w:=1) (a:=a8) kr rfl gE q9 ?_
    refine sy 2 8 (rgd (wg [1,2,3,8,7] [0] (rga hfol (sy 4 4 ?_))))
    refine bind_elim h (fun a10 q11 h=>?_)
    refine idxL' (enc:=eI) (l:=p2) (n:=s1.2) (fl:=true) (w:=1) (a:=a10) kr rfl gE q11 ?_
    refine sy 3 8 ?_
    refine bind_elim h (fun a12 q13 h=>?_)
    refine idxL' (enc:=eI) (l:=p1) (n:=s1.2) (fl:=true) (w:=1) (a:=a12) kr rfl gE q13 ?_
    refine sy 1 10 ?_
    refine callW bodyB_69 (g_ref17_Shows_ok p0 a10 a12) h (fun x14 _ h=>?_)
    refine sy 2 13 (rgd ?_)
    refine wgc [1,2,3,8,7] [0] ⟨[(1,z1 p1),(2,z1 p2),(3,.ptr 0 0 0),(8,vI s1.2),(7,vI (zw (a8*x14)))],(s68_2 p0),54⟩ ?_
    refine rn ?_
    cases h
    exact ⟨_,rfl,(wk_gc (live:=[1,2,3,7,8]) (keep:=[0]) kr)⟩
   refine wgc [1,2,3,7,8] [0] ⟨[(1,z1 p1),(2,z1 p2),(3,.ptr 0 0 0),(7,vI s1.1),(8,vI s1.2)],(s68_2 p0),54⟩ ?_
   refine rga hfol (sy 6 6 ?_)
   refine bind_elim h (fun a16 q17 h=>?_)
   refine idxL' (enc:=eI) (l:=p2) (n:=zw (s1.2 - 1)) (fl:=true) (w:=1) (a:=a16) kr rfl gE q17 ?_
   refine sy 1 8 ?_
   refine bind_elim h (fun a18 q19 h=>?_)
   refine idxL' (enc:=z1) (l:=p0.Step) (n:=a16) (fl:=false) (w:=1) (a:=a18) kr rfl gE q19 ?_
   refine sy 3 12 ?_
   refine bind_elim h (fun a20 q21 h=>?_)
   refine idxL' (enc:=eI) (l:=p2) (n:=s1.2) (fl:=true) (w:=1) (a:=a20) kr rfl gE q21 ?_
   refine sy 1 14 ?_
   refine bind_elim h (fun a22 q23 h=>?_)
   refine idxL' (enc:=eI) (l:=a18) (n:=a20) (fl:=true) (w:=1) (a:=a22) kr rfl gE q23 ?_
   refine sy 3 18 (rgd ?_)
   refine wgc [1,2,3,7,8] [0] ⟨[(1,z1 p1),(2,z1 p2),(3,.ptr 0 0 0),(7,vI (zw (s1.1*a22))),(8,vI s1.2)],(s68_2 p0),54⟩ ?_
   refine rga hfol (sy 4 4 ?_)
   refine idxL' (enc:=eI) (l:=p2) (n:=s1.2) (fl:=true) (w:=1) (a:=a20) kr rfl gE q21 ?_
   refine sy 3 8 ?_
   refine bind_elim h (fun a24 q25 h=>?_)
   refine idxL' (enc:=eI) (l:=p1) (n:=s1.2) (fl:=true) (w:=1) (a:=a24) kr rfl gE q25 ?_
   refine sy 1 10 ?_
   refine callW bodyB_69 (g_ref17_Shows_ok p0 a20 a24) h (fun x26 _ h=>?_)
   refine sy 2 13 (rgd (wg [1,2,3,7,8] [0] (rn ?_)))
   cases h
   exact ⟨_,rfl,(wk_gc (live:=[1,2,3,7,8]) (keep:=[0]) kr)⟩
  refine wcF (wg [7] [] ?_)
  refine wp_exit ?_
  cases h
  exact ⟨kr,rfl⟩
 intro x29 h out hx
 subst hx
 refine sq (wg [6] [] ?_)
 cases h
 exact wp_ret (show fnOut _ _ _ _=_ from by kernel_rfl)
noncomputable abbrev s20_1 (p0:Tapi_Hidden) (p1:(List Int)):List (Nat × AV):=[(0,.agg [vI p0.Grain,z1 p0.First,z2 p0.Step,z2 p0.Show]),(1,z1 p1)]
noncomputable abbrev s20_3 (p0:Tapi_Hidden) (p1:(List Int)):List (Nat × AV):=[(0,.agg [vI p0.Grain,z1 p0.First,z2 p0.Step,z2 p0.Show]),(1,vI (zn p1))]
noncomputable abbrev s20_4 (p0:Tapi_Hidden):List AObj:=[oX true false 4 (.agg [vI p0.Grain,z1 p0.First,z2 p0.Step,z2 p0.Show]),oX true false 4 (.agg [vI p0.Grain,z1 p0.First,z2 p0.Step,z2 p0.Show])]
noncomputable abbrev s20_17 (p1:(List Int)) (s1:(Int × (List (List Int)))) (p0:Tapi_Hidden):List (Nat × AV):=[(1,vI (zn p1)),(2,.ptr 1 0 0),(5,.ref 6 0 ((s1.2++[(List.replicate (zt (zn p0.First)) (0:Int))]).length)),(6,vI s1.1),(7,vI s1.1),(8,vI (zn p1)),(9,vB true),(12,.ref 2 0 s1.2.length),(13,.ptr 1 0 1),(14,z1 p0.First),(15,vI (zn p0.First)),(16,.ref 4 0 ((List.replicate (zt (zn p0.First)) (0:Int)).length)),(17,.ref 5 0 1),(18,.ref 6 0 ((s1.2++[(List.replicate (zt (zn p0.First)) (0:Int))]).length))]
noncomputable abbrev s20_19 (p1:(List Int)) (s1:(Int × (List (List Int)))) (p0:Tapi_Hidden):List (Nat × AV):=[(1,vI (zn p1)),(2,.ptr 1 0 0),(5,.ref 6 0 ((s1.2++[(List.replicate (zt (zn p0.First)) (0:Int))]).length)),(6,vI s1.1),(7,vI s1.1),(8,vI (zn p1)),(9,vB true),(12,.ref 2 0 s1.2.length),(13,.ptr 1 0 1),(14,z1 p0.First),(15,vI (zn p0.First)),(17,.ref 5 0 1),(18,.ref 6 0 ((s1.2++[(List.replicate (zt (zn p0.First)) (0:Int))]).length))]
noncomputable abbrev s20_20 (p0:Tapi_Hidden) (s1:(Int × (List (List Int)))):List AObj:=[oX true false 4 (.agg [vI p0.Grain,z1 p0.First,z2 p0.Step,z2 p0.Show]),oX true false 4 (.agg [vI p0.Grain,z1 p0.First,z2 p0.Step,z2 p0.Show]),.dead,.fam 1 true (eF eI (s1.2++[(List.replicate (zt (zn p0.First)) (0:Int))])),.dead,.dead,.refs 3 (eF eI (s1.2++[(List.replicate (zt (zn p0.First)) (0:Int))]))]
noncomputable abbrev s20_32 (p0:Tapi_Hidden) (s15:(Int × (List (List Int)))) (x13:(List (List Int))):List AObj:=[oX true false 4 (.agg [vI p0.Grain,z1 p0.First,z2 p0.Step,z2 p0.Show]),.refs 3 (eF eI s15.2),oR false 1 z1 x13,.fam 1 true (eF eI s15.2)]
noncomputable abbrev s20_42 (p0:Tapi_Hidden) (s34:(Int × (List (List Int)))):List AObj:=[oX true false 4 (.agg [vI p0.Grain,z1 p0.First,z2 p0.Step,z2 p0.Show]),.refs 2 (eF eI s34.2),.fam 1 true (eF eI s34.2)]
noncomputable abbrev s20_54 (p0:Tapi_Hidden) (s6:(Int × (List (List Int)))):List AObj:=[oX true false 4 (.agg [vI p0.Grain,z1 p0.First,z2 p0.Step,z2 p0.Show]),.refs 2 (eF eI s6.2),.fam 1 true (eF eI s6.2)]
theorem g_ref17_Forward_ok (p0:Tapi_Hidden) (p1:(List Int)) (x:(List (List Int))) (h:g_ref17_Forward p0 p1=some x):CallOk Try.prog 20 [.agg [vI p0.Grain,z1 p0.First,z2 p0.Step,z2 p0.Show],z1 p1] (.ret (.ref 0 0 x.length) [oR false 1 z1 x]):=by
 refine fn_ok [] Try.func20 rfl (by decide +kernel) rfl ?_
 unfold g_ref17_Forward at h
 refine wp_eqB (base':=0) (st':=⟨(s20_1 p0 p1),[],121⟩) kr kr ?_
 refine wp_seq (reg_in ?_)
 refine sgL false [] [] false gE ?_
 refine sz 1 2 (reg_end rfl (wp_seq ?_))
 refine wp_post ?_
 refine reg_in (sz 2 2 ?_)
 refine lenL (enc:=eI) (l:=p1) (fl:=true) kr gE ?_
 refine inlR (f:=65) (fn:=Try.f65) (as0:=[.agg [vI p0.Grain,z1 p0.First,z2 p0.Step,z2 p0.Show],vI (zn p1)]) kr Try.func65 rfl (by decide +kernel) rfl ?_
 refine wp_eqB (base':=1) (st':=⟨(s20_3 p0 p1),[oX true false 4 (.agg [vI p0.Grain,z1 p0.First,z2 p0.Step,z2 p0.Show])],20⟩) kr kr ?_
 refine wp_seq (reg_in ?_)
 refine sgL false [] [] false gE ?_
 refine sz 1 2 (reg_end rfl (sq (wp_seq ?_)))
 refine sqN (S:=⟨(s20_3 p0 p1)++[(2,.ptr 1 0 0),(4,.nils),(5,.nils),(6,vI 0)],(s20_4 p0),20⟩) ?_
 refine wp_block ?_
 refine wwh h (fun s1=>⟨[(1,vI (zn p1)),(2,.ptr 1 0 0),(5,.ref 2 0 s1.2.length),(6,vI s1.1)],[oX true false 4 (.agg [vI p0.Grain,z1 p0.First,z2 p0.Step,z2 p0.Show]),oX true false 4 (.agg [vI p0.Grain,z1 p0.First,z2 p0.Step,z2 p0.Show]),.refs 3 (eF eI s1.2),.fam 1 true (eF eI s1.2)],20⟩) (fun v out=>out=.go (.exit 0) ⟨[(5,.ref 1 0 v.length)],[oX true false 4 (.agg [vI p0.Grain,z1 p0.First,z2 p0.Step,z2 p0.Show]),.refs 2 (eF eI v),.fam 1 true (eF eI v)],20⟩) (wk_trans (wk_gc (live:=[1,2,5,6]) (keep:=[1]) (st':=⟨[(1,vI (zn p1)),(2,.ptr 1 0 0),(5,.nils),(6,vI 0)],(s20_4 p0),20⟩) kr) (wk_trans (wk_nil 5 1 true true (st':=⟨[(1,vI (zn p1)),(2,.ptr 1 0 0),(5,.ref 2 0 0),(6,vI 0)],[oX true false 4 (.agg [vI p0.Grain,z1 p0.First,z2 p0.Step,z2 p0.Show]),oX true false 4 (.agg [vI p0.Grain,z1 p0.First,z2 p0.Step,z2 p0.Show]),.row false false true true 1 []],20⟩) kr) (wk_trans (wk_fam 2 1 true (x0:=([]:List Int)) (n:=0) (enc1:=fun _=>AV.nils) eI rfl rfl rfl (st':=⟨[(1,vI (zn p1)),(2,.ptr 1 0 0),(5,.ref 2 0 (([]:List (List Int)).length)),(6,vI 0)],[oX true false 4 (.agg [vI p0.Grain,z1 p0.First,z2 p0.Step,z2 p0.Show]),oX true false 4 (.agg [vI p0.Grain,z1 p0.First,z2 p0.Step,z2 p0.Show]),.refs 3 (eF eI ([]:List (List Int))),.fam 1 true (eF eI ([]:List (List Int)))],20⟩) kr) (wk_gc (live:=[1,2,5,6]) (keep:=[1,2,3]) kr)))) ?_ ?_
 ·intro s1 o h
  unfold g_ref17_Forward_b0 at h
  refine wp_seq (sq ?_)
  refine wb [9] h (fun q3 h=>?_) (fun q3 h=>?_)
  ·refine wcT (wp_skip (wp_seq (wp_block ?_)))
   refine wp_post ?_
   refine reg_in (sz 3 3 ?_)
   refine lenL (enc:=eI) (l:=p0.First) (fl:=true) kr gE ?_
   refine mkL (enc:=eI) (z:=(0:Int)) (z0:=vI 0) (n:=(zn p0.First)) (m:=(zn p0.First)) (w:=1) (bytes:=8) (S:=⟨[(1,vI (zn p1)),(2,.ptr 1 0 0),(5,.ref 2 0 s1.2.length),(6,vI s1.1),(7,vI s1.1),(8,vI (zn p1)),(9,vB true),(12,.ref 2 0 s1.2.length),(13,.ptr 1 0 1),(14,z1 p0.First)]++[(15,vI (zn p0.First)),(16,.ref 4 0 ((List.replicate (zt (zn p0.First)) (0:Int)).length))],[oX true false 4 (.agg [vI p0.Grain,z1 p0.First,z2 p0.Step,z2 p0.Show]),oX true false 4 (.agg [vI p0.Grain,z1 p0.First,z2 p0.Step,z2 p0.Show]),.refs 3 (eF eI s1.2),.fam 1 true (eF eI s1.2),oR true 1 eI (List.replicate (zt (zn p0.First)) (0:Int))],20⟩) [] true kr rfl kr kr h (fun h=>?_)
   refine sgN true 1 6 gE rfl ?_
   refine appF (enc:=eI) (ls:=s1.2) (q:=(List.replicate (zt (zn p0.First)) (0:Int))) (bytes:=24) (ob:=2) (j:=3) (tm:=5) (m:=4) kr kr rfl kr gE kr h (fun h=>?_)
   refine sgz 1 8 (S:=⟨(s20_17 p1 s1 p0),[oX true false 4 (.agg [vI p0.Grain,z1 p0.First,z2 p0.Step,z2 p0.Show]),oX true false 4 (.agg [vI p0.Grain,z1 p0.First,z2 p0.Step,z2 p0.Show]),.dead,.fam 1 true (eF eI s1.2),oR true 1 eI (List.replicate (zt (zn p0.First)) (0:Int)),.row false false false false 1 [.ref 4 0 ((List.replicate (zt (zn p0.First)) (0:Int)).length)],.row false false false false 1 (famRefs 3 0 (eF eI s1.2)++[.ref 4 0 (List.replicate (zt (zn p0.First)) (0:Int)).length])],20⟩) ?_
   refine reg_end rfl ?_
   refine ⟨⟨(s20_19 p1 s1 p0),(s20_20 p0 s1),20⟩,(wk_trans (wk_dead 5 (st':=⟨(s20_17 p1 s1 p0),[oX true false 4 (.agg [vI p0.Grain,z1 p0.First,z2 p0.Step,z2 p0.Show]),oX true false 4 (.agg [vI p0.Grain,z1 p0.First,z2 p0.Step,z2 p0.Show]),.dead,.fam 1 true (eF eI s1.2),oR true 1 eI (List.replicate (zt (zn p0.First)) (0:Int)),.dead,.row false false false false 1 (famRefs 3 0 (eF eI s1.2)++[.ref 4 0 (List.replicate (zt (zn p0.First)) (0:Int)).length])],20⟩) (by kernel_rfl)) (wk_adoptA 6 3 4 (enc:=eI) (ls:=s1.2) (b:=(List.replicate (zt (zn p0.First)) (0:Int))) [1,2,5,6,7,8,9,12,13,14,15,17,18] (st':=⟨(s20_19 p1 s1 p0),(s20_20 p0 s1),20⟩) rfl rfl rfl (by kernel_rfl) (by kernel_rfl))),?_⟩
   refine wg [1,2,5,6] [1,6,3] (rn ?_)
   cases h
   exact ⟨_,rfl,(wk_gc (live:=[1,2,5,6]) (keep:=[1,2,3]) kr)⟩
  refine wcF (wg [5] [2,3] ?_)
  refine wp_exit ?_
  cases h
  exact ⟨kr,rfl⟩
 intro x5 h out hx
 subst hx
 refine sq (wg [4] [1,2] ?_)
 refine wp_ret ?_
 refine ⟨⟨(s20_1 p0 p1)++[(2,.ptr 0 0 0),(4,.nils),(12,.agg [vI p0.Grain,z1 p0.First,z2 p0.Step,z2 p0.Show]),(13,z1 p1),(14,vI (zn p1)),(15,.ref 1 0 x5.length)],[oX true false 4 (.agg [vI p0.Grain,z1 p0.First,z2 p0.Step,z2 p0.Show]),.refs 2 (eF eI x5),.fam 1 true (eF eI x5)],121⟩,by as_aux_lemma=>kernel_rfl,?_⟩
 refine sz 1 5 (reg_end rfl ?_)
 refine ⟨_,wk_refl,?_⟩
 refine wp_seq (wp_seq (wg [1,2,5] [0,1,2] (rn (wp_block ?_))))
 refine wwh h (fun s6=>⟨[(1,z1 p1),(2,.ptr 0 0 0),(5,.ref 1 0 s6.2.length),(6,vI s6.1)],(s20_54 p0 s6),121⟩) (fun v out=>out=.go (.exit 0) ⟨[(5,.ref 0 0 v.length)],[.refs 1 (eF eI v),.fam 1 true (eF eI v)],121⟩) (wk_gc (live:=[1,2,5,6]) (keep:=[0,1,2]) kr) ?_ ?_
 ·intro s6 o h
  unfold g_ref17_Forward_b4 at h
  refine wp_seq (wp_seq (reg_in (sz 2 2 ?_)))
  refine lenL (enc:=eI) (l:=p1) (fl:=true) kr gE ?_
  refine sz 1 4 (reg_end rfl ?_)
  refine wb [19] h (fun q8 h=>?_) (fun q8 h=>?_)
  ·refine wcT (wp_skip (wp_seq (wp_block (wp_seq (wp_seq ?_)))))
   refine wp_post ?_
   refine reg_in (sz 3 3 ?_)
   refine callW bodyB_66 (g_ref17_short_ok p0 (zw (s6.1+1))) h (fun x9 _ h=>?_)
   refine reg_end rfl ?_
   refine ⟨_,wk_refl,?_⟩
   refine wbz h (fun q12 h=>?_) (fun q12 h=>?_)
   ·refine wp_seq ?_
    refine wgc [1,2,5,6] [0,1,2] ⟨[(1,z1 p1),(2,.ptr 0 0 0),(5,.ref 1 0 s6.2.length),(6,vI s6.1)],(s20_54 p0 s6),121⟩ ?_
    refine wp_post ?_
    refine reg_in (sz 3 3 ?_)
    refine callW bodyB_67 (g_ref17_Paths_ok p0 (zw (s6.1+1))) h (fun x13 _ h=>?_)
    refine sz 1 5 (reg_end rfl ?_)
    refine ⟨_,wk_refl,?_⟩
    refine wp_seq (sq (wp_block ?_))
    refine wwh h (fun s15=>⟨[(1,z1 p1),(2,.ptr 0 0 0),(5,.ref 1 0 s15.2.length),(6,vI s6.1),(7,.ref 2 0 x13.length),(8,vI s15.1)],(s20_32 p0 s15 x13),121⟩) (fun v out=>out=.go (.exit 2) ⟨[(1,z1 p1),(2,.ptr 0 0 0),(5,.ref 1 0 v.length),(6,vI s6.1)],[oX true false 4 (.agg [vI p0.Grain,z1 p0.First,z2 p0.Step,z2 p0.Show]),.refs 2 (eF eI v),.fam 1 true (eF eI v)],121⟩) (wk_gc (live:=[1,2,5,6,7,8]) (keep:=[0,1,3,2]) kr) ?_ ?_
    ·intro s15 o h
     unfold g_ref17_Forward_b1 at h
     refine wp_seq (sq ?_)
     refine wb [33] h (fun q17 h=>?_) (fun q17 h=>?_)
     ·refine wcT (wp_skip (wp_seq (wp_block (wp_seq ?_))))
      refine wp_post ?_
      refine reg_in (sz 2 2 ?_)
      refine bind_elim h (fun a18 q19 h=>?_)
      refine idxR' (enc:=z1) (l:=x13) (n:=s15.1) (w:=1) (ob:=2) (ro:=false) (nr:=true) (fl:=false) (a:=a18) kr kr gE q19 ?_
      refine loadR (enc:=z1) (l:=x13) (n:=s15.1) (w:=1) (ob:=2) (c:=0) (bx:=false) (ro:=false) (nr:=true) (fl:=false) (a:=a18) kr kr q19 gE ?_
      refine sz 1 5 ?_
      refine bind_elim h (fun a20 q21 h=>?_)
      refine idxL' (enc:=eI) (l:=a18) (n:=s6.1) (fl:=true) (w:=1) (a:=a20) kr rfl gE q21 ?_
      refine sz 2 8 (reg_end rfl ?_)
      refine ⟨_,wk_refl,?_⟩
      refine wgc [1,2,5,6,7,8,9] [0,1,2,3] ⟨[(1,z1 p1),(2,.ptr 0 0 0),(5,.ref 1 0 s15.2.length),(6,vI s6.1),(7,.ref 2 0 x13.length),(8,vI s15.1),(9,vI a20)],(s20_32 p0 s15 x13),121⟩ ?_
      refine wp_post ?_
      refine rga hfol (sy 2 2 ?_)
      refine bind_elim h (fun a22 q23 h=>?_)
      refine idxF (enc:=eI) (ls:=s15.2) (x:=a22) (n:=s6.1) (ob:=1) (j:=3) kr kr q23 gE ?_
      refine loadF (enc:=eI) (ls:=s15.2) (x:=a22) (n:=s6.1) (ob:=1) (j:=3) kr kr q23 gE ?_
      refine sy 3 7 ?_
      refine idxF (enc:=eI) (ls:=s15.2) (x:=a22) (n:=s6.1) (ob:=1) (j:=3) kr kr q23 gE ?_
      refine loadF (enc:=eI) (ls:=s15.2) (x:=a22) (n:=s6.1) (ob:=1) (j:=3) kr kr q23 gE ?_
      refine sy 1 10 ?_
      refine bind_elim h (fun a24 q25 h=>?_)
      refine idxI (enc:=eI) (ls:=s15.2) (x:=a22) (y:=a24) (n:=s6.1) (c:=a20) (w:=1) (j:=3) (fl:=true) kr kr q23 q25 rfl gE ?_
      refine loadI (enc:=eI) (ls:=s15.2) (x:=a22) (y:=a24) (n:=s6.1) (m:=a20) (w:=1) (j:=3) (c:=0) (fl:=true) kr kr q23 q25 rfl gE ?_
      refine sy 4 16 ?_
      refine sliceL (enc:=eI) (l:=p1) (fl:=true) (lo:=none) (hi:=(some (vI (zw (s6.1+1))))) (a:=0) (b:=zw (s6.1+1)) (w:=1) kr (fun _=>rfl) rfl rfl gE h (fun h=>?_)
      refine sy 2 19 ?_
      refine idxR' (enc:=z1) (l:=x13) (n:=s15.1) (w:=1) (ob:=2) (ro:=false) (nr:=true) (fl:=false) (a:=a18) kr kr gE q19 ?_
      refine loadR (enc:=z1) (l:=x13) (n:=s15.1) (w:=1) (ob:=2) (c:=0) (bx:=false) (ro:=false) (nr:=true) (fl:=false) (a:=a18) kr kr q19 gE ?_
      refine callW bodyB_68 (g_ref17_Weight_ok p0 (sub p1 0 (zw (s6.1+1))) a18) h (fun x26 _ h=>?_)
      refine sy 1 23 ?_
      refine idxI (enc:=eI) (ls:=s15.2) (x:=a22) (y:=a24) (n:=s6.1) (c:=a20) (w:=1) (j:=3) (fl:=true) kr kr q23 q25 rfl gE ?_
      refine storeI (enc:=eI) (ls:=s15.2) (x:=a22) (y:=a24) (y':=zw (a24+x26)) (n:=s6.1) (m:=a20) (w:=1) (j:=3) (q:=1) (c:=0) (fl:=true) (v:=vI (zw (a24+x26))) kr kr kr q23 q25 rfl kr kr kr gE ?_
      refine rl [5,43,48] (n:=s15.2.length) (m:=(List.set s15.2 (zt s6.1) (List.set a22 (zt a20) (zw (a24+x26)))).length) (by simp only [List.length_set]) ?_
      refine rgd ?_
      refine ⟨_,wk_refl,?_⟩
      refine wgc [1,2,5,6,7,8] [0,1,2,3] ⟨[(1,z1 p1),(2,.ptr 0 0 0),(5,.ref 1 0 ((List.set s15.2 (zt s6.1) (List.set a22 (zt a20) (zw (a24+x26)))).length)),(6,vI s6.1),(7,.ref 2 0 x13.length),(8,vI s15.1)],[oX true false 4 (.agg [vI p0.Grain,z1 p0.First,z2 p0.Step,z2 p0.Show]),.refs 3 (eF eI (List.set s15.2 (zt s6.1) (List.set a22 (zt a20) (zw (a24+x26))))),oR false 1 z1 x13,.fam 1 true (eF eI (List.set s15.2 (zt s6.1) (List.set a22 (zt a20) (zw (a24+x26)))))],121⟩ ?_
      refine rn ?_
      cases h
      exact ⟨_,rfl,(wk_gc (live:=[1,2,5,6,7,8]) (keep:=[0,1,2,3]) kr)⟩
     refine wcF (wg [1,2,5,6] [0,1,3] ?_)
     refine wp_exit ?_
     cases h
     exact ⟨kr,rfl⟩
    intro x30 h out hx
    subst hx
    refine wg [1,2,5,6] [0,1,2] ?_
    refine wp_exit ?_
    refine rn ?_
    cases h
    exact ⟨_,rfl,(wk_gc (live:=[1,2,5,6]) (keep:=[0,1,2]) kr)⟩
   refine wp_skip (wp_seq ?_)
   refine wgc [1,2,5,6] [0,1,2] ⟨[(1,z1 p1),(2,.ptr 0 0 0),(5,.ref 1 0 s6.2.length),(6,vI s6.1)],(s20_54 p0 s6),121⟩ ?_
   refine rn (wp_block ?_)
   refine wwh h (fun s31=>⟨[(1,z1 p1),(2,.ptr 0 0 0),(5,.ref 1 0 s31.2.length),(6,vI s6.1),(10,vI s31.1)],[oX true false 4 (.agg [vI p0.Grain,z1 p0.First,z2 p0.Step,z2 p0.Show]),.refs 2 (eF eI s31.2),.fam 1 true (eF eI s31.2)],121⟩) (fun v out=>out=.go (.exit 4) ⟨[(1,z1 p1),(2,.ptr 0 0 0),(5,.ref 1 0 v.length),(6,vI s6.1)],[oX true false 4 (.agg [vI p0.Grain,z1 p0.First,z2 p0.Step,z2 p0.Show]),.refs 2 (eF eI v),.fam 1 true (eF eI v)],121⟩) (wk_gc (live:=[1,2,5,6,10]) (keep:=[0,1,2]) kr) ?_ ?_
   ·intro s31 o h
    unfold g_ref17_Forward_b3 at h
    refine wp_seq (wp_seq ?_)
    refine wp_post ?_
    refine reg_in (sz 3 3 ?_)
    refine lenL (enc:=eI) (l:=p0.First) (fl:=true) kr gE ?_
    refine sz 1 5 (reg_end rfl ?_)
    refine ⟨_,wk_refl,?_⟩
    refine wbz h (fun q33 h=>?_) (fun q33 h=>?_)
    ·refine wp_skip (wp_seq (wp_block (wp_seq (wg [1,2,5,6,10] [0,1,2] (rn (wp_block ?_))))))
     refine wwh h (fun s34=>⟨[(1,z1 p1),(2,.ptr 0 0 0),(5,.ref 1 0 s34.2.length),(6,vI s6.1),(10,vI s31.1),(11,vI s34.1)],(s20_42 p0 s34),121⟩) (fun v out=>out=.go (.exit 6) ⟨[(1,z1 p1),(2,.ptr 0 0 0),(5,.ref 1 0 v.length),(6,vI s6.1),(10,vI s31.1)],[oX true false 4 (.agg [vI p0.Grain,z1 p0.First,z2 p0.Step,z2 p0.Show]),.refs 2 (eF eI v),.fam 1 true (eF eI v)],121⟩) (wk_gc (live:=[1,2,5,6,10,11]) (keep:=[0,1,2]) kr) ?_ ?_
     ·intro s34 o h
      unfold g_ref17_Forward_b2 at h
      refine wp_seq (wp_seq ?_)
      refine wp_post ?_
      refine reg_in (sz 3 3 ?_)
      refine lenL (enc:=eI) (l:=p0.First) (fl:=true) kr gE ?_
      refine sz 1 5 (reg_end rfl ?_)
      refine ⟨_,wk_refl,?_⟩
      refine wbz h (fun q36 h=>?_) (fun q36 h=>?_)
      ·refine wp_skip (wp_seq (wp_block (wg [1,2,5,6,10,11] [0,1,2] ?_)))
       refine wp_post ?_
       refine rga hfol (sy 2 2 ?_)
       refine bind_elim h (fun a37 q38 h=>?_)
       refine idxF (enc:=eI) (ls:=s34.2) (x:=a37) (n:=s6.1) (ob:=1) (j:=2) kr kr q38 gE ?_
       refine loadF (enc:=eI) (ls:=s34.2) (x:=a37) (n:=s6.1) (ob:=1) (j:=2) kr kr q38 gE ?_
       refine sy 3 7 ?_
       refine idxF (enc:=eI) (ls:=s34.2) (x:=a37) (n:=s6.1) (ob:=1) (j:=2) kr kr q38 gE ?_
       refine loadF (enc:=eI) (ls:=s34.2) (x:=a37) (n:=s6.1) (ob:=1) (j:=2) kr kr q38 gE ?_
       refine sy 1 10 ?_
       refine bind_elim h (fun a39 q40 h=>?_)
       refine idxI (enc:=eI) (ls:=s34.2) (x:=a37) (y:=a39) (n:=s6.1) (c:=s31.1) (w:=1) (j:=2) (fl:=true) kr kr q38 q40 rfl gE ?_
       refine loadI (enc:=eI) (ls:=s34.2) (x:=a37) (y:=a39) (n:=s6.1) (m:=s31.1) (w:=1) (j:=2) (c:=0) (fl:=true) kr kr q38 q40 rfl gE ?_
       refine sy 3 15 ?_
       refine bind_elim h (fun a41 q42 h=>?_)
       refine idxF (enc:=eI) (ls:=s34.2) (x:=a41) (n:=zw (s6.1 - 1)) (ob:=1) (j:=2) kr kr q42 gE ?_
       refine loadF (enc:=eI) (ls:=s34.2) (x:=a41) (n:=zw (s6.1 - 1)) (ob:=1) (j:=2) kr kr q42 gE ?_
       refine sy 1 18 ?_
       refine bind_elim h (fun a43 q44 h=>?_)
       refine idxI (enc:=eI) (ls:=s34.2) (x:=a41) (y:=a43) (n:=zw (s6.1 - 1)) (c:=s34.1) (w:=1) (j:=2) (fl:=true) (S:=⟨[(1,z1 p1),(2,.ptr 0 0 0),(5,.ref 1 0 s34.2.length),(6,vI s6.1),(10,vI s31.1),(11,vI s34.1),(81,.ref 1 0 s34.2.length),(82,vI s6.1),(83,.ptr 1 (zt s6.1) 0),(84,.ref (fid 2 (zt s6.1)) 0 a37.length),(85,vI s31.1),(86,.ref 1 0 s34.2.length),(87,vI s6.1),(88,.ptr 1 (zt s6.1) 0),(89,.ref (fid 2 (zt s6.1)) 0 a37.length),(90,vI s31.1),(91,.ptr (fid 2 (zt s6.1)) (zt s31.1) 0),(92,vI a39),(93,.ref 1 0 s34.2.length),(94,vI s6.1),(95,vI (zw (s6.1 - 1))),(96,.ptr 1 (zt (zw (s6.1 - 1))) 0),(97,.ref (fid 2 (zt (zw (s6.1 - 1)))) 0 a41.length),(98,vI s34.1),(99,.ptr (fid 2 (zt (zw (s6.1 - 1)))) (zt s34.1) 0)],(s20_42 p0 s34),121⟩) kr kr q42 q44 rfl kr ?_
       refine loadI (enc:=eI) (ls:=s34.2) (x:=a41) (y:=a43) (n:=zw (s6.1 - 1)) (m:=s34.1) (w:=1) (j:=2) (c:=0) (fl:=true) kr kr q42 q44 rfl gE ?_
       refine sy 3 23 ?_
       refine bind_elim h (fun a45 q46 h=>?_)
       refine idxL' (enc:=z1) (l:=p0.Step) (n:=s34.1) (fl:=false) (w:=1) (a:=a45) kr rfl gE q46 ?_
       refine sy 2 26 ?_
       refine bind_elim h (fun a47 q48 h=>?_)
       refine idxL' (enc:=eI) (l:=a45) (n:=s31.1) (fl:=true) (w:=1) (a:=a47) kr rfl gE q48 ?_
       refine sy 6 33 ?_
       refine bind_elim h (fun a49 q50 h=>?_)
       refine idxL' (enc:=eI) (l:=p1) (n:=s6.1) (fl:=true) (w:=1) (a:=a49) kr rfl gE q50 ?_
       refine sy 1 35 ?_
       refine callW bodyB_69 (g_ref17_Shows_ok p0 s31.1 a49) h (fun x51 _ h=>?_)
       refine sy 2 38 ?_
       refine idxI (enc:=eI) (ls:=s34.2) (x:=a37) (y:=a39) (n:=s6.1) (c:=s31.1) (w:=1) (j:=2) (fl:=true) kr kr q38 q40 rfl gE ?_
       refine storeI (enc:=eI) (ls:=s34.2) (x:=a37) (y:=a39) (y':=zw (a39+(zw ((zw (a43*a47))*x51)))) (n:=s6.1) (m:=s31.1) (w:=1) (j:=2) (q:=1) (c:=0) (fl:=true) (v:=vI (zw (a39+(zw ((zw (a43*a47))*x51))))) kr kr kr q38 q40 rfl kr kr kr gE ?_
       refine rl [5,81,86,93] (n:=s34.2.length) (m:=(List.set s34.2 (zt s6.1) (List.set a37 (zt s31.1) (zw (a39+(zw ((zw (a43*a47))*x51)))))).length) (by simp only [List.length_set]) ?_
       refine rgd ?_
       refine ⟨_,wk_refl,?_⟩
       refine wgc [1,2,5,6,10,11] [0,1,2] ⟨[(1,z1 p1),(2,.ptr 0 0 0),(5,.ref 1 0 ((List.set s34.2 (zt s6.1) (List.set a37 (zt s31.1) (zw (a39+(zw ((zw (a43*a47))*x51)))))).length)),(6,vI s6.1),(10,vI s31.1),(11,vI s34.1)],[oX true false 4 (.agg [vI p0.Grain,z1 p0.First,z2 p0.Step,z2 p0.Show]),.refs 2 (eF eI (List.set s34.2 (zt s6.1) (List.set a37 (zt s31.1) (zw (a39+(zw ((zw (a43*a47))*x51))))))),.fam 1 true (eF eI (List.set s34.2 (zt s6.1) (List.set a37 (zt s31.1) (zw (a39+(zw ((zw (a43*a47))*x51)))))))],121⟩ ?_
       refine rn ?_
       cases h
       exact ⟨_,rfl,(wk_gc (live:=[1,2,5,6,10,11]) (keep:=[0,1,2]) kr)⟩
      refine wg [1,2,5,6,10] [0,1,2] ?_
      refine wp_exit ?_
      cases h
      exact ⟨kr,rfl⟩
     intro x55 h out hx
     subst hx
     refine rn ?_
     cases h
     exact ⟨_,rfl,(wk_gc (live:=[1,2,5,6,10]) (keep:=[0,1,2]) kr)⟩
    refine wg [1,2,5,6] [0,1,2] ?_
    refine wp_exit ?_
    cases h
    exact ⟨kr,rfl⟩
   intro x57 h out hx
   subst hx
   refine rn ?_
   cases h
   exact ⟨_,rfl,(wk_gc (live:=[1,2,5,6]) (keep:=[0,1,2]) kr)⟩
  refine wcF (wg [5] [1,2] ?_)
  refine wp_exit ?_
  cases h
  exact ⟨kr,rfl⟩
 intro x59 h out hx
 subst hx
 refine sq ?_
 refine wgc [4] [0,1] ⟨[(4,.ref 0 0 x59.length)],[.refs 1 (eF eI x59),.fam 1 true (eF eI x59)],121⟩ ?_
 refine wp_wk (wk_frzF 0 1 (enc:=eI) (ls:=x59) (st':=⟨[(4,.ref 0 0 x59.length)],[oR false 1 z1 x59,.dead],121⟩) rfl rfl kr) ?_
 cases h
 exact wp_ret (show fnOut _ _ _ _=_ from by kernel_rfl)
noncomputable abbrev s21_1 (p0:Tapi_Hidden) (p1:(List Int)):List (Nat × AV):=[(0,.agg [vI p0.Grain,z1 p0.First,z2 p0.Step,z2 p0.Show]),(1,z1 p1)]
noncomputable abbrev s21_4 (p0:Tapi_Hidden) (p1:(List Int)):List (Nat × AV):=[(0,.agg [vI p0.Grain,z1 p0.First,z2 p0.Step,z2 p0.Show]),(1,vI (zn p1))]
noncomputable abbrev s21_5 (p0:Tapi_Hidden):List AObj:=[oX true false 4 (.agg [vI p0.Grain,z1 p0.First,z2 p0.Step,z2 p0.Show]),oX true false 4 (.agg [vI p0.Grain,z1 p0.First,z2 p0.Step,z2 p0.Show])]
noncomputable abbrev s21_18 (p1:(List Int)) (s1:(Int × (List (List Int)))) (p0:Tapi_Hidden):List (Nat × AV):=[(1,vI (zn p1)),(2,.ptr 1 0 0),(5,.ref 6 0 ((s1.2++[(List.replicate (zt (zn p0.First)) (0:Int))]).length)),(6,vI s1.1),(7,vI s1.1),(8,vI (zn p1)),(9,vB true),(12,.ref 2 0 s1.2.length),(13,.ptr 1 0 1),(14,z1 p0.First),(15,vI (zn p0.First)),(16,.ref 4 0 ((List.replicate (zt (zn p0.First)) (0:Int)).length)),(17,.ref 5 0 1),(18,.ref 6 0 ((s1.2++[(List.replicate (zt (zn p0.First)) (0:Int))]).length))]
noncomputable abbrev s21_20 (p1:(List Int)) (s1:(Int × (List (List Int)))) (p0:Tapi_Hidden):List (Nat × AV):=[(1,vI (zn p1)),(2,.ptr 1 0 0),(5,.ref 6 0 ((s1.2++[(List.replicate (zt (zn p0.First)) (0:Int))]).length)),(6,vI s1.1),(7,vI s1.1),(8,vI (zn p1)),(9,vB true),(12,.ref 2 0 s1.2.length),(13,.ptr 1 0 1),(14,z1 p0.First),(15,vI (zn p0.First)),(17,.ref 5 0 1),(18,.ref 6 0 ((s1.2++[(List.replicate (zt (zn p0.First)) (0:Int))]).length))]
noncomputable abbrev s21_21 (p0:Tapi_Hidden) (s1:(Int × (List (List Int)))):List AObj:=[oX true false 4 (.agg [vI p0.Grain,z1 p0.First,z2 p0.Step,z2 p0.Show]),oX true false 4 (.agg [vI p0.Grain,z1 p0.First,z2 p0.Step,z2 p0.Show]),.dead,.fam 1 true (eF eI (s1.2++[(List.replicate (zt (zn p0.First)) (0:Int))])),.dead,.dead,.refs 3 (eF eI (s1.2++[(List.replicate (zt (zn p0.First)) (0:Int))]))]
noncomputable abbrev s21_33 (p0:Tapi_Hidden) (s16:(Int × (List (List Int)))):List AObj:=[oX true false 4 (.agg [vI p0.Grain,z1 p0.First,z2 p0.Step,z2 p0.Show]),.refs 2 (eF eI s16.2),.fam 1 true (eF eI s16.2)]
noncomputable abbrev s21_54 (p0:Tapi_Hidden) (s40:(Int × (List (List Int)))) (x38:(List (List Int))):List AObj:=[oX true false 4 (.agg [vI p0.Grain,z1 p0.First,z2 p0.Step,z2 p0.Show]),.refs 3 (eF eI s40.2),oR false 1 z1 x38,.fam 1 true (eF eI s40.2)]
noncomputable abbrev s21_73 (p0:Tapi_Hidden) (s9:(Int × (List (List Int)))):List AObj:=[oX true false 4 (.agg [vI p0.Grain,z1 p0.First,z2 p0.Step,z2 p0.Show]),.refs 2 (eF eI s9.2),.fam 1 true (eF eI s9.2)]
noncomputable abbrev s21_154 (p1:(List Int)) (s9:(Int × (List (List Int)))) (s6:(Int × (List (List Int)))):List (Nat × AV):=[(1,z1 p1),(2,.ptr 0 0 0),(5,vI (zn p1)),(6,.ref 1 0 s9.2.length),(7,vI s6.1),(8,vI s9.1)]
theorem g_ref17_Backward_ok (p0:Tapi_Hidden) (p1:(List Int)) (x:(List (List Int))) (h:g_ref17_Backward p0 p1=some x):CallOk Try.prog 21 [.agg [vI p0.Grain,z1 p0.First,z2 p0.Step,z2 p0.Show],z1 p1] (.ret (.ref 0 0 x.length) [oR false 1 z1 x]):=by
 refine fn_ok [] Try.func21 rfl (by decide +kernel) rfl ?_
 unfold g_ref17_Backward at h
 refine wp_eqB (base':=0) (st':=⟨(s21_1 p0 p1),[],165⟩) kr kr ?_
 refine wp_seq (reg_in ?_)
 refine sgL false [] [] false gE ?_
 refine sz 1 2 (reg_end rfl (wp_seq (reg_in (sz 1 1 ?_))))
 refine lenL (enc:=eI) (l:=p1) (fl:=true) kr gE ?_
 refine sz 1 3 (reg_end rfl (wp_seq ?_))
 refine wp_post ?_
 refine reg_in (sz 2 2 ?_)
 refine inlR (f:=65) (fn:=Try.f65) (as0:=[.agg [vI p0.Grain,z1 p0.First,z2 p0.Step,z2 p0.Show],vI (zn p1)]) kr Try.func65 rfl (by decide +kernel) rfl ?_
 refine wp_eqB (base':=1) (st':=⟨(s21_4 p0 p1),[oX true false 4 (.agg [vI p0.Grain,z1 p0.First,z2 p0.Step,z2 p0.Show])],20⟩) kr kr ?_
 refine wp_seq (reg_in ?_)
 refine sgL false [] [] false gE ?_
 refine sz 1 2 (reg_end rfl (sq (wp_seq ?_)))
 refine sqN (S:=⟨(s21_4 p0 p1)++[(2,.ptr 1 0 0),(4,.nils),(5,.nils),(6,vI 0)],(s21_5 p0),20⟩) ?_
 refine wp_block ?_
 refine wwh h (fun s1=>⟨[(1,vI (zn p1)),(2,.ptr 1 0 0),(5,.ref 2 0 s1.2.length),(6,vI s1.1)],[oX true false 4 (.agg [vI p0.Grain,z1 p0.First,z2 p0.Step,z2 p0.Show]),oX true false 4 (.agg [vI p0.Grain,z1 p0.First,z2 p0.Step,z2 p0.Show]),.refs 3 (eF eI s1.2),.fam 1 true (eF eI s1.2)],20⟩) (fun v out=>out=.go (.exit 0) ⟨[(5,.ref 1 0 v.length)],[oX true false 4 (.agg [vI p0.Grain,z1 p0.First,z2 p0.Step,z2 p0.Show]),.refs 2 (eF eI v),.fam 1 true (eF eI v)],20⟩) (wk_trans (wk_gc (live:=[1,2,5,6]) (keep:=[1]) (st':=⟨[(1,vI (zn p1)),(2,.ptr 1 0 0),(5,.nils),(6,vI 0)],(s21_5 p0),20⟩) kr) (wk_trans (wk_nil 5 1 true true (st':=⟨[(1,vI (zn p1)),(2,.ptr 1 0 0),(5,.ref 2 0 0),(6,vI 0)],[oX true false 4 (.agg [vI p0.Grain,z1 p0.First,z2 p0.Step,z2 p0.Show]),oX true false 4 (.agg [vI p0.Grain,z1 p0.First,z2 p0.Step,z2 p0.Show]),.row false false true true 1 []],20⟩) kr) (wk_trans (wk_fam 2 1 true (x0:=([]:List Int)) (n:=0) (enc1:=fun _=>AV.nils) eI rfl rfl rfl (st':=⟨[(1,vI (zn p1)),(2,.ptr 1 0 0),(5,.ref 2 0 (([]:List (List Int)).length)),(6,vI 0)],[oX true false 4 (.agg [vI p0.Grain,z1 p0.First,z2 p0.Step,z2 p0.Show]),oX true false 4 (.agg [vI p0.Grain,z1 p0.First,z2 p0.Step,z2 p0.Show]),.refs 3 (eF eI ([]:List (List Int))),.fam 1 true (eF eI ([]:List (List Int)))],20⟩) kr) (wk_gc (live:=[1,2,5,6]) (keep:=[1,2,3]) kr)))) ?_ ?_
 ·intro s1 o h
  unfold g_ref17_Backward_b0 at h
  refine wp_seq (sq ?_)
  refine wb [9] h (fun q3 h=>?_) (fun q3 h=>?_)
  ·refine wcT (wp_skip (wp_seq (wp_block ?_)))
   refine wp_post ?_
   refine reg_in (sz 3 3 ?_)
   refine lenL (enc:=eI) (l:=p0.First) (fl:=true) kr gE ?_
   refine mkL (enc:=eI) (z:=(0:Int)) (z0:=vI 0) (n:=(zn p0.First)) (m:=(zn p0.First)) (w:=1) (bytes:=8) (S:=⟨[(1,vI (zn p1)),(2,.ptr 1 0 0),(5,.ref 2 0 s1.2.length),(6,vI s1.1),(7,vI s1.1),(8,vI (zn p1)),(9,vB true),(12,.ref 2 0 s1.2.length),(13,.ptr 1 0 1),(14,z1 p0.First)]++[(15,vI (zn p0.First)),(16,.ref 4 0 ((List.replicate (zt (zn p0.First)) (0:Int)).length))],[oX true false 4 (.agg [vI p0.Grain,z1 p0.First,z2 p0.Step,z2 p0.Show]),oX true false 4 (.agg [vI p0.Grain,z1 p0.First,z2 p0.Step,z2 p0.Show]),.refs 3 (eF eI s1.2),.fam 1 true (eF eI s1.2),oR true 1 eI (List.replicate (zt (zn p0.First)) (0:Int))],20⟩) [] true kr rfl kr kr h (fun h=>?_)
   refine sgN true 1 6 gE rfl ?_
   refine appF (enc:=eI) (ls:=s1.2) (q:=(List.replicate (zt (zn p0.First)) (0:Int))) (bytes:=24) (ob:=2) (j:=3) (tm:=5) (m:=4) kr kr rfl kr gE kr h (fun h=>?_)
   refine sgz 1 8 (S:=⟨(s21_18 p1 s1 p0),[oX true false 4 (.agg [vI p0.Grain,z1 p0.First,z2 p0.Step,z2 p0.Show]),oX true false 4 (.agg [vI p0.Grain,z1 p0.First,z2 p0.Step,z2 p0.Show]),.dead,.fam 1 true (eF eI s1.2),oR true 1 eI (List.replicate (zt (zn p0.First)) (0:Int)),.row false false false false 1 [.ref 4 0 ((List.replicate (zt (zn p0.First)) (0:Int)).length)],.row false false false false 1 (famRefs 3 0 (eF eI s1.2)++[.ref 4 0 (List.replicate (zt (zn p0.First)) (0:Int)).length])],20⟩) ?_
   refine reg_end rfl ?_
   refine ⟨⟨(s21_20 p1 s1 p0),(s21_21 p0 s1),20⟩,(wk_trans (wk_dead 5 (st':=⟨(s21_18 p1 s1 p0),[oX true false 4 (.agg [vI p0.Grain,z1 p0.First,z2 p0.Step,z2 p0.Show]),oX true false 4 (.agg [vI p0.Grain,z1 p0.First,z2 p0.Step,z2 p0.Show]),.dead,.fam 1 true (eF eI s1.2),oR true 1 eI (List.replicate (zt (zn p0.First)) (0:Int)),.dead,.row false false false false 1 (famRefs 3 0 (eF eI s1.2)++[.ref 4 0 (List.replicate (zt (zn p0.First)) (0:Int)).length])],20⟩) (by kernel_rfl)) (wk_adoptA 6 3 4 (enc:=eI) (ls:=s1.2) (b:=(List.replicate (zt (zn p0.First)) (0:Int))) [1,2,5,6,7,8,9,12,13,14,15,17,18] (st':=⟨(s21_20 p1 s1 p0),(s21_21 p0 s1),20⟩) rfl rfl rfl (by kernel_rfl) (by kernel_rfl))),?_⟩
   refine wg [1,2,5,6] [1,6,3] (rn ?_)
   cases h
   exact ⟨_,rfl,(wk_gc (live:=[1,2,5,6]) (keep:=[1,2,3]) kr)⟩
  refine wcF (wg [5] [2,3] ?_)
  refine wp_exit ?_
  cases h
  exact ⟨kr,rfl⟩
 intro x5 h out hx
 subst hx
 refine sq (wg [4] [1,2] ?_)
 refine wp_ret ?_
 refine ⟨⟨(s21_1 p0 p1)++[(2,.ptr 0 0 0),(4,.nils),(15,z1 p1),(16,vI (zn p1)),(5,vI (zn p1)),(17,.agg [vI p0.Grain,z1 p0.First,z2 p0.Step,z2 p0.Show]),(18,vI (zn p1))]++[(19,.ref 1 0 x5.length)],[oX true false 4 (.agg [vI p0.Grain,z1 p0.First,z2 p0.Step,z2 p0.Show]),.refs 2 (eF eI x5),.fam 1 true (eF eI x5)],165⟩,by as_aux_lemma=>kernel_rfl,?_⟩
 refine sz 1 4 (reg_end rfl ?_)
 refine ⟨_,wk_refl,?_⟩
 refine wp_seq (wp_seq (wg [1,2,5,6] [0,1,2] (rn (wp_block ?_))))
 refine wwh h (fun s6=>⟨[(1,z1 p1),(2,.ptr 0 0 0),(5,vI (zn p1)),(6,.ref 1 0 s6.2.length),(7,vI s6.1)],[oX true false 4 (.agg [vI p0.Grain,z1 p0.First,z2 p0.Step,z2 p0.Show]),.refs 2 (eF eI s6.2),.fam 1 true (eF eI s6.2)],165⟩) (fun v out=>out=.go (.exit 0) ⟨[(6,.ref 0 0 v.length)],[.refs 1 (eF eI v),.fam 1 true (eF eI v)],165⟩) (wk_gc (live:=[1,2,5,6,7]) (keep:=[0,1,2]) kr) ?_ ?_
 ·intro s6 o h
  unfold g_ref17_Backward_b5 at h
  refine wp_seq (sq ?_)
  refine wb [23] h (fun q8 h=>?_) (fun q8 h=>?_)
  ·refine wcT (wp_skip (wp_seq (wp_block (sq (wp_block ?_)))))
   refine wwh h (fun s9=>⟨(s21_154 p1 s9 s6),(s21_73 p0 s9),165⟩) (fun v out=>out=.go (.exit 2) ⟨[(1,z1 p1),(2,.ptr 0 0 0),(5,vI (zn p1)),(6,.ref 1 0 v.length),(7,vI s6.1)],[oX true false 4 (.agg [vI p0.Grain,z1 p0.First,z2 p0.Step,z2 p0.Show]),.refs 2 (eF eI v),.fam 1 true (eF eI v)],165⟩) (wk_gc (live:=[1,2,5,6,7,8]) (keep:=[0,1,2]) kr) ?_ ?_
   ·intro s9 o h
    unfold g_ref17_Backward_b4 at h
    refine wp_seq (wp_seq ?_)
    refine wp_post ?_
    refine reg_in (sz 3 3 ?_)
    refine lenL (enc:=eI) (l:=p0.First) (fl:=true) kr gE ?_
    refine sz 1 5 (reg_end rfl ?_)
    refine ⟨_,wk_refl,?_⟩
    refine wbz h (fun q11 h=>?_) (fun q11 h=>?_)
    ·refine wp_skip (wp_seq (wp_block (wp_seq (wp_seq (wg [1,2,5,6,7,8] [0,1,2] ?_)))))
     refine wp_post ?_
     refine reg_in (sz 5 5 ?_)
     refine callW bodyB_66 (g_ref17_short_ok p0 (zw ((zw ((zn p1) - 1)) - s6.1))) h (fun x12 _ h=>?_)
     refine sz 1 7 (reg_end rfl ?_)
     refine ⟨_,wk_refl,?_⟩
     refine wbz h (fun q15 h=>?_) (fun q15 h=>?_)
     ·refine wp_seq (wp_seq ?_)
      refine wgc [1,2,5,6,7,8] [0,1,2] ⟨(s21_154 p1 s9 s6),(s21_73 p0 s9),165⟩ ?_
      refine rn (wp_block ?_)
      refine wwh h (fun s16=>⟨[(1,z1 p1),(2,.ptr 0 0 0),(5,vI (zn p1)),(6,.ref 1 0 s16.2.length),(7,vI s6.1),(8,vI s9.1),(9,vI s16.1)],(s21_33 p0 s16),165⟩) (fun v out=>out=.go (.exit 4) ⟨[(1,z1 p1),(2,.ptr 0 0 0),(5,vI (zn p1)),(6,.ref 1 0 v.length),(7,vI s6.1),(8,vI s9.1)],[oX true false 4 (.agg [vI p0.Grain,z1 p0.First,z2 p0.Step,z2 p0.Show]),.refs 2 (eF eI v),.fam 1 true (eF eI v)],165⟩) (wk_gc (live:=[1,2,5,6,7,8,9]) (keep:=[0,1,2]) kr) ?_ ?_
      ·intro s16 o h
       unfold g_ref17_Backward_b1 at h
       refine wp_seq (wp_seq ?_)
       refine wp_post ?_
       refine reg_in (sz 3 3 ?_)
       refine lenL (enc:=eI) (l:=p0.First) (fl:=true) kr gE ?_
       refine sz 1 5 (reg_end rfl ?_)
       refine ⟨_,wk_refl,?_⟩
       refine wbz h (fun q18 h=>?_) (fun q18 h=>?_)
       ·refine wp_skip (wp_seq (wp_block (wg [1,2,5,6,7,8,9] [0,1,2] ?_)))
        refine wp_post ?_
        refine rga hfol (sy 2 2 ?_)
        refine bind_elim h (fun a19 q20 h=>?_)
        refine idxF (enc:=eI) (ls:=s16.2) (x:=a19) (n:=s6.1) (ob:=1) (j:=2) kr kr q20 gE ?_
        refine loadF (enc:=eI) (ls:=s16.2) (x:=a19) (n:=s6.1) (ob:=1) (j:=2) kr kr q20 gE ?_
        refine sy 3 7 ?_
        refine idxF (enc:=eI) (ls:=s16.2) (x:=a19) (n:=s6.1) (ob:=1) (j:=2) kr kr q20 gE ?_
        refine loadF (enc:=eI) (ls:=s16.2) (x:=a19) (n:=s6.1) (ob:=1) (j:=2) kr kr q20 gE ?_
        refine sy 1 10 ?_
        refine bind_elim h (fun a21 q22 h=>?_)
        refine idxI (enc:=eI) (ls:=s16.2) (x:=a19) (y:=a21) (n:=s6.1) (c:=s9.1) (w:=1) (j:=2) (fl:=true) kr kr q20 q22 rfl gE ?_
        refine loadI (enc:=eI) (ls:=s16.2) (x:=a19) (y:=a21) (n:=s6.1) (m:=s9.1) (w:=1) (j:=2) (c:=0) (fl:=true) kr kr q20 q22 rfl gE ?_
        refine sy 3 15 ?_
        refine bind_elim h (fun a23 q24 h=>?_)
        refine idxL' (enc:=z1) (l:=p0.Step) (n:=s9.1) (fl:=false) (w:=1) (a:=a23) kr rfl gE q24 ?_
        refine sy 2 18 ?_
        refine bind_elim h (fun a25 q26 h=>?_)
        refine idxL' (enc:=eI) (l:=a23) (n:=s16.1) (fl:=true) (w:=1) (a:=a25) (S:=⟨[(1,z1 p1),(2,.ptr 0 0 0),(5,vI (zn p1)),(6,.ref 1 0 s16.2.length),(7,vI s6.1),(8,vI s9.1),(9,vI s16.1)]++[(47,.ref 1 0 s16.2.length),(48,vI s6.1),(49,.ptr 1 (zt s6.1) 0),(50,.ref (fid 2 (zt s6.1)) 0 a19.length),(51,vI s9.1),(52,.ref 1 0 s16.2.length),(53,vI s6.1)]++[(54,.ptr 1 (zt s6.1) 0),(55,.ref (fid 2 (zt s6.1)) 0 a19.length),(56,vI s9.1),(57,.ptr (fid 2 (zt s6.1)) (zt s9.1) 0),(58,vI a21),(59,.ptr 0 0 2),(60,z2 p0.Step),(61,vI s9.1)]++[(62,.fz [z1 a23]),(63,z1 a23),(64,vI s16.1),(65,.fz [vI a25])],(s21_33 p0 s16),165⟩) kr rfl kr q26 ?_
        refine sy 6 25 ?_
        refine bind_elim h (fun a27 q28 h=>?_)
        refine idxL' (enc:=eI) (l:=p1) (n:=zw (s6.1+1)) (fl:=true) (w:=1) (a:=a27) kr rfl gE q28 ?_
        refine sy 1 27 ?_
        refine callW bodyB_69 (g_ref17_Shows_ok p0 s16.1 a27) h (fun x29 _ h=>?_)
        refine sy 4 32 ?_
        refine bind_elim h (fun a31 q32 h=>?_)
        refine idxF (enc:=eI) (ls:=s16.2) (x:=a31) (n:=zw (s6.1+1)) (ob:=1) (j:=2) kr kr q32 gE ?_
        refine loadF (enc:=eI) (ls:=s16.2) (x:=a31) (n:=zw (s6.1+1)) (ob:=1) (j:=2) kr kr q32 gE ?_
        refine sy 1 35 ?_
        refine bind_elim h (fun a33 q34 h=>?_)
        refine idxI (enc:=eI) (ls:=s16.2) (x:=a31) (y:=a33) (n:=zw (s6.1+1)) (c:=s16.1) (w:=1) (j:=2) (fl:=true) kr kr q32 q34 rfl gE ?_
        refine loadI (enc:=eI) (ls:=s16.2) (x:=a31) (y:=a33) (n:=zw (s6.1+1)) (m:=s16.1) (w:=1) (j:=2) (c:=0) (fl:=true) kr kr q32 q34 rfl gE ?_
        refine sy 2 39 ?_
        refine idxI (enc:=eI) (ls:=s16.2) (x:=a19) (y:=a21) (n:=s6.1) (c:=s9.1) (w:=1) (j:=2) (fl:=true) kr kr q20 q22 rfl gE ?_
        refine storeI (enc:=eI) (ls:=s16.2) (x:=a19) (y:=a21) (y':=zw (a21+(zw ((zw (a25*x29))*a33)))) (n:=s6.1) (m:=s9.1) (w:=1) (j:=2) (q:=1) (c:=0) (fl:=true) (v:=vI (zw (a21+(zw ((zw (a25*x29))*a33))))) kr kr kr q20 q22 rfl kr kr kr gE ?_
        refine rl [6,47,52,76] (n:=s16.2.length) (m:=(List.set s16.2 (zt s6.1) (List.set a19 (zt s9.1) (zw (a21+(zw ((zw (a25*x29))*a33)))))).length) (by simp only [List.length_set]) ?_
        refine rgd ?_
        refine ⟨_,wk_refl,?_⟩
        refine wgc [1,2,5,6,7,8,9] [0,1,2] ⟨[(1,z1 p1),(2,.ptr 0 0 0),(5,vI (zn p1)),(6,.ref 1 0 ((List.set s16.2 (zt s6.1) (List.set a19 (zt s9.1) (zw (a21+(zw ((zw (a25*x29))*a33)))))).length)),(7,vI s6.1),(8,vI s9.1),(9,vI s16.1)],[oX true false 4 (.agg [vI p0.Grain,z1 p0.First,z2 p0.Step,z2 p0.Show]),.refs 2 (eF eI (List.set s16.2 (zt s6.1) (List.set a19 (zt s9.1) (zw (a21+(zw ((zw (a25*x29))*a33))))))),.fam 1 true (eF eI (List.set s16.2 (zt s6.1) (List.set a19 (zt s9.1) (zw (a21+(zw ((zw (a25*x29))*a33)))))))],165⟩ ?_
        refine rn ?_
        cases h
        exact ⟨_,rfl,(wk_gc (live:=[1,2,5,6,7,8,9]) (keep:=[0,1,2]) kr)⟩
       refine wg [1,2,5,6,7,8] [0,1,2] ?_
       refine wp_exit ?_
       cases h
       exact ⟨kr,rfl⟩
      intro x37 h out hx
      subst hx
      refine wg [1,2,5,6,7,8] [0,1,2] ?_
      refine wp_exit ?_
      refine rn ?_
      cases h
      exact ⟨_,rfl,(wk_gc (live:=[1,2,5,6,7,8]) (keep:=[0,1,2]) kr)⟩
     refine wp_skip (wp_seq ?_)
     refine wgc [1,2,5,6,7,8] [0,1,2] ⟨(s21_154 p1 s9 s6),(s21_73 p0 s9),165⟩ ?_
     refine wp_post ?_
     refine reg_in (sz 5 5 ?_)
     refine callW bodyB_67 (g_ref17_Paths_ok p0 (zw ((zw ((zn p1) - 1)) - s6.1))) h (fun x38 _ h=>?_)
     refine sz 1 7 (reg_end rfl ?_)
     refine ⟨_,wk_refl,?_⟩
     refine wp_seq (wg [1,2,5,6,7,8,10] [0,1,3,2] (rn (wp_block ?_)))
     refine wwh h (fun s40=>⟨[(1,z1 p1),(2,.ptr 0 0 0),(5,vI (zn p1)),(6,.ref 1 0 s40.2.length),(7,vI s6.1),(8,vI s9.1),(10,.ref 2 0 x38.length),(11,vI s40.1)],(s21_54 p0 s40 x38),165⟩) (fun v out=>out=.go (.exit 6) ⟨[(1,z1 p1),(2,.ptr 0 0 0),(5,vI (zn p1)),(6,.ref 1 0 v.length),(7,vI s6.1),(8,vI s9.1)],[oX true false 4 (.agg [vI p0.Grain,z1 p0.First,z2 p0.Step,z2 p0.Show]),.refs 2 (eF eI v),.fam 1 true (eF eI v)],165⟩) (wk_gc (live:=[1,2,5,6,7,8,10,11]) (keep:=[0,1,2,3]) kr) ?_ ?_
     ·intro s40 o h
      unfold g_ref17_Backward_b3 at h
      refine wp_seq (sq ?_)
      refine wb [96] h (fun q42 h=>?_) (fun q42 h=>?_)
      ·refine wcT (wp_skip (wp_seq (wp_block (sq (wp_seq (wp_seq (wg [1,2,5,6,7,8,10,11,12,13] [0,1,2,3] (rn ?_))))))))
       refine wp_block ?_
       refine wwh h (fun s43=>⟨[(1,z1 p1),(2,.ptr 0 0 0),(5,vI (zn p1)),(6,.ref 1 0 s40.2.length),(7,vI s6.1),(8,vI s9.1),(10,.ref 2 0 x38.length),(11,vI s40.1),(12,vI s43.1),(13,vI s43.2.1),(14,vI s43.2.2)],(s21_54 p0 s40 x38),165⟩) (fun v out=>out=.go (.exit 8) ⟨[(1,z1 p1),(2,.ptr 0 0 0),(5,vI (zn p1)),(6,.ref 1 0 s40.2.length),(7,vI s6.1),(8,vI s9.1),(10,.ref 2 0 x38.length),(11,vI s40.1)]++[(12,vI v)],(s21_54 p0 s40 x38),165⟩) (wk_gc (live:=[1,2,5,6,7,8,10,11,12,13,14]) (keep:=[0,1,2,3]) kr) ?_ ?_
       ·intro s43 o h
        unfold g_ref17_Backward_b2 at h
        refine wp_seq (wp_seq ?_)
        refine wp_post ?_
        refine reg_in (sz 3 3 ?_)
        refine bind_elim h (fun a44 q45 h=>?_)
        refine idxR' (enc:=z1) (l:=x38) (n:=s40.1) (w:=1) (ob:=2) (ro:=false) (nr:=true) (fl:=false) (a:=a44) kr kr gE q45 ?_
        refine loadR (enc:=z1) (l:=x38) (n:=s40.1) (w:=1) (ob:=2) (c:=0) (bx:=false) (ro:=false) (nr:=true) (fl:=false) (a:=a44) kr kr q45 gE ?_
        refine lenL (enc:=eI) (l:=a44) (fl:=true) kr gE ?_
        refine sz 1 7 (reg_end rfl ?_)
        refine ⟨_,wk_refl,?_⟩
        refine wbz h (fun q47 h=>?_) (fun q47 h=>?_)
        ·refine wp_skip (wp_seq (wp_block (wp_seq (wg [1,2,5,6,7,8,10,11,12,13,14] [0,1,2,3] ?_))))
         refine wp_post ?_
         refine rga hfol (sy 4 4 ?_)
         refine bind_elim h (fun a48 q49 h=>?_)
         refine idxL' (enc:=z1) (l:=p0.Step) (n:=s43.2.1) (fl:=false) (w:=1) (a:=a48) kr rfl gE q49 ?_
         refine sy 3 8 ?_
         refine idxR' (enc:=z1) (l:=x38) (n:=s40.1) (w:=1) (ob:=2) (ro:=false) (nr:=true) (fl:=false) (a:=a44) kr kr gE q45 ?_
         refine loadR (enc:=z1) (l:=x38) (n:=s40.1) (w:=1) (ob:=2) (c:=0) (bx:=false) (ro:=false) (nr:=true) (fl:=false) (a:=a44) kr kr q45 gE ?_
         refine sy 1 11 ?_
         refine bind_elim h (fun a50 q51 h=>?_)
         refine idxL' (enc:=eI) (l:=a44) (n:=s43.2.2) (fl:=true) (w:=1) (a:=a50) kr rfl gE q51 ?_
         refine sy 1 13 ?_
         refine bind_elim h (fun a52 q53 h=>?_)
         refine idxL' (enc:=eI) (l:=a48) (n:=a50) (fl:=true) (w:=1) (a:=a52) kr rfl gE q53 ?_
         refine sgy 5 19 (S:=⟨[(1,z1 p1),(2,.ptr 0 0 0),(5,vI (zn p1)),(6,.ref 1 0 s40.2.length),(7,vI s6.1),(8,vI s9.1),(10,.ref 2 0 x38.length),(11,vI s40.1),(12,vI s43.1),(13,vI s43.2.1),(14,vI s43.2.2)]++[(109,vI s43.1),(110,.ptr 0 0 2),(111,z2 p0.Step),(112,vI s43.2.1),(113,.fz [z1 a48]),(114,z1 a48),(115,.ref 2 0 x38.length),(116,vI s40.1)]++[(117,.ptr 2 (zt s40.1) 0),(118,z1 a44),(119,vI s43.2.2),(120,.fz [vI a50]),(121,vI a50),(122,.fz [vI a52]),(123,vI a52),(124,vI (zw (s43.1*a52))),(125,.agg [vI p0.Grain,z1 p0.First,z2 p0.Step,z2 p0.Show]),(126,.ref 2 0 x38.length),(127,vI s40.1)],(s21_54 p0 s40 x38),165⟩) ?_
         refine idxR' (enc:=z1) (l:=x38) (n:=s40.1) (w:=1) (ob:=2) (ro:=false) (nr:=true) (fl:=false) (a:=a44) kr kr gE q45 ?_
         refine loadR (enc:=z1) (l:=x38) (n:=s40.1) (w:=1) (ob:=2) (c:=0) (bx:=false) (ro:=false) (nr:=true) (fl:=false) (a:=a44) kr kr q45 gE ?_
         refine sy 1 22 ?_
         refine idxL' (enc:=eI) (l:=a44) (n:=s43.2.2) (fl:=true) (w:=1) (a:=a50) kr rfl gE q51 ?_
         refine sy 6 29 ?_
         refine bind_elim h (fun a54 q55 h=>?_)
         refine idxL' (enc:=eI) (l:=p1) (n:=zw ((zw (s6.1+1))+s43.2.2)) (fl:=true) (w:=1) (a:=a54) kr rfl gE q55 ?_
         refine sy 1 31 ?_
         refine callW bodyB_69 (g_ref17_Shows_ok p0 a50 a54) h (fun x56 _ h=>?_)
         refine sy 2 34 (rgd ?_)
         refine ⟨_,wk_refl,?_⟩
         refine wg [1,2,5,6,7,8,10,11,12,14] [0,1,2,3] ?_
         refine wp_post ?_
         refine reg_in (sz 2 2 ?_)
         refine idxR' (enc:=z1) (l:=x38) (n:=s40.1) (w:=1) (ob:=2) (ro:=false) (nr:=true) (fl:=false) (a:=a44) kr kr gE q45 ?_
         refine loadR (enc:=z1) (l:=x38) (n:=s40.1) (w:=1) (ob:=2) (c:=0) (bx:=false) (ro:=false) (nr:=true) (fl:=false) (a:=a44) kr kr q45 gE ?_
         refine sz 1 5 ?_
         refine idxL' (enc:=eI) (l:=a44) (n:=s43.2.2) (fl:=true) (w:=1) (a:=a50) kr rfl gE q51 ?_
         refine sz 2 8 (reg_end rfl ?_)
         refine ⟨_,wk_refl,?_⟩
         refine wgc [1,2,5,6,7,8,10,11,12,14,13] [0,1,2,3] ⟨[(1,z1 p1),(2,.ptr 0 0 0),(5,vI (zn p1)),(6,.ref 1 0 s40.2.length),(7,vI s6.1),(8,vI s9.1),(10,.ref 2 0 x38.length),(11,vI s40.1),(12,vI (zw ((zw (s43.1*a52))*x56))),(14,vI s43.2.2),(13,vI a50)],(s21_54 p0 s40 x38),165⟩ ?_
         refine rn ?_
         cases h
         exact ⟨_,rfl,(wk_gc (live:=[1,2,5,6,7,8,10,11,12,13,14]) (keep:=[0,1,2,3]) kr)⟩
        refine wg [1,2,5,6,7,8,10,11,12] [0,1,2,3] ?_
        refine wp_exit ?_
        cases h
        exact ⟨kr,rfl⟩
       intro x59 h out hx
       subst hx
       refine wp_post ?_
       refine rga hfol (sy 2 2 ?_)
       refine bind_elim h (fun a60 q61 h=>?_)
       refine idxF (enc:=eI) (ls:=s40.2) (x:=a60) (n:=s6.1) (ob:=1) (j:=3) kr kr q61 gE ?_
       refine loadF (enc:=eI) (ls:=s40.2) (x:=a60) (n:=s6.1) (ob:=1) (j:=3) kr kr q61 gE ?_
       refine sy 3 7 ?_
       refine idxF (enc:=eI) (ls:=s40.2) (x:=a60) (n:=s6.1) (ob:=1) (j:=3) kr kr q61 gE ?_
       refine loadF (enc:=eI) (ls:=s40.2) (x:=a60) (n:=s6.1) (ob:=1) (j:=3) kr kr q61 gE ?_
       refine sy 1 10 ?_
       refine bind_elim h (fun a62 q63 h=>?_)
       refine idxI (enc:=eI) (ls:=s40.2) (x:=a60) (y:=a62) (n:=s6.1) (c:=s9.1) (w:=1) (j:=3) (fl:=true) kr kr q61 q63 rfl gE ?_
       refine loadI (enc:=eI) (ls:=s40.2) (x:=a60) (y:=a62) (n:=s6.1) (m:=s9.1) (w:=1) (j:=3) (c:=0) (fl:=true) kr kr q61 q63 rfl gE ?_
       refine sy 2 14 ?_
       refine idxI (enc:=eI) (ls:=s40.2) (x:=a60) (y:=a62) (n:=s6.1) (c:=s9.1) (w:=1) (j:=3) (fl:=true) kr kr q61 q63 rfl gE ?_
       refine storeI (enc:=eI) (ls:=s40.2) (x:=a60) (y:=a62) (y':=zw (a62+x59)) (n:=s6.1) (m:=s9.1) (w:=1) (j:=3) (q:=1) (c:=0) (fl:=true) (v:=vI (zw (a62+x59))) kr kr kr q61 q63 rfl kr kr kr gE ?_
       refine rl [6,149,154] (n:=s40.2.length) (m:=(List.set s40.2 (zt s6.1) (List.set a60 (zt s9.1) (zw (a62+x59)))).length) (by simp only [List.length_set]) ?_
       refine rgd ?_
       refine ⟨_,wk_refl,?_⟩
       refine wgc [1,2,5,6,7,8,10,11] [0,1,2,3] ⟨[(1,z1 p1),(2,.ptr 0 0 0),(5,vI (zn p1)),(6,.ref 1 0 ((List.set s40.2 (zt s6.1) (List.set a60 (zt s9.1) (zw (a62+x59)))).length)),(7,vI s6.1),(8,vI s9.1),(10,.ref 2 0 x38.length),(11,vI s40.1)],[oX true false 4 (.agg [vI p0.Grain,z1 p0.First,z2 p0.Step,z2 p0.Show]),.refs 3 (eF eI (List.set s40.2 (zt s6.1) (List.set a60 (zt s9.1) (zw (a62+x59))))),oR false 1 z1 x38,.fam 1 true (eF eI (List.set s40.2 (zt s6.1) (List.set a60 (zt s9.1) (zw (a62+x59)))))],165⟩ ?_
       refine rn ?_
       cases h
       exact ⟨_,rfl,(wk_gc (live:=[1,2,5,6,7,8,10,11]) (keep:=[0,1,2,3]) kr)⟩
      refine wcF (wg [1,2,5,6,7,8] [0,1,3] ?_)
      refine wp_exit ?_
      cases h
      exact ⟨kr,rfl⟩
     intro x66 h out hx
     subst hx
     refine rn ?_
     cases h
     exact ⟨_,rfl,(wk_gc (live:=[1,2,5,6,7,8]) (keep:=[0,1,2]) kr)⟩
    refine wg [1,2,5,6,7] [0,1,2] ?_
    refine wp_exit ?_
    cases h
    exact ⟨kr,rfl⟩
   intro x68 h out hx
   subst hx
   refine rn ?_
   cases h
   exact ⟨_,rfl,(wk_gc (live:=[1,2,5,6,7]) (keep:=[0,1,2]) kr)⟩
  refine wcF (wg [6] [1,2] ?_)
  refine wp_exit ?_
  cases h
  exact ⟨kr,rfl⟩
 intro x70 h out hx
 subst hx
 refine sq ?_
 refine wgc [4] [0,1] ⟨[(4,.ref 0 0 x70.length)],[.refs 1 (eF eI x70),.fam 1 true (eF eI x70)],165⟩ ?_
 refine wp_wk (wk_frzF 0 1 (enc:=eI) (ls:=x70) (st':=⟨[(4,.ref 0 0 x70.length)],[oR false 1 z1 x70,.dead],165⟩) rfl rfl kr) ?_
 cases h
 exact wp_ret (show fnOut _ _ _ _=_ from by kernel_rfl)
noncomputable abbrev s3_50 (p3:(List Int)) (x5:(Tapi_Hidden × Tapi_Hidden × Tapi_Hidden)) (s7:Int):List (Nat × AV):=[(3,z1 p3),(4,.ptr 0 0 0),(23,.agg [vI x5.1.Grain,z1 x5.1.First,z2 x5.1.Step,z2 x5.1.Show,vI x5.2.1.Grain,z1 x5.2.1.First,z2 x5.2.1.Step,z2 x5.2.1.Show,vI x5.2.2.Grain,z1 x5.2.2.First,z2 x5.2.2.Step,z2 x5.2.2.Show]),(24,vI s7),(10,.ptr 1 0 0)]
noncomputable abbrev s3_69 (p3:(List Int)) (x5:(Tapi_Hidden × Tapi_Hidden × Tapi_Hidden)) (s7:Int) (x26:(List Int)) (s28:Int):List (Nat × AV):=[(3,z1 p3),(4,.ptr 0 0 0),(10,.ptr 1 0 0),(23,.agg [vI x5.1.Grain,z1 x5.1.First,z2 x5.1.Step,z2 x5.1.Show,vI x5.2.1.Grain,z1 x5.2.1.First,z2 x5.2.1.Step,z2 x5.2.1.Show,vI x5.2.2.Grain,z1 x5.2.2.First,z2 x5.2.2.Step,z2 x5.2.2.Show]),(24,vI s7),(50,.agg [z1 x26,z1 (sub p3 0 (if 10 < (zn p3) then 10 else (zn p3)))]),(51,vI s28)]
noncomputable abbrev s3_72 (p3:(List Int)) (x5:(Tapi_Hidden × Tapi_Hidden × Tapi_Hidden)) (s7:Int):List (Nat × AV):=[(3,z1 p3),(4,.ptr 0 0 0),(23,.agg [vI x5.1.Grain,z1 x5.1.First,z2 x5.1.Step,z2 x5.1.Show,vI x5.2.1.Grain,z1 x5.2.1.First,z2 x5.2.1.Step,z2 x5.2.1.Show,vI x5.2.2.Grain,z1 x5.2.2.First,z2 x5.2.2.Step,z2 x5.2.2.Show]),(24,vI s7)]
noncomputable abbrev s3_90 (p3:(List Int)) (x5:(Tapi_Hidden × Tapi_Hidden × Tapi_Hidden)) (s7:Int) (x64:(List Int)) (s66:Int):List (Nat × AV):=[(3,z1 p3),(4,.ptr 0 0 0),(10,.ptr 1 0 0),(23,.agg [vI x5.1.Grain,z1 x5.1.First,z2 x5.1.Step,z2 x5.1.Show,vI x5.2.1.Grain,z1 x5.2.1.First,z2 x5.2.1.Step,z2 x5.2.1.Show,vI x5.2.2.Grain,z1 x5.2.2.First,z2 x5.2.2.Step,z2 x5.2.2.Show]),(24,vI s7),(50,.agg [z1 x64,z1 (sub p3 0 (if 10 < (zn p3) then 10 else (zn p3)))]),(51,vI s66)]
theorem g_law17_HiddenTables_ok (p0:Tharuspexref17_Draft) (p1:Tharuspexref17_Bend) (p2:Tapi_Hidden) (p3:(List Int)) (x:Bool) (h:g_law17_HiddenTables p0 p1 p2 p3=some x):CallOk Try.prog 3 [.agg [.int .u8 p0.Grain,.int .u8 p0.States,.int .u8 p0.Shows,eL true (AV.int .u8) p0.L,eL true (AV.int .u8) p0.Seen],.agg [.int .u8 p1.What,.int .u8 p1.S,.int .u8 p1.At,vI p1.N],.agg [vI p2.Grain,z1 p2.First,z2 p2.Step,z2 p2.Show],z1 p3] (.ret (vB x) []):=by
 refine fn_ok [] Try.func3 rfl (by decide +kernel) rfl ?_
 unfold g_law17_HiddenTables at h
 refine wp_eqB (base':=0) (st':=⟨[(0,.agg [.int .u8 p0.Grain,.int .u8 p0.States,.int .u8 p0.Shows,eL true (AV.int .u8) p0.L,eL true (AV.int .u8) p0.Seen]),(1,.agg [.int .u8 p1.What,.int .u8 p1.S,.int .u8 p1.At,vI p1.N]),(2,.agg [vI p2.Grain,z1 p2.First,z2 p2.Step,z2 p2.Show]),(3,z1 p3)],[],109⟩) kr kr ?_
 refine wp_seq (reg_in ?_)
 refine sgL false [] [] false gE ?_
 refine sz 1 2 ?_
 refine sgL false [] [] false gE ?_
 refine sz 1 4 (reg_end rfl (wp_seq (wp_seq (reg_in ?_))))
 refine callW bodyB_11 (g_law17_wakes_ok ) h (fun x1 _ h=>?_)
 refine sz 1 2 (reg_end rfl ?_)
 refine wbz h (fun q4 h=>?_) (fun q4 h=>?_)
 ·refine wp_seq (wg [] [] (rn ?_))
  refine wgc [8] [] ⟨[(8,vB false)],[],109⟩ ?_
  cases h
  exact wp_ret (show fnOut _ _ _ _=_ from by kernel_rfl)
 refine wp_skip (wp_seq (wp_seq (wg [3,4,5,6] [0,1,2] (reg_in (sz 3 3 ?_)))))
 refine callW bodyB_12 (g_law17_chains_ok p0 p1 p2) h (fun x5 _ h=>?_)
 refine sz 1 5 (reg_end rfl (wp_block ?_))
 refine wwh h (fun s7=>⟨(s3_72 p3 x5 s7),[oX true false 5 (.agg [.int .u8 p0.Grain,.int .u8 p0.States,.int .u8 p0.Shows,eL true (AV.int .u8) p0.L,eL true (AV.int .u8) p0.Seen])],109⟩) (fun x out=>out=match x with | .inl v=>.go (.ret) ⟨[(8,vB false)],[],109⟩ | .inr v=>.go (.exit 0) ⟨[],[],109⟩) (wk_gc (live:=[3,4,23,24]) (keep:=[0]) kr) ?_ ?_
 ·intro s7 o h
  unfold g_law17_HiddenTables_b2 at h
  refine sq (wp_seq ?_)
  refine wb [25] h (fun q9 h=>?_) (fun q9 h=>?_)
  ·refine wcT (wp_skip (wp_seq (wp_block (wp_seq (reg_in ?_)))))
   refine bind_elim h (fun a10 q11 h=>?_)
   refine idxA (enc:=eTapi_Hidden) (l:=([x5.1,x5.2.1,x5.2.2]:(List Tapi_Hidden))) (n:=s7) (a:=a10) (w:=4) (g:=true) (v:=.agg [vI a10.Grain,z1 a10.First,z2 a10.Step,z2 a10.Show]) kr (fun _=>rfl) rfl q11 kr gE ?_
   refine sgL false [] [] false gE ?_
   refine sz 1 3 (reg_end rfl (wp_seq (wp_seq (rga hfol (sy 1 1 ?_)))))
   refine callW bodyB_13 (g_hidden_Check_ok a10) h (fun x12 _ h=>?_)
   refine sy 2 4 ?_
   refine callW bodyB_14 (g_ref17_Right_ok a10) h (fun x14 _ h=>?_)
   refine sy 2 7 ?_
   refine rb [32,33] h (fun q17 h=>?_) (fun q17 h=>?_)
   ·refine sy 9 16 (rgd (wcT (wp_seq ?_)))
    refine wgc [] [] ⟨[],[],109⟩ ?_
    refine rn (wg [8] [] ?_)
    refine wp_ret ?_
    cases h
    exact ⟨kr,rfl⟩
   refine sy 1 8 ?_
   refine callW bodyB_13 (g_hidden_Check_ok a10) h (fun x18 _ h=>?_)
   refine sy 2 11 ?_
   refine rb [36,37] h (fun q21 h=>?_) (fun q21 h=>?_)
   ·refine sy 1 12 ?_
    refine callW bodyB_13 (g_hidden_Check_ok a10) h (fun x22 _ h=>?_)
    refine sy 3 16 (rgd ?_)
    refine wbz h (fun q25 h=>?_) (fun q25 h=>?_)
    ·refine wp_seq ?_
     refine wgc [] [] ⟨[],[],109⟩ ?_
     refine rn (wg [8] [] ?_)
     refine wp_ret ?_
     cases h
     exact ⟨kr,rfl⟩
    refine wp_skip (wp_seq ?_)
    refine wgc [3,4,23,24,10] [0,1] ⟨(s3_50 p3 x5 s7),[oX true false 5 (.agg [.int .u8 p0.Grain,.int .u8 p0.States,.int .u8 p0.Shows,eL true (AV.int .u8) p0.L,eL true (AV.int .u8) p0.Seen]),oX true false 4 (.agg [vI a10.Grain,z1 a10.First,z2 a10.Step,z2 a10.Show])],109⟩ ?_
    refine rga hfol (sy 1 1 ?_)
    refine callW bodyB_15 (fun x26 q27=>CallOk.froz (g_ref17_Draft_What_ok p0 x26 q27) (snap_full (w:=1) (bx:=false) (ro:=false) rfl)) h (fun x26 q27 h=>?_)
    refine sy 2 4 ?_
    refine lenL (enc:=eI) (l:=p3) (fl:=true) kr gE ?_
    refine sy 1 6 ?_
    refine sliceL (enc:=eI) (l:=p3) (fl:=true) (lo:=none) (hi:=(some (vI (if 10 < (zn p3) then 10 else (zn p3))))) (a:=0) (b:=(if 10 < (zn p3) then 10 else (zn p3))) (w:=1) kr (fun _=>rfl) rfl rfl gE h (fun h=>?_)
    refine sy 2 9 (rgd (wp_block ?_))
    refine wwh h (fun s28=>⟨(s3_69 p3 x5 s7 x26 s28),[oX true false 5 (.agg [.int .u8 p0.Grain,.int .u8 p0.States,.int .u8 p0.Shows,eL true (AV.int .u8) p0.L,eL true (AV.int .u8) p0.Seen]),oX true false 4 (.agg [vI a10.Grain,z1 a10.First,z2 a10.Step,z2 a10.Show])],109⟩) (fun x out=>out=match x with | .inl v=>.go (.ret) ⟨[(8,vB false)],[],109⟩ | .inr v=>.go (.exit 2) ⟨(s3_72 p3 x5 s7),[oX true false 5 (.agg [.int .u8 p0.Grain,.int .u8 p0.States,.int .u8 p0.Shows,eL true (AV.int .u8) p0.L,eL true (AV.int .u8) p0.Seen])],109⟩) (wk_gc (live:=[3,4,10,23,24,50,51]) (keep:=[0,1]) kr) ?_ ?_
    ·intro s28 o h
     unfold g_law17_HiddenTables_b0 at h
     refine sq (wp_seq ?_)
     refine wb [52] h (fun q30 h=>?_) (fun q30 h=>?_)
     ·refine wcT (wp_skip (wp_seq (wp_block (wp_seq (reg_in ?_)))))
      refine bind_elim h (fun a31 q32 h=>?_)
      refine idxA (enc:=z1) (l:=([x26,(sub p3 0 (if 10 < (zn p3) then 10 else (zn p3)))]:(List (List Int)))) (n:=s28) (a:=a31) (w:=1) (g:=false) (v:=z1 a31) kr (fun _=>rfl) rfl q32 kr gE ?_
      refine sz 1 2 (reg_end rfl (wp_seq (reg_in (sz 2 2 ?_))))
      refine callW bodyB_16 (g_hidden_Forward_ok a10 a31) h (fun x33 _ h=>?_)
      refine sz 5 8 (reg_end rfl (wp_seq ?_))
      refine wgc [3,4,10,23,24,50,51,12,13,14] [0,1,2] ⟨[(3,z1 p3),(4,.ptr 0 0 0),(10,.ptr 1 0 0),(23,.agg [vI x5.1.Grain,z1 x5.1.First,z2 x5.1.Step,z2 x5.1.Show,vI x5.2.1.Grain,z1 x5.2.1.First,z2 x5.2.1.Step,z2 x5.2.1.Show,vI x5.2.2.Grain,z1 x5.2.2.First,z2 x5.2.2.Step,z2 x5.2.2.Show]),(24,vI s7),(50,.agg [z1 x26,z1 (sub p3 0 (if 10 < (zn p3) then 10 else (zn p3)))]),(51,vI s28),(12,z1 a31),(13,.ref 2 0 x33.1.length),(14,vI x33.2)],[oX true false 5 (.agg [.int .u8 p0.Grain,.int .u8 p0.States,.int .u8 p0.Shows,eL true (AV.int .u8) p0.L,eL true (AV.int .u8) p0.Seen]),oX true false 4 (.agg [vI a10.Grain,z1 a10.First,z2 a10.Step,z2 a10.Show]),oR false 1 z1 x33.1],109⟩ ?_
      refine reg_in (sz 2 2 ?_)
      refine callW bodyB_17 (g_hidden_Backward_ok a10 a31) h (fun x35 _ h=>?_)
      refine sz 5 8 (reg_end rfl (wp_seq (wg [3,4,10,23,24,50,51,12,13,14,15,16] [0,1,2,3] (reg_in (sz 2 2 ?_)))))
      refine callW bodyB_18 (g_ref17_Errors_ok a10 a31) h (fun x37 _ h=>?_)
      refine sz 1 4 (reg_end rfl (wp_seq (wp_seq (reg_in (sz 4 4 ?_)))))
      refine rw_wk (wk_gc (live:=[3,4,10,23,24,50,51,12,13,15,16,17,72]) (keep:=[0,1,2,3]) (st':=⟨[(3,z1 p3),(4,.ptr 0 0 0),(10,.ptr 1 0 0),(23,.agg [vI x5.1.Grain,z1 x5.1.First,z2 x5.1.Step,z2 x5.1.Show,vI x5.2.1.Grain,z1 x5.2.1.First,z2 x5.2.1.Step,z2 x5.2.1.Show,vI x5.2.2.Grain,z1 x5.2.2.First,z2 x5.2.2.Step,z2 x5.2.2.Show]),(24,vI s7),(50,.agg [z1 x26,z1 (sub p3 0 (if 10 < (zn p3) then 10 else (zn p3)))]),(51,vI s28),(12,z1 a31),(13,.ref 2 0 x33.1.length),(15,.ref 3 0 x35.1.length),(16,vI x35.2),(17,vI x37),(72,vB (x33.2 != x37))],[oX true false 5 (.agg [.int .u8 p0.Grain,.int .u8 p0.States,.int .u8 p0.Shows,eL true (AV.int .u8) p0.L,eL true (AV.int .u8) p0.Seen]),oX true false 4 (.agg [vI a10.Grain,z1 a10.First,z2 a10.Step,z2 a10.Show]),oR false 1 z1 x33.1,oR false 1 z1 x35.1],109⟩) kr) ?_
      refine rb [72] h (fun q40 h=>?_) (fun q40 h=>?_)
      ·refine sz 4 8 (reg_end rfl (wcT (wp_seq (wg [] [] (rn (wg [8] [] ?_))))))
       refine wp_ret ?_
       cases h
       exact ⟨kr,rfl⟩
      refine sz 4 8 (reg_end rfl ?_)
      refine wbz h (fun q42 h=>?_) (fun q42 h=>?_)
      ·refine wp_seq (wg [] [] (rn (wg [8] [] ?_)))
       refine wp_ret ?_
       cases h
       exact ⟨kr,rfl⟩
      refine wp_skip (wp_seq (wg [3,4,10,23,24,50,51,12,13,15,17] [0,1,2,3] (reg_in (sz 3 3 ?_))))
      refine rb [78,79] h (fun q44 h=>?_) (fun q44 h=>?_)
      ·refine sz 8 11 ?_
       refine rw_wk (wk_gc (live:=[3,4,10,23,24,50,51,12,13,15,17,87]) (keep:=[0,1,2,3]) (st':=⟨[(3,z1 p3),(4,.ptr 0 0 0),(10,.ptr 1 0 0),(23,.agg [vI x5.1.Grain,z1 x5.1.First,z2 x5.1.Step,z2 x5.1.Show,vI x5.2.1.Grain,z1 x5.2.1.First,z2 x5.2.1.Step,z2 x5.2.1.Show,vI x5.2.2.Grain,z1 x5.2.2.First,z2 x5.2.2.Step,z2 x5.2.2.Show]),(24,vI s7),(50,.agg [z1 x26,z1 (sub p3 0 (if 10 < (zn p3) then 10 else (zn p3)))]),(51,vI s28),(12,z1 a31),(13,.ref 2 0 x33.1.length),(15,.ref 3 0 x35.1.length),(17,vI x37),(87,vB (decide ((zw ((zn x33.1)+(zn x35.1))) > 0)))],[oX true false 5 (.agg [.int .u8 p0.Grain,.int .u8 p0.States,.int .u8 p0.Shows,eL true (AV.int .u8) p0.L,eL true (AV.int .u8) p0.Seen]),oX true false 4 (.agg [vI a10.Grain,z1 a10.First,z2 a10.Step,z2 a10.Show]),oR false 1 z1 x33.1,oR false 1 z1 x35.1],109⟩) kr) ?_
       refine rb [87] h (fun q46 h=>?_) (fun q46 h=>?_)
       ·refine sz 19 30 (reg_end rfl (wcT (wp_seq ?_)))
        refine wgc [] [] ⟨[],[],109⟩ ?_
        refine rn (wg [8] [] ?_)
        refine wp_ret ?_
        cases h
        exact ⟨kr,rfl⟩
       refine sz 3 14 ?_
       refine rk [89,90] (ne_eq q44) ?_
       refine sz 16 30 (reg_end rfl (wcF (wp_skip ?_)))
       refine wgc [3,4,10,23,24,50,51] [0,1] ⟨(s3_69 p3 x5 s7 x26 s28),[oX true false 5 (.agg [.int .u8 p0.Grain,.int .u8 p0.States,.int .u8 p0.Shows,eL true (AV.int .u8) p0.L,eL true (AV.int .u8) p0.Seen]),oX true false 4 (.agg [vI a10.Grain,z1 a10.First,z2 a10.Step,z2 a10.Show])],109⟩ ?_
       refine rn ?_
       cases h
       exact ⟨_,rfl,(wk_gc (live:=[3,4,10,23,24,50,51]) (keep:=[0,1]) kr)⟩
      refine sz 11 14 ?_
      refine rk [89,90] (ne_eq q44) ?_
      refine sz 3 17 ?_
      refine callW bodyB_20 (g_ref17_Forward_ok a10 a31) h (fun x49 _ h=>?_)
      refine callR (as0:=[.ref 2 0 x33.1.length,.ref 4 0 x49.length]) (ids:=[2,4]) kr bodyB_19 (msnap_cons (snap_full (w:=1) (bx:=false) (ro:=false) kr) (msnap_cons (snap_full (w:=1) (bx:=false) (ro:=false) kr) msnap_nil (by rfl)) (by rfl)) (fun x51 q52=>g_ref17_SameTable_ok x33.1 x49 x51 q52) gF h (fun x51 q52 h=>?_)
      refine sz 2 21 ?_
      refine rw_wk (wk_gc (live:=[3,4,10,23,24,50,51,12,15,87,90,97]) (keep:=[0,1,3]) (st':=⟨[(3,z1 p3),(4,.ptr 0 0 0),(10,.ptr 1 0 0),(23,.agg [vI x5.1.Grain,z1 x5.1.First,z2 x5.1.Step,z2 x5.1.Show,vI x5.2.1.Grain,z1 x5.2.1.First,z2 x5.2.1.Step,z2 x5.2.1.Show,vI x5.2.2.Grain,z1 x5.2.2.First,z2 x5.2.2.Step,z2 x5.2.2.Show]),(24,vI s7),(50,.agg [z1 x26,z1 (sub p3 0 (if 10 < (zn p3) then 10 else (zn p3)))]),(51,vI s28),(12,z1 a31),(15,.ref 2 0 x35.1.length),(87,vB false),(90,vB true),(97,vB (!x51))],[oX true false 5 (.agg [.int .u8 p0.Grain,.int .u8 p0.States,.int .u8 p0.Shows,eL true (AV.int .u8) p0.L,eL true (AV.int .u8) p0.Seen]),oX true false 4 (.agg [vI a10.Grain,z1 a10.First,z2 a10.Step,z2 a10.Show]),oR false 1 z1 x35.1],109⟩) kr) ?_
      refine rb [97] h (fun q54 h=>?_) (fun q54 h=>?_)
      ·refine sz 9 30 (reg_end rfl (wcT (wp_seq (wg [] [] (rn (wg [8] [] ?_))))))
       refine wp_ret ?_
       cases h
       exact ⟨kr,rfl⟩
      refine sz 3 24 ?_
      refine callW bodyB_21 (g_ref17_Backward_ok a10 a31) h (fun x55 _ h=>?_)
      refine callR (as0:=[.ref 2 0 x35.1.length,.ref 3 0 x55.length]) (ids:=[2,3]) kr bodyB_19 (msnap_cons (snap_full (w:=1) (bx:=false) (ro:=false) kr) (msnap_cons (snap_full (w:=1) (bx:=false) (ro:=false) kr) msnap_nil (by rfl)) (by rfl)) (fun x57 q58=>g_ref17_SameTable_ok x35.1 x55 x57 q58) gF h (fun x57 q58 h=>?_)
      refine sz 4 30 (reg_end rfl ?_)
      refine wbz h (fun q60 h=>?_) (fun q60 h=>?_)
      ·refine wp_seq (wg [] [] (rn (wg [8] [] ?_)))
       refine wp_ret ?_
       cases h
       exact ⟨kr,rfl⟩
      refine wp_skip (wg [3,4,10,23,24,50,51] [0,1] (rn ?_))
      cases h
      exact ⟨_,rfl,(wk_gc (live:=[3,4,10,23,24,50,51]) (keep:=[0,1]) kr)⟩
     refine wcF (wg [3,4,23,24] [0] ?_)
     refine wp_exit ?_
     cases h
     exact ⟨kr,rfl⟩
    intro x61 h out hx
    subst hx
    rcases x61 with x62 | x63
    ·dsimp only at h ⊢
     cases h
     exact ⟨kr,rfl⟩
    ·dsimp only at h ⊢
     refine rn ?_
     cases h
     exact ⟨_,rfl,(wk_gc (live:=[3,4,23,24]) (keep:=[0]) kr)⟩
   refine sy 5 16 (rgd (wcF (wp_skip (wp_seq ?_))))
   refine wgc [3,4,23,24,10] [0,1] ⟨(s3_50 p3 x5 s7),[oX true false 5 (.agg [.int .u8 p0.Grain,.int .u8 p0.States,.int .u8 p0.Shows,eL true (AV.int .u8) p0.L,eL true (AV.int .u8) p0.Seen]),oX true false 4 (.agg [vI a10.Grain,z1 a10.First,z2 a10.Step,z2 a10.Show])],109⟩ ?_
   refine rga hfol (sy 1 1 ?_)
   refine callW bodyB_15 (fun x64 q65=>CallOk.froz (g_ref17_Draft_What_ok p0 x64 q65) (snap_full (w:=1) (bx:=false) (ro:=false) rfl)) h (fun x64 q65 h=>?_)
   refine sy 2 4 ?_
   refine lenL (enc:=eI) (l:=p3) (fl:=true) kr gE ?_
   refine sy 1 6 ?_
   refine sliceL (enc:=eI) (l:=p3) (fl:=true) (lo:=none) (hi:=(some (vI (if 10 < (zn p3) then 10 else (zn p3))))) (a:=0) (b:=(if 10 < (zn p3) then 10 else (zn p3))) (w:=1) kr (fun _=>rfl) rfl rfl gE h (fun h=>?_)
   refine sy 2 9 (rgd (wp_block ?_))
   refine wwh h (fun s66=>⟨(s3_90 p3 x5 s7 x64 s66),[oX true false 5 (.agg [.int .u8 p0.Grain,.int .u8 p0.States,.int .u8 p0.Shows,eL true (AV.int .u8) p0.L,eL true (AV.int .u8) p0.Seen]),oX true false 4 (.agg [vI a10.Grain,z1 a10.First,z2 a10.Step,z2 a10.Show])],109⟩) (fun x out=>out=match x with | .inl v=>.go (.ret) ⟨[(8,vB false)],[],109⟩ | .inr v=>.go (.exit 2) ⟨(s3_72 p3 x5 s7),[oX true false 5 (.agg [.int .u8 p0.Grain,.int .u8 p0.States,.int .u8 p0.Shows,eL true (AV.int .u8) p0.L,eL true (AV.int .u8) p0.Seen])],109⟩) (wk_gc (live:=[3,4,10,23,24,50,51]) (keep:=[0,1]) kr) ?_ ?_
   ·intro s66 o h
    unfold g_law17_HiddenTables_b1 at h
    refine sq (wp_seq ?_)
    refine wb [52] h (fun q68 h=>?_) (fun q68 h=>?_)
    ·refine wcT (wp_skip (wp_seq (wp_block (wp_seq (reg_in ?_)))))
     refine bind_elim h (fun a69 q70 h=>?_)
     refine idxA (enc:=z1) (l:=([x64,(sub p3 0 (if 10 < (zn p3) then 10 else (zn p3)))]:(List (List Int)))) (n:=s66) (a:=a69) (w:=1) (g:=false) (v:=z1 a69) kr (fun _=>rfl) rfl q70 kr gE ?_
     refine sz 1 2 (reg_end rfl (wp_seq (reg_in (sz 2 2 ?_))))
     refine callW bodyB_16 (g_hidden_Forward_ok a10 a69) h (fun x71 _ h=>?_)
     refine sz 5 8 (reg_end rfl (wp_seq ?_))
     refine wgc [3,4,10,23,24,50,51,12,13,14] [0,1,2] ⟨[(3,z1 p3),(4,.ptr 0 0 0),(10,.ptr 1 0 0),(23,.agg [vI x5.1.Grain,z1 x5.1.First,z2 x5.1.Step,z2 x5.1.Show,vI x5.2.1.Grain,z1 x5.2.1.First,z2 x5.2.1.Step,z2 x5.2.1.Show,vI x5.2.2.Grain,z1 x5.2.2.First,z2 x5.2.2.Step,z2 x5.2.2.Show]),(24,vI s7),(50,.agg [z1 x64,z1 (sub p3 0 (if 10 < (zn p3) then 10 else (zn p3)))]),(51,vI s66),(12,z1 a69),(13,.ref 2 0 x71.1.length),(14,vI x71.2)],[oX true false 5 (.agg [.int .u8 p0.Grain,.int .u8 p0.States,.int .u8 p0.Shows,eL true (AV.int .u8) p0.L,eL true (AV.int .u8) p0.Seen]),oX true false 4 (.agg [vI a10.Grain,z1 a10.First,z2 a10.Step,z2 a10.Show]),oR false 1 z1 x71.1],109⟩ ?_
     refine reg_in (sz 2 2 ?_)
     refine callW bodyB_17 (g_hidden_Backward_ok a10 a69) h (fun x73 _ h=>?_)
     refine sz 5 8 (reg_end rfl (wp_seq (wg [3,4,10,23,24,50,51,12,13,14,15,16] [0,1,2,3] (reg_in (sz 2 2 ?_)))))
     refine callW bodyB_18 (g_ref17_Errors_ok a10 a69) h (fun x75 _ h=>?_)
     refine sz 1 4 (reg_end rfl (wp_seq (wp_seq (reg_in (sz 4 4 ?_)))))
     refine rw_wk (wk_gc (live:=[3,4,10,23,24,50,51,12,13,15,16,17,72]) (keep:=[0,1,2,3]) (st':=⟨[(3,z1 p3),(4,.ptr 0 0 0),(10,.ptr 1 0 0),(23,.agg [vI x5.1.Grain,z1 x5.1.First,z2 x5.1.Step,z2 x5.1.Show,vI x5.2.1.Grain,z1 x5.2.1.First,z2 x5.2.1.Step,z2 x5.2.1.Show,vI x5.2.2.Grain,z1 x5.2.2.First,z2 x5.2.2.Step,z2 x5.2.2.Show]),(24,vI s7),(50,.agg [z1 x64,z1 (sub p3 0 (if 10 < (zn p3) then 10 else (zn p3)))]),(51,vI s66),(12,z1 a69),(13,.ref 2 0 x71.1.length),(15,.ref 3 0 x73.1.length),(16,vI x73.2),(17,vI x75),(72,vB (x71.2 != x75))],[oX true false 5 (.agg [.int .u8 p0.Grain,.int .u8 p0.States,.int .u8 p0.Shows,eL true (AV.int .u8) p0.L,eL true (AV.int .u8) p0.Seen]),oX true false 4 (.agg [vI a10.Grain,z1 a10.First,z2 a10.Step,z2 a10.Show]),oR false 1 z1 x71.1,oR false 1 z1 x73.1],109⟩) kr) ?_
     refine rb [72] h (fun q78 h=>?_) (fun q78 h=>?_)
     ·refine sz 4 8 (reg_end rfl (wcT (wp_seq (wg [] [] (rn (wg [8] [] ?_))))))
      refine wp_ret ?_
      cases h
      exact ⟨kr,rfl⟩
     refine sz 4 8 (reg_end rfl ?_)
     refine wbz h (fun q80 h=>?_) (fun q80 h=>?_)
     ·refine wp_seq (wg [] [] (rn (wg [8] [] ?_)))
      refine wp_ret ?_
      cases h
      exact ⟨kr,rfl⟩
     refine wp_skip (wp_seq (wg [3,4,10,23,24,50,51,12,13,15,17] [0,1,2,3] (reg_in (sz 3 3 ?_))))
     refine rb [78,79] h (fun q82 h=>?_) (fun q82 h=>?_)
     ·refine sz 8 11 ?_
      refine rw_wk (wk_gc (live:=[3,4,10,23,24,50,51,12,13,15,17,87]) (keep:=[0,1,2,3]) (st':=⟨[(3,z1 p3),(4,.ptr 0 0 0),(10,.ptr 1 0 0),(23,.agg [vI x5.1.Grain,z1 x5.1.First,z2 x5.1.Step,z2 x5.1.Show,vI x5.2.1.Grain,z1 x5.2.1.First,z2 x5.2.1.Step,z2 x5.2.1.Show,vI x5.2.2.Grain,z1 x5.2.2.First,z2 x5.2.2.Step,z2 x5.2.2.Show]),(24,vI s7),(50,.agg [z1 x64,z1 (sub p3 0 (if 10 < (zn p3) then 10 else (zn p3)))]),(51,vI s66),(12,z1 a69),(13,.ref 2 0 x71.1.length),(15,.ref 3 0 x73.1.length),(17,vI x75),(87,vB (decide ((zw ((zn x71.1)+(zn x73.1))) > 0)))],[oX true false 5 (.agg [.int .u8 p0.Grain,.int .u8 p0.States,.int .u8 p0.Shows,eL true (AV.int .u8) p0.L,eL true (AV.int .u8) p0.Seen]),oX true false 4 (.agg [vI a10.Grain,z1 a10.First,z2 a10.Step,z2 a10.Show]),oR false 1 z1 x71.1,oR false 1 z1 x73.1],109⟩) kr) ?_
      refine rb [87] h (fun q84 h=>?_) (fun q84 h=>?_)
      ·refine sz 19 30 (reg_end rfl (wcT (wp_seq ?_)))
       refine wgc [] [] ⟨[],[],109⟩ ?_
       refine rn (wg [8] [] ?_)
       refine wp_ret ?_
       cases h
       exact ⟨kr,rfl⟩
      refine sz 3 14 ?_
      refine rk [89,90] (ne_eq q82) ?_
      refine sz 16 30 (reg_end rfl (wcF (wp_skip ?_)))
      refine wgc [3,4,10,23,24,50,51] [0,1] ⟨(s3_90 p3 x5 s7 x64 s66),[oX true false 5 (.agg [.int .u8 p0.Grain,.int .u8 p0.States,.int .u8 p0.Shows,eL true (AV.int .u8) p0.L,eL true (AV.int .u8) p0.Seen]),oX true false 4 (.agg [vI a10.Grain,z1 a10.First,z2 a10.Step,z2 a10.Show])],109⟩ ?_
      refine rn ?_
      cases h
      exact ⟨_,rfl,(wk_gc (live:=[3,4,10,23,24,50,51]) (keep:=[0,1]) kr)⟩
     refine sz 11 14 ?_
     refine rk [89,90] (ne_eq q82) ?_
     refine sz 3 17 ?_
     refine callW bodyB_20 (g_ref17_Forward_ok a10 a69) h (fun x87 _ h=>?_)
     refine callR (as0:=[.ref 2 0 x71.1.length,.ref 4 0 x87.length]) (ids:=[2,4]) kr bodyB_19 (msnap_cons (snap_full (w:=1) (bx:=false) (ro:=false) kr) (msnap_cons (snap_full (w:=1) (bx:=false) (ro:=false) kr) msnap_nil (by rfl)) (by rfl)) (fun x89 q90=>g_ref17_SameTable_ok x71.1 x87 x89 q90) gF h (fun x89 q90 h=>?_)
     refine sz 2 21 ?_
     refine rw_wk (wk_gc (live:=[3,4,10,23,24,50,51,12,15,87,90,97]) (keep:=[0,1,3]) (st':=⟨[(3,z1 p3),(4,.ptr 0 0 0),(10,.ptr 1 0 0),(23,.agg [vI x5.1.Grain,z1 x5.1.First,z2 x5.1.Step,z2 x5.1.Show,vI x5.2.1.Grain,z1 x5.2.1.First,z2 x5.2.1.Step,z2 x5.2.1.Show,vI x5.2.2.Grain,z1 x5.2.2.First,z2 x5.2.2.Step,z2 x5.2.2.Show]),(24,vI s7),(50,.agg [z1 x64,z1 (sub p3 0 (if 10 < (zn p3) then 10 else (zn p3)))]),(51,vI s66),(12,z1 a69),(15,.ref 2 0 x73.1.length),(87,vB false),(90,vB true),(97,vB (!x89))],[oX true false 5 (.agg [.int .u8 p0.Grain,.int .u8 p0.States,.int .u8 p0.Shows,eL true (AV.int .u8) p0.L,eL true (AV.int .u8) p0.Seen]),oX true false 4 (.agg [vI a10.Grain,z1 a10.First,z2 a10.Step,z2 a10.Show]),oR false 1 z1 x73.1],109⟩) kr) ?_
     refine rb [97] h (fun q92 h=>?_) (fun q92 h=>?_)
     ·refine sz 9 30 (reg_end rfl (wcT (wp_seq (wg [] [] (rn (wg [8] [] ?_))))))
      refine wp_ret ?_
      cases h
      exact ⟨kr,rfl⟩
     refine sz 3 24 ?_
     refine callW bodyB_21 (g_ref17_Backward_ok a10 a69) h (fun x93 _ h=>?_)
     refine callR (as0:=[.ref 2 0 x73.1.length,.ref 3 0 x93.length]) (ids:=[2,3]) kr bodyB_19 (msnap_cons (snap_full (w:=1) (bx:=false) (ro:=false) kr) (msnap_cons (snap_full (w:=1) (bx:=false) (ro:=false) kr) msnap_nil (by rfl)) (by rfl)) (fun x95 q96=>g_ref17_SameTable_ok x73.1 x93 x95 q96) gF h (fun x95 q96 h=>?_)
     refine sz 4 30 (reg_end rfl ?_)
     refine wbz h (fun q98 h=>?_) (fun q98 h=>?_)
     ·refine wp_seq (wg [] [] (rn (wg [8] [] ?_)))
      refine wp_ret ?_
      cases h
      exact ⟨kr,rfl⟩
     refine wp_skip (wg [3,4,10,23,24,50,51] [0,1] (rn ?_))
     cases h
     exact ⟨_,rfl,(wk_gc (live:=[3,4,10,23,24,50,51]) (keep:=[0,1]) kr)⟩
    refine wcF (wg [3,4,23,24] [0] ?_)
    refine wp_exit ?_
    cases h
    exact ⟨kr,rfl⟩
   intro x99 h out hx
   subst hx
   rcases x99 with x100 | x101
   ·dsimp only at h ⊢
    cases h
    exact ⟨kr,rfl⟩
   ·dsimp only at h ⊢
    refine rn ?_
    cases h
    exact ⟨_,rfl,(wk_gc (live:=[3,4,23,24]) (keep:=[0]) kr)⟩
  refine wcF (wg [] [] ?_)
  refine wp_exit ?_
  cases h
  exact ⟨kr,rfl⟩
 intro x102 h out hx
 subst hx
 rcases x102 with x103 | x104
 ·dsimp only at h ⊢
  cases h
  show fnOut _ _ _ _=_
  kernel_rfl
 ·dsimp only at h ⊢
  refine sq (wg [8] [] ?_)
  cases h
  exact wp_ret (show fnOut _ _ _ _=_ from by kernel_rfl)
theorem g_ref17_Total_ok (p0:(List Int)) (x:Int) (h:g_ref17_Total p0=some x):CallOk Try.prog 96 [z1 p0] (.ret (vI x) []):=by
 refine fn_ok [] Try.func96 rfl (by decide +kernel) rfl ?_
 unfold g_ref17_Total at h
 refine wp_eqB (base':=0) (st':=⟨[(0,z1 p0)],[],18⟩) kr kr ?_
 refine sq (sq (wp_seq (sq (wp_block ?_))))
 refine wwh h (fun s1=>⟨[(0,z1 p0),(3,vI s1.1),(4,vI s1.2)],[],18⟩) (fun v out=>out=.go (.exit 0) ⟨[(3,vI v)],[],18⟩) (wk_gc (live:=[0,3,4]) (keep:=[]) kr) ?_ ?_
 ·intro s1 o h
  unfold g_ref17_Total_b0 at h
  refine wp_seq (wp_seq (reg_in (sz 2 2 ?_)))
  refine lenL (enc:=eI) (l:=p0) (fl:=true) kr gE ?_
  refine sz 1 4 (reg_end rfl ?_)
  refine wb [8] h (fun q3 h=>?_) (fun q3 h=>?_)
  ·refine wcT (wp_skip (wp_seq (wp_block (reg_in (sz 3 3 ?_)))))
   refine bind_elim h (fun a4 q5 h=>?_)
   refine idxL' (enc:=eI) (l:=p0) (n:=s1.2) (fl:=true) (w:=1) (a:=a4) kr rfl gE q5 ?_
   refine sz 3 7 (reg_end rfl ?_)
   refine wgc [0,3,4] [] ⟨[(0,z1 p0),(3,vI (zw (s1.1+a4))),(4,vI s1.2)],[],18⟩ ?_
   refine rn ?_
   cases h
   exact ⟨_,rfl,(wk_gc (live:=[0,3,4]) (keep:=[]) kr)⟩
  refine wcF (wg [3] [] ?_)
  refine wp_exit ?_
  cases h
  exact ⟨kr,rfl⟩
 intro x7 h out hx
 subst hx
 refine sq (wg [2] [] ?_)
 cases h
 exact wp_ret (show fnOut _ _ _ _=_ from by kernel_rfl)
theorem g_ref17_All_ok (p0:Tapi_Hidden) (p1:(List Int)) (x:Int) (h:g_ref17_All p0 p1=some x):CallOk Try.prog 74 [.agg [vI p0.Grain,z1 p0.First,z2 p0.Step,z2 p0.Show],z1 p1] (.ret (vI x) []):=by
 refine fn_ok [] Try.func74 rfl (by decide +kernel) rfl ?_
 unfold g_ref17_All at h
 refine wp_eqB (base':=0) (st':=⟨[(0,.agg [vI p0.Grain,z1 p0.First,z2 p0.Step,z2 p0.Show]),(1,z1 p1)],[],16⟩) kr kr ?_
 refine wp_seq (reg_in ?_)
 refine sgL false [] [] false gE ?_
 refine sz 1 2 (reg_end rfl (wp_seq (reg_in (sz 2 2 ?_))))
 refine callW bodyB_20 (g_ref17_Forward_ok p0 p1) h (fun x1 _ h=>?_)
 refine sz 1 4 (reg_end rfl (wp_seq (wg [5] [1] (reg_in (sz 4 4 ?_)))))
 refine bind_elim h (fun a3 q4 h=>?_)
 refine idxR' (enc:=z1) (l:=x1) (n:=zw ((zn x1) - 1)) (w:=1) (ob:=0) (ro:=false) (nr:=true) (fl:=false) (a:=a3) kr kr gE q4 ?_
 refine loadR (enc:=z1) (l:=x1) (n:=zw ((zn x1) - 1)) (w:=1) (ob:=0) (c:=0) (bx:=false) (ro:=false) (nr:=true) (fl:=false) (a:=a3) kr kr q4 gE ?_
 refine callW bodyB_96 (g_ref17_Total_ok a3) h (fun x5 _ h=>?_)
 refine sz 1 8 (reg_end rfl ?_)
 refine wgc [4] [] ⟨[(4,vI x5)],[],16⟩ ?_
 cases h
 exact wp_ret (show fnOut _ _ _ _=_ from by kernel_rfl)
theorem g_ref17_Shared_ok (p0:(List Int)) (x:(List Tapi_Q)) (h:g_ref17_Shared p0=some x):CallOk Try.prog 75 [z1 p0] (.ret (.ref 0 0 x.length) [oR true 2 eTapi_Q x]):=by
 refine fn_ok [] Try.func75 rfl (by decide +kernel) rfl ?_
 unfold g_ref17_Shared at h
 refine wp_eqB (base':=0) (st':=⟨[(0,z1 p0)],[],22⟩) kr kr ?_
 refine sq (sq (wp_seq (sq (wp_block ?_))))
 refine wwh h (fun s1=>⟨[(0,z1 p0),(3,.ref 0 0 s1.2.length),(4,vI s1.1)],[oR true 2 eTapi_Q s1.2],22⟩) (fun v out=>out=.go (.exit 0) ⟨[(3,.ref 0 0 v.length)],[oR true 2 eTapi_Q v],22⟩) (wk_trans (wk_gc (live:=[0,3,4]) (keep:=[]) (st':=⟨[(0,z1 p0),(3,.nils),(4,vI 0)],[],22⟩) kr) (wk_trans (wk_nil 3 2 true true (st':=⟨[(0,z1 p0),(3,.ref 0 0 0),(4,vI 0)],[.row false false true true 2 []],22⟩) kr) (wk_gc (live:=[0,3,4]) (keep:=[0]) kr))) ?_ ?_
 ·intro s1 o h
  unfold g_ref17_Shared_b0 at h
  refine wp_seq (wp_seq (reg_in (sz 2 2 ?_)))
  refine lenL (enc:=eI) (l:=p0) (fl:=true) kr gE ?_
  refine sz 1 4 (reg_end rfl ?_)
  refine wb [8] h (fun q3 h=>?_) (fun q3 h=>?_)
  ·refine wcT (wp_skip (wp_seq (wp_block (rga hfol (sy 3 3 ?_)))))
   refine bind_elim h (fun a4 q5 h=>?_)
   refine idxL' (enc:=eI) (l:=p0) (n:=s1.1) (fl:=true) (w:=1) (a:=a4) kr rfl gE q5 ?_
   refine sy 2 6 ?_
   refine callW bodyB_96 (g_ref17_Total_ok p0) h (fun x6 _ h=>?_)
   refine callW bodyB_35 (g_ref01_Of_ok a4 x6) h (fun x8 _ h=>?_)
   refine sgL false [] [] true gE ?_
   refine appR (enc:=eTapi_Q) (l:=s1.2) (m:=([x8]:(List Tapi_Q))) (w:=2) (bytes:=16) (ob:=0) (nr:=true) (fl:=true) (nr':=true) (fl':=true) (b:=.ref 1 0 1) (rds:=[1]) false kr kr kr rfl gE kr h (fun h=>?_)
   refine sy 1 11 (rgd ?_)
   refine wgc [0,3,4] [2] ⟨[(0,z1 p0),(3,.ref 0 0 ((s1.2++([x8]:(List Tapi_Q))).length)),(4,vI s1.1)],[oR true 2 eTapi_Q (s1.2++([x8]:(List Tapi_Q)))],22⟩ ?_
   refine rn ?_
   cases h
   exact ⟨_,rfl,(wk_gc (live:=[0,3,4]) (keep:=[0]) kr)⟩
  refine wcF (wg [3] [0] ?_)
  refine wp_exit ?_
  cases h
  exact ⟨kr,rfl⟩
 intro x11 h out hx
 subst hx
 refine sq (wg [2] [0] ?_)
 cases h
 exact wp_ret (show fnOut _ _ _ _=_ from by kernel_rfl)
theorem g_ref17_Predict_ok (p0:Tapi_Hidden) (p1:(List Int)) (p2:Int) (x:((List Tapi_Q) × Int)) (h:g_ref17_Predict p0 p1 p2=some x):CallOk Try.prog 23 [.agg [vI p0.Grain,z1 p0.First,z2 p0.Step,z2 p0.Show],z1 p1,vI p2] (.ret (.tup [.ref 0 0 x.1.length,vI x.2]) [oR true 2 eTapi_Q x.1]):=by
 refine fn_ok [] Try.func23 rfl (by decide +kernel) rfl ?_
 unfold g_ref17_Predict at h
 refine wp_eqB (base':=0) (st':=⟨[(0,.agg [vI p0.Grain,z1 p0.First,z2 p0.Step,z2 p0.Show]),(1,z1 p1),(2,vI p2)],[],52⟩) kr kr ?_
 refine wp_seq (reg_in ?_)
 refine sgL false [] [] false gE ?_
 refine sz 2 3 (reg_end rfl (wp_seq (wp_seq (reg_in (sz 2 2 ?_)))))
 refine callW bodyB_18 (g_ref17_Errors_ok p0 p1) h (fun x1 _ h=>?_)
 refine sz 1 4 (reg_end rfl (wp_seq (wg [1,2,3,8] [0] (rn ?_))))
 refine wb [16] h (fun q4 h=>?_) (fun q4 h=>?_)
 ·refine wcT (wp_seq ?_)
  refine wgc [8] [] ⟨[(8,vI x1)],[],52⟩ ?_
  refine rn (wg [6,7] [] ?_)
  refine wp_wk (wk_nil 6 2 true true gE) ?_
  cases h
  exact wp_ret (show fnOut _ _ _ _=_ from by kernel_rfl)
 refine wcF (wp_skip (wp_seq (wp_seq (reg_in (sz 3 3 ?_)))))
 refine rw_wk (wk_gc (live:=[1,2,3,20]) (keep:=[0]) (st':=⟨[(1,z1 p1),(2,vI p2),(3,.ptr 0 0 0),(20,vB (decide (p2 < 0)))],[oX true false 4 (.agg [vI p0.Grain,z1 p0.First,z2 p0.Step,z2 p0.Show])],52⟩) kr) ?_
 refine rb [20] h (fun q6 h=>?_) (fun q6 h=>?_)
 ·refine sz 6 9 (reg_end rfl (wcT (wp_seq (wg [] [] (rn (wg [6,7] [] ?_))))))
  refine wp_wk (wk_nil 6 2 true true gE) ?_
  cases h
  exact wp_ret (show fnOut _ _ _ _=_ from by kernel_rfl)
 refine sz 2 5 ?_
 refine lenL (enc:=eI) (l:=p1) (fl:=true) kr gE ?_
 refine sz 3 9 (reg_end rfl ?_)
 refine wbz h (fun q8 h=>?_) (fun q8 h=>?_)
 ·refine wp_seq (wg [] [] (rn (wg [6,7] [] ?_)))
  refine wp_wk (wk_nil 6 2 true true gE) ?_
  cases h
  exact wp_ret (show fnOut _ _ _ _=_ from by kernel_rfl)
 refine wp_skip (wp_seq (wp_seq (wg [1,2,3] [0] (reg_in (sz 2 2 ?_)))))
 refine callW bodyB_74 (g_ref17_All_ok p0 p1) h (fun x9 _ h=>?_)
 refine sz 1 4 (reg_end rfl ?_)
 refine wb [30] h (fun q12 h=>?_) (fun q12 h=>?_)
 ·refine wcT (wp_seq ?_)
  refine wgc [] [] ⟨[],[],52⟩ ?_
  refine rn (wg [6,7] [] ?_)
  refine wp_wk (wk_nil 6 2 true true gE) ?_
  cases h
  exact wp_ret (show fnOut _ _ _ _=_ from by kernel_rfl)
 refine wcF (wp_skip (sq (wp_seq (reg_in (sz 2 2 ?_)))))
 refine appN (enc:=eI) (m:=p1) (w:=1) (bytes:=8) (nr':=true) (fl':=true) (a:=.nils) (b:=z1 p1) (rds:=[]) false kr (.inl rfl) (elems_lst (fun _=>rfl)) rfl gE kr h (fun h=>?_)
 refine sz 1 4 (reg_end rfl (wp_seq (wp_seq ?_)))
 refine wgc [2,3,9] [0,1] ⟨[(2,vI p2),(3,.ptr 0 0 0),(9,.ref 1 0 p1.length)],[oX true false 4 (.agg [vI p0.Grain,z1 p0.First,z2 p0.Step,z2 p0.Show]),oR true 1 eI p1],52⟩ ?_
 refine rn (wp_block ?_)
 refine wwh h (fun s13=>⟨[(2,vI p2),(3,.ptr 0 0 0),(9,.ref 1 0 s13.2.length),(10,vI s13.1)],[oX true false 4 (.agg [vI p0.Grain,z1 p0.First,z2 p0.Step,z2 p0.Show]),oR true 1 eI s13.2],52⟩) (fun v out=>out=.go (.exit 0) ⟨[(3,.ptr 0 0 0),(9,.ref 1 0 v.length)],[oX true false 4 (.agg [vI p0.Grain,z1 p0.First,z2 p0.Step,z2 p0.Show]),oR true 1 eI v],52⟩) (wk_gc (live:=[2,3,9,10]) (keep:=[0,1]) kr) ?_ ?_
 ·intro s13 o h
  unfold g_ref17_Predict_b0 at h
  refine wp_seq (sq ?_)
  refine wb [36] h (fun q15 h=>?_) (fun q15 h=>?_)
  ·refine wcT (wp_skip (wp_seq (wp_block (reg_in (sz 1 1 ?_)))))
   refine sgL false [] [] true gE ?_
   refine appR (enc:=eI) (l:=s13.2) (m:=([-1]:(List Int))) (w:=1) (bytes:=8) (ob:=1) (nr:=true) (fl:=true) (nr':=true) (fl':=true) (b:=.ref 2 0 1) (rds:=[2]) false kr kr kr rfl gE kr h (fun h=>?_)
   refine sz 1 4 (reg_end rfl (wg [2,3,9,10] [0,3] (rn ?_)))
   cases h
   exact ⟨_,rfl,(wk_gc (live:=[2,3,9,10]) (keep:=[0,1]) kr)⟩
  refine wcF (wg [3,9] [0,1] ?_)
  refine wp_exit ?_
  cases h
  exact ⟨kr,rfl⟩
 intro x17 h out hx
 subst hx
 refine wp_seq (reg_in (sz 2 2 ?_))
 refine callR (as0:=[.agg [vI p0.Grain,z1 p0.First,z2 p0.Step,z2 p0.Show],.ref 1 0 x17.length]) (ids:=[1]) kr bodyB_20 (msnap_cons (snap_agg (msnap_cons rfl (msnap_cons rfl (msnap_cons rfl (msnap_cons rfl msnap_nil (by rfl)) (by rfl)) (by rfl)) (by rfl))) (msnap_cons (snap_full (w:=1) (bx:=false) (ro:=false) kr) msnap_nil (by rfl)) (by rfl)) (fun x18 q19=>g_ref17_Forward_ok p0 x17 x18 q19) gF h (fun x18 q19 h=>?_)
 refine sz 1 4 (reg_end rfl (wp_seq (wg [11] [2] (reg_in (sz 4 4 ?_)))))
 refine bind_elim h (fun a20 q21 h=>?_)
 refine idxR' (enc:=z1) (l:=x18) (n:=zw ((zn x18) - 1)) (w:=1) (ob:=0) (ro:=false) (nr:=true) (fl:=false) (a:=a20) kr kr gE q21 ?_
 refine loadR (enc:=z1) (l:=x18) (n:=zw ((zn x18) - 1)) (w:=1) (ob:=0) (c:=0) (bx:=false) (ro:=false) (nr:=true) (fl:=false) (a:=a20) kr kr q21 gE ?_
 refine callW bodyB_75 (g_ref17_Shared_ok a20) h (fun x22 _ h=>?_)
 refine sz 2 9 (reg_end rfl ?_)
 refine wgc [6,7] [1] ⟨[(6,.ref 0 0 x22.length),(7,vI 0)],[oR true 2 eTapi_Q x22],52⟩ ?_
 cases h
 exact wp_ret (show fnOut _ _ _ _=_ from by kernel_rfl)
noncomputable abbrev s4_56 (p3:(List Int)) (p4:Int) (a17:(List Int)) (x5:(Tapi_Hidden × Tapi_Hidden × Tapi_Hidden)) (s7:Int) (x12:(List Int)) (s14:Int) (s19:Int):List (Nat × AV):=[(3,z1 p3),(4,vI p4),(5,.ptr 0 0 0),(12,.ptr 1 0 0),(14,z1 a17),(26,.agg [vI x5.1.Grain,z1 x5.1.First,z2 x5.1.Step,z2 x5.1.Show,vI x5.2.1.Grain,z1 x5.2.1.First,z2 x5.2.1.Step,z2 x5.2.1.Show,vI x5.2.2.Grain,z1 x5.2.2.First,z2 x5.2.2.Step,z2 x5.2.2.Show]),(27,vI s7),(37,.agg [z1 x12,z1 (sub p3 0 (if 10 < (zn p3) then 10 else (zn p3)))]),(38,vI s14),(48,.agg [vI p4,vI (Int.tmod p4 9),vI (if (-1) < p4 then (-1) else p4),vI (if 9 > p4 then 9 else p4)]),(49,vI s19)]
noncomputable abbrev s4_57 (p3:(List Int)) (p4:Int) (x5:(Tapi_Hidden × Tapi_Hidden × Tapi_Hidden)) (s7:Int) (x12:(List Int)) (s14:Int):List (Nat × AV):=[(3,z1 p3),(4,vI p4),(5,.ptr 0 0 0),(12,.ptr 1 0 0),(26,.agg [vI x5.1.Grain,z1 x5.1.First,z2 x5.1.Step,z2 x5.1.Show,vI x5.2.1.Grain,z1 x5.2.1.First,z2 x5.2.1.Step,z2 x5.2.1.Show,vI x5.2.2.Grain,z1 x5.2.2.First,z2 x5.2.2.Step,z2 x5.2.2.Show]),(27,vI s7),(37,.agg [z1 x12,z1 (sub p3 0 (if 10 < (zn p3) then 10 else (zn p3)))]),(38,vI s14)]
noncomputable abbrev s4_58 (p3:(List Int)) (p4:Int) (x5:(Tapi_Hidden × Tapi_Hidden × Tapi_Hidden)) (s7:Int):List (Nat × AV):=[(3,z1 p3),(4,vI p4),(5,.ptr 0 0 0),(26,.agg [vI x5.1.Grain,z1 x5.1.First,z2 x5.1.Step,z2 x5.1.Show,vI x5.2.1.Grain,z1 x5.2.1.First,z2 x5.2.1.Step,z2 x5.2.1.Show,vI x5.2.2.Grain,z1 x5.2.2.First,z2 x5.2.2.Step,z2 x5.2.2.Show]),(27,vI s7)]
theorem g_law17_HiddenPredicts_ok (p0:Tharuspexref17_Draft) (p1:Tharuspexref17_Bend) (p2:Tapi_Hidden) (p3:(List Int)) (p4:Int) (x:Bool) (h:g_law17_HiddenPredicts p0 p1 p2 p3 p4=some x):CallOk Try.prog 4 [.agg [.int .u8 p0.Grain,.int .u8 p0.States,.int .u8 p0.Shows,eL true (AV.int .u8) p0.L,eL true (AV.int .u8) p0.Seen],.agg [.int .u8 p1.What,.int .u8 p1.S,.int .u8 p1.At,vI p1.N],.agg [vI p2.Grain,z1 p2.First,z2 p2.Step,z2 p2.Show],z1 p3,vI p4] (.ret (vB x) []):=by
 refine fn_ok [] Try.func4 rfl (by decide +kernel) rfl ?_
 unfold g_law17_HiddenPredicts at h
 refine wp_eqB (base':=0) (st':=⟨[(0,.agg [.int .u8 p0.Grain,.int .u8 p0.States,.int .u8 p0.Shows,eL true (AV.int .u8) p0.L,eL true (AV.int .u8) p0.Seen]),(1,.agg [.int .u8 p1.What,.int .u8 p1.S,.int .u8 p1.At,vI p1.N]),(2,.agg [vI p2.Grain,z1 p2.First,z2 p2.Step,z2 p2.Show]),(3,z1 p3),(4,vI p4)],[],78⟩) kr kr ?_
 refine wp_seq (reg_in ?_)
 refine sgL false [] [] false gE ?_
 refine sz 1 2 ?_
 refine sgL false [] [] false gE ?_
 refine sz 1 4 (reg_end rfl (wp_seq (wp_seq (reg_in ?_))))
 refine callW bodyB_11 (g_law17_wakes_ok ) h (fun x1 _ h=>?_)
 refine sz 1 2 (reg_end rfl ?_)
 refine wbz h (fun q4 h=>?_) (fun q4 h=>?_)
 ·refine wp_seq (wg [] [] (rn ?_))
  refine wgc [10] [] ⟨[(10,vB false)],[],78⟩ ?_
  cases h
  exact wp_ret (show fnOut _ _ _ _=_ from by kernel_rfl)
 refine wp_skip (wp_seq (wp_seq (wg [3,4,5,6,7] [0,1,2] (reg_in (sz 3 3 ?_)))))
 refine callW bodyB_12 (g_law17_chains_ok p0 p1 p2) h (fun x5 _ h=>?_)
 refine sz 1 5 (reg_end rfl (wp_block ?_))
 refine wwh h (fun s7=>⟨(s4_58 p3 p4 x5 s7),[oX true false 5 (.agg [.int .u8 p0.Grain,.int .u8 p0.States,.int .u8 p0.Shows,eL true (AV.int .u8) p0.L,eL true (AV.int .u8) p0.Seen])],78⟩) (fun x out=>out=match x with | .inl v=>.go (.ret) ⟨[(10,vB false)],[],78⟩ | .inr v=>.go (.exit 0) ⟨[],[],78⟩) (wk_gc (live:=[3,4,5,26,27]) (keep:=[0]) kr) ?_ ?_
 ·intro s7 o h
  unfold g_law17_HiddenPredicts_b2 at h
  refine sq (wp_seq ?_)
  refine wb [28] h (fun q9 h=>?_) (fun q9 h=>?_)
  ·refine wcT (wp_skip (wp_seq (wp_block (wp_seq (reg_in ?_)))))
   refine bind_elim h (fun a10 q11 h=>?_)
   refine idxA (enc:=eTapi_Hidden) (l:=([x5.1,x5.2.1,x5.2.2]:(List Tapi_Hidden))) (n:=s7) (a:=a10) (w:=4) (g:=true) (v:=.agg [vI a10.Grain,z1 a10.First,z2 a10.Step,z2 a10.Show]) kr (fun _=>rfl) rfl q11 kr gE ?_
   refine sgL false [] [] false gE ?_
   refine sz 1 3 (reg_end rfl (wp_seq (rga hfol (sy 1 1 ?_))))
   refine callW bodyB_15 (fun x12 q13=>CallOk.froz (g_ref17_Draft_What_ok p0 x12 q13) (snap_full (w:=1) (bx:=false) (ro:=false) rfl)) h (fun x12 q13 h=>?_)
   refine sy 2 4 ?_
   refine lenL (enc:=eI) (l:=p3) (fl:=true) kr gE ?_
   refine sy 1 6 ?_
   refine sliceL (enc:=eI) (l:=p3) (fl:=true) (lo:=none) (hi:=(some (vI (if 10 < (zn p3) then 10 else (zn p3))))) (a:=0) (b:=(if 10 < (zn p3) then 10 else (zn p3))) (w:=1) kr (fun _=>rfl) rfl rfl gE h (fun h=>?_)
   refine sy 2 9 (rgd (wp_block ?_))
   refine wwh h (fun s14=>⟨(s4_57 p3 p4 x5 s7 x12 s14),[oX true false 5 (.agg [.int .u8 p0.Grain,.int .u8 p0.States,.int .u8 p0.Shows,eL true (AV.int .u8) p0.L,eL true (AV.int .u8) p0.Seen]),oX true false 4 (.agg [vI a10.Grain,z1 a10.First,z2 a10.Step,z2 a10.Show])],78⟩) (fun x out=>out=match x with | .inl v=>.go (.ret) ⟨[(10,vB false)],[],78⟩ | .inr v=>.go (.exit 2) ⟨(s4_58 p3 p4 x5 s7),[oX true false 5 (.agg [.int .u8 p0.Grain,.int .u8 p0.States,.int .u8 p0.Shows,eL true (AV.int .u8) p0.L,eL true (AV.int .u8) p0.Seen])],78⟩) (wk_gc (live:=[3,4,5,12,26,27,37,38]) (keep:=[0,1]) kr) ?_ ?_
   ·intro s14 o h
    unfold g_law17_HiddenPredicts_b1 at h
    refine sq (wp_seq ?_)
    refine wb [39] h (fun q16 h=>?_) (fun q16 h=>?_)
    ·refine wcT (wp_skip (wp_seq (wp_block (wp_seq (reg_in ?_)))))
     refine bind_elim h (fun a17 q18 h=>?_)
     refine idxA (enc:=z1) (l:=([x12,(sub p3 0 (if 10 < (zn p3) then 10 else (zn p3)))]:(List (List Int)))) (n:=s14) (a:=a17) (w:=1) (g:=false) (v:=z1 a17) kr (fun _=>rfl) rfl q18 kr gE ?_
     refine sz 1 2 (reg_end rfl (sq (wp_block ?_)))
     refine wwh h (fun s19=>⟨(s4_56 p3 p4 a17 x5 s7 x12 s14 s19),[oX true false 5 (.agg [.int .u8 p0.Grain,.int .u8 p0.States,.int .u8 p0.Shows,eL true (AV.int .u8) p0.L,eL true (AV.int .u8) p0.Seen]),oX true false 4 (.agg [vI a10.Grain,z1 a10.First,z2 a10.Step,z2 a10.Show])],78⟩) (fun x out=>out=match x with | .inl v=>.go (.ret) ⟨[(10,vB false)],[],78⟩ | .inr v=>.go (.exit 4) ⟨(s4_57 p3 p4 x5 s7 x12 s14),[oX true false 5 (.agg [.int .u8 p0.Grain,.int .u8 p0.States,.int .u8 p0.Shows,eL true (AV.int .u8) p0.L,eL true (AV.int .u8) p0.Seen]),oX true false 4 (.agg [vI a10.Grain,z1 a10.First,z2 a10.Step,z2 a10.Show])],78⟩) (wk_gc (live:=[3,4,5,12,14,26,27,37,38,48,49]) (keep:=[0,1]) kr) ?_ ?_
     ·intro s19 o h
      unfold g_law17_HiddenPredicts_b0 at h
      refine sq (wp_seq ?_)
      refine wb [50] h (fun q21 h=>?_) (fun q21 h=>?_)
      ·refine wcT (wp_skip (wp_seq (wp_block (wp_seq (reg_in ?_)))))
       refine bind_elim h (fun a22 q23 h=>?_)
       refine idxA (enc:=eI) (l:=([p4,Int.tmod p4 9,(if (-1) < p4 then (-1) else p4),(if 9 > p4 then 9 else p4)]:(List Int))) (n:=s19) (a:=a22) (w:=1) (g:=false) (v:=vI a22) kr (fun _=>rfl) rfl q23 kr gE ?_
       refine sz 1 2 (reg_end rfl (wp_seq (reg_in (sz 3 3 ?_))))
       refine callW bodyB_22 (g_hidden_Predict_ok a10 a17 a22) h (fun x24 _ h=>?_)
       refine sz 5 9 (reg_end rfl (wp_seq ?_))
       refine wgc [3,4,5,12,14,26,27,37,38,48,49,16,17,18] [0,1,2] ⟨[(3,z1 p3),(4,vI p4),(5,.ptr 0 0 0),(12,.ptr 1 0 0),(14,z1 a17),(26,.agg [vI x5.1.Grain,z1 x5.1.First,z2 x5.1.Step,z2 x5.1.Show,vI x5.2.1.Grain,z1 x5.2.1.First,z2 x5.2.1.Step,z2 x5.2.1.Show,vI x5.2.2.Grain,z1 x5.2.2.First,z2 x5.2.2.Step,z2 x5.2.2.Show]),(27,vI s7),(37,.agg [z1 x12,z1 (sub p3 0 (if 10 < (zn p3) then 10 else (zn p3)))]),(38,vI s14),(48,.agg [vI p4,vI (Int.tmod p4 9),vI (if (-1) < p4 then (-1) else p4),vI (if 9 > p4 then 9 else p4)]),(49,vI s19),(16,vI a22),(17,.ref 2 0 x24.1.length),(18,vI x24.2)],[oX true false 5 (.agg [.int .u8 p0.Grain,.int .u8 p0.States,.int .u8 p0.Shows,eL true (AV.int .u8) p0.L,eL true (AV.int .u8) p0.Seen]),oX true false 4 (.agg [vI a10.Grain,z1 a10.First,z2 a10.Step,z2 a10.Show]),oR true 2 eTapi_Q x24.1],78⟩ ?_
       refine reg_in (sz 3 3 ?_)
       refine callW bodyB_23 (g_ref17_Predict_ok a10 a17 a22) h (fun x26 _ h=>?_)
       refine sz 5 9 (reg_end rfl (wp_seq (wg [3,4,5,12,14,26,27,37,38,48,49,17,18,19,20] [0,1,2,3] (reg_in (sz 4 4 (rwg [3,4,5,12,14,26,27,37,38,48,49,17,19,69] [0,1,2,3] ?_))))))
       refine rb [69] h (fun q29 h=>?_) (fun q29 h=>?_)
       ·refine sz 5 9 (reg_end rfl (wcT (wp_seq ?_)))
        refine wgc [] [] ⟨[],[],78⟩ ?_
        refine rn (wg [10] [] ?_)
        refine wp_ret ?_
        cases h
        exact ⟨kr,rfl⟩
       refine sz 2 6 ?_
       refine callR (as0:=[.ref 2 0 x24.1.length,.ref 3 0 x26.1.length]) (ids:=[2,3]) kr bodyB_24 (msnap_cons (snap_full (w:=2) (bx:=false) (ro:=false) kr) (msnap_cons (snap_full (w:=2) (bx:=false) (ro:=false) kr) msnap_nil (by rfl)) (by rfl)) (fun x30 q31=>g_ref17_SameQ_ok x24.1 x26.1 x30 q31) gF h (fun x30 q31 h=>?_)
       refine sz 2 9 (reg_end rfl ?_)
       refine wbz h (fun q33 h=>?_) (fun q33 h=>?_)
       ·refine wp_seq ?_
        refine wgc [] [] ⟨[],[],78⟩ ?_
        refine rn (wg [10] [] ?_)
        refine wp_ret ?_
        cases h
        exact ⟨kr,rfl⟩
       refine wp_skip ?_
       refine wgc [3,4,5,12,14,26,27,37,38,48,49] [0,1] ⟨(s4_56 p3 p4 a17 x5 s7 x12 s14 s19),[oX true false 5 (.agg [.int .u8 p0.Grain,.int .u8 p0.States,.int .u8 p0.Shows,eL true (AV.int .u8) p0.L,eL true (AV.int .u8) p0.Seen]),oX true false 4 (.agg [vI a10.Grain,z1 a10.First,z2 a10.Step,z2 a10.Show])],78⟩ ?_
       refine rn ?_
       cases h
       exact ⟨_,rfl,(wk_gc (live:=[3,4,5,12,14,26,27,37,38,48,49]) (keep:=[0,1]) kr)⟩
      refine wcF (wg [3,4,5,12,26,27,37,38] [0,1] ?_)
      refine wp_exit ?_
      cases h
      exact ⟨kr,rfl⟩
     intro x34 h out hx
     subst hx
     rcases x34 with x35 | x36
     ·dsimp only at h ⊢
      cases h
      exact ⟨kr,rfl⟩
     ·dsimp only at h ⊢
      refine rn ?_
      cases h
      exact ⟨_,rfl,(wk_gc (live:=[3,4,5,12,26,27,37,38]) (keep:=[0,1]) kr)⟩
    refine wcF (wg [3,4,5,26,27] [0] ?_)
    refine wp_exit ?_
    cases h
    exact ⟨kr,rfl⟩
   intro x37 h out hx
   subst hx
   rcases x37 with x38 | x39
   ·dsimp only at h ⊢
    cases h
    exact ⟨kr,rfl⟩
   ·dsimp only at h ⊢
    refine rn ?_
    cases h
    exact ⟨_,rfl,(wk_gc (live:=[3,4,5,26,27]) (keep:=[0]) kr)⟩
  refine wcF (wg [] [] ?_)
  refine wp_exit ?_
  cases h
  exact ⟨kr,rfl⟩
 intro x40 h out hx
 subst hx
 rcases x40 with x41 | x42
 ·dsimp only at h ⊢
  cases h
  show fnOut _ _ _ _=_
  kernel_rfl
 ·dsimp only at h ⊢
  refine sq (wg [10] [] ?_)
  cases h
  exact wp_ret (show fnOut _ _ _ _=_ from by kernel_rfl)
end Go.Ab
namespace Go.Ab
open Go
theorem whileN_spec {σ ρ:Type} {body:σ→Option (Step σ ρ)} (I:σ→Prop) (m:σ→Nat) (Q:ρ→Prop)
  (step:∀s,I s→(∃s',body s=some (.next s')∧I s'∧m s' < m s)∨(∃r,body s=some (.done r)∧Q r)) :
  ∀(n:Nat) (s:σ),I s→m s < n→∃r,whileN n body s=some r∧Q r
 | 0,s,_,h=>by omega
 | n+1,s,hI,h=>by
  unfold whileN
  rcases step s hI with ⟨s',h1,h2,h3⟩ | ⟨r,h1,h2⟩
  ·rw [h1]
   exact whileN_spec I m Q step n s' h2 (by omega)
  ·rw [h1]
   exact ⟨r,rfl,h2⟩
theorem whileN_eq {σ ρ:Type} {body:σ→Option (Step σ ρ)} (I:σ→Prop) (m:σ→Nat) (r:ρ)
  (step:∀s,I s→(∃s',body s=some (.next s')∧I s'∧m s' < m s)∨body s=some (.done r)) (s:σ) (hI:I s) (hm:m s < 1152921504606846976):whileN fuel body s=some r:=by
 obtain ⟨r',h1,h2⟩:=whileN_spec I m (fun x=>x=r) (fun s hs=>(step s hs).imp id fun h=>⟨r,h,rfl⟩) fuel s hI hm
 rw [h1,h2]
theorem whileN_ex {σ ρ:Type} {body:σ→Option (Step σ ρ)} (I:σ→Prop) (m:σ→Nat) (Q:ρ→Prop)
  (step:∀s,I s→(∃s',body s=some (.next s')∧I s'∧m s' < m s)∨(∃r,body s=some (.done r)∧Q r)) (s:σ) (hI:I s) (hm:m s < 1152921504606846976):∃r,whileN fuel body s=some r∧Q r :=
 whileN_spec I m Q step fuel s hI hm
theorem whileN_count {σ ρ:Type} {body:σ→Option (Step σ ρ)} (f:Nat → σ) (n:Nat) (r:ρ) (step:∀k,k < n→body (f k)=some (.next (f (k+1)))) (done:body (f n)=some (.done r)) (hn:n < 1152921504606846976) :
  whileN fuel body (f 0)=some r:=by
 have key:∀(j N k:Nat),k+j=n→j < N→whileN N body (f k)=some r:=by
  intro j
  induction j with
  | zero =>
   intro N k hk hN
   obtain ⟨N,rfl⟩:∃M,N=M+1:=⟨N - 1,by omega⟩
   have:k=n:=by omega
   subst this
   simp [whileN,done]
  | succ j ih =>
   intro N k hk hN
   obtain ⟨N,rfl⟩:∃M,N=M+1:=⟨N - 1,by omega⟩
   simp only [whileN,step k (by omega)]
   exact ih N (k+1) (by omega) (by omega)
 exact key n fuel 0 (by omega) hn
theorem whileN_run {σ ρ:Type} {body:σ→Option (Step σ ρ)} {s0:σ} (f:Nat → σ) (n:Nat) (r:ρ) (h0:f 0=s0) (step:∀k,k < n→body (f k)=some (.next (f (k+1)))) (done:body (f n)=some (.done r)) (hn:n < 1152921504606846976) :
  whileN fuel body s0=some r:=by rw [←h0]; exact whileN_count f n r step done hn
theorem w64 {n:Int} (h:-9223372036854775808≤n∧n≤9223372036854775807):IntKind.i64.wrap n=n:=by rw [IntKind.wrap_i64]; omega
theorem lkI_at {α:Type} {l:List α} {n:Int} (h:0≤n) (h2:n < l.length):lkI l n=some (l[n.toNat]'(by omega)):=by
 unfold lkI
 rw [if_neg (by omega),List.getElem?_eq_getElem]
theorem lkI_nat {α:Type} {l:List α} {k:Nat} (h:k < l.length):lkI l (k:Int)=some l[k]:=by
 unfold lkI
 rw [if_neg (by omega),Int.toNat_natCast,List.getElem?_eq_getElem h]
theorem tdiv_pos {a b:Int} (h:0≤a):Int.tdiv a b=a / b:=Int.tdiv_eq_ediv_of_nonneg h
theorem tmod_pos {a b:Int} (h:0≤a):Int.tmod a b=a % b:=Int.tmod_eq_emod_of_nonneg h
def dgs (n:Nat):List Int:=if h:n=0 then [] else ((n % 10000:Nat):Int)::dgs (n / 10000)
termination_by n
decreasing_by omega
def dval:List Int→Nat
 | []=>0
 | x::l=>x.toNat + 10000*dval l
def isdg (l:List Int):Prop:=∀x∈l,0≤x∧x < 10000
theorem dgs_zero:dgs 0=[]:=by rw [dgs]; simp
theorem dgs_pos {n:Nat} (h:n≠0):dgs n=((n % 10000:Nat):Int)::dgs (n / 10000):=by rw [dgs]; simp [h]
theorem dval_dgs (n:Nat):dval (dgs n)=n:=by
 induction n using Nat.strongRecOn with
 | _ n ih =>
  by_cases h:n=0
  ·subst h; rw [dgs_zero]; rfl
  ·rw [dgs_pos h]
   simp only [dval]
   rw [ih (n / 10000) (by omega)]
   omega
theorem isdg_dgs (n:Nat):isdg (dgs n):=by
 induction n using Nat.strongRecOn with
 | _ n ih =>
  by_cases h:n=0
  ·subst h; rw [dgs_zero]; intro x hx; cases hx
  ·rw [dgs_pos h]
   intro x hx
   rcases List.mem_cons.1 hx with rfl | hx
   ·omega
   ·exact ih (n / 10000) (by omega) x hx
theorem dgs_eq_nil {n:Nat}:dgs n=[]↔n=0:=by
 constructor
 ·intro h
  have:=dval_dgs n
  rw [h] at this; exact this.symm
 ·intro h; subst h; exact dgs_zero
theorem isdg_cons {x:Int} {l:List Int}:isdg (x::l)↔(0≤x∧x < 10000)∧isdg l:=by simp [isdg]
theorem isdg_nil:isdg []:=fun x h=>by cases h
theorem isdg_append {a b:List Int}:isdg (a++b)↔isdg a∧isdg b:=by
 constructor
 ·exact fun h=>⟨fun x hx=>h x (List.mem_append_left _ hx),fun x hx=>h x (List.mem_append_right _ hx)⟩
 ·rintro ⟨h1,h2⟩ x hx
  rcases List.mem_append.1 hx with h | h
  ·exact h1 x h
  ·exact h2 x h
theorem dval_append (a b:List Int):dval (a++b)=dval a+10000^a.length*dval b:=by
 induction a with
 | nil=>simp [dval]
 | cons x a ih =>
  simp only [List.cons_append,dval,ih,List.length_cons,Nat.pow_succ]
  rw [Nat.mul_add,Nat.add_assoc,←Nat.mul_assoc,Nat.mul_comm 10000 (10000^a.length)]
theorem dval_lt {l:List Int} (h:isdg l):dval l < 10000^l.length:=by
 induction l with
 | nil=>simp [dval]
 | cons x l ih =>
  rw [isdg_cons] at h
  have:=ih h.2
  simp only [dval,List.length_cons,Nat.pow_succ]
  omega
def nolz (l:List Int):Prop:=l.getLast?≠some 0
theorem dgs_of {l:List Int} (h:isdg l) (hn:nolz l):dgs (dval l)=l:=by
 induction l with
 | nil=>exact dgs_zero
 | cons x l ih =>
  rw [isdg_cons] at h
  have hn':nolz l:=by
   unfold nolz at *
   cases l with
   | nil=>simp
   | cons y l=>simpa [List.getLast?_cons_cons] using hn
  have hne:dval (x::l)≠0:=by
   simp only [dval]
   intro h0
   have hx:x=0:=by omega
   have hl:dval l=0:=by omega
   have:=ih h.2 hn'
   rw [hl,dgs_zero] at this
   subst this
   subst hx
   simp [nolz] at hn
  rw [dgs_pos hne]
  simp only [dval] at *
  rw [show (x.toNat + 10000*dval l) / 10000=dval l by omega,ih h.2 hn']
  congr 1
  omega
theorem nolz_dgs (n:Nat):nolz (dgs n):=by
 induction n using Nat.strongRecOn with
 | _ n ih =>
  by_cases h:n=0
  ·subst h; rw [dgs_zero]; simp [nolz]
  ·rw [dgs_pos h]
   have:=ih (n / 10000) (by omega)
   unfold nolz at *
   cases hd:dgs (n / 10000) with
   | nil =>
    rw [dgs_eq_nil] at hd
    intro h1
    simp only [List.getLast?_singleton,Option.some.injEq] at h1
    omega
   | cons y l =>
    rw [hd] at this
    simpa [List.getLast?_cons_cons] using this
theorem dgs_length_le {n K:Nat} (h:n < 10000^K):(dgs n).length≤K:=by
 induction K generalizing n with
 | zero=>simp at h; subst h; rw [dgs_zero]; simp
 | succ K ih =>
  by_cases h0:n=0
  ·subst h0; rw [dgs_zero]; simp
  ·rw [dgs_pos h0]
   simp only [List.length_cons]
   have:=ih (n:=n / 10000) (by rw [Nat.pow_succ] at h; omega)
   omega
theorem lt_dgs (n:Nat):n < 10000^(dgs n).length:=by
 have:=dval_lt (isdg_dgs n)
 rwa [dval_dgs] at this
theorem dgs_le {n:Nat} (h:n≠0):10000^((dgs n).length - 1)≤n:=by
 induction n using Nat.strongRecOn with
 | _ n ih =>
  rw [dgs_pos h]
  simp only [List.length_cons,Nat.add_sub_cancel]
  by_cases h0:n / 10000=0
  ·rw [h0,dgs_zero]; simp; omega
  ·have h1:=ih (n / 10000) (by omega) h0
   have:(dgs (n / 10000)).length≠0:=by rw [Ne,List.length_eq_zero_iff,dgs_eq_nil]; exact h0
   obtain ⟨k,hk⟩:∃k,(dgs (n / 10000)).length=k+1:=⟨(dgs (n / 10000)).length - 1,by omega⟩
   rw [hk] at h1 ⊢
   simp only [Nat.add_sub_cancel] at h1
   rw [Nat.pow_succ]
   omega
theorem isdg_get {l:List Int} (h:isdg l) {k:Nat} (hk:k < l.length):0≤l[k]∧l[k] < 10000:=h _ (List.getElem_mem hk)
theorem dval_take_succ {l:List Int} {k:Nat} (hk:k < l.length):dval (l.take (k+1))=dval (l.take k)+10000^k*l[k].toNat := by
 rw [List.take_succ_eq_append_getElem hk,dval_append]
 simp [dval,Nat.min_eq_left (Nat.le_of_lt hk)]
theorem dval_drop {l:List Int} {k:Nat} (hk:k < l.length):dval (l.drop k)=l[k].toNat + 10000*dval (l.drop (k+1)):=by
 rw [List.drop_eq_getElem_cons hk]; rfl
theorem isdg_take {l:List Int} (h:isdg l) (k:Nat):isdg (l.take k):=fun x hx=>h x (List.mem_of_mem_take hx)
theorem isdg_drop {l:List Int} (h:isdg l) (k:Nat):isdg (l.drop k):=fun x hx=>h x (List.mem_of_mem_drop hx)
end Go.Ab
