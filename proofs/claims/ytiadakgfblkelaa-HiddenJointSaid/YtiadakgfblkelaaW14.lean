/- Functions. No conditions. -/
import Derived.Test.YtiadakgfblkelaaProg
import Derived.Test.YtiadakgfblkelaaW11
import Derived.KernelRfl
import Derived.Test.YtiadakgfblkelaaW13
import Derived.Test.YtiadakgfblkelaaW12
set_option linter.all false
namespace Go.Ab
open Go Go.Proofs
set_option maxRecDepth 100000
set_option maxHeartbeats 4000000
noncomputable abbrev o35_24 (x1:(Qc × Int)):AObj:=oX true false 5 (.agg [vI x1.1.Hidden.Grain,z1 x1.1.Hidden.First,z2 x1.1.Hidden.Step,z2 x1.1.Hidden.Show,z1 x1.1.seen])
noncomputable abbrev o35_25 (x5:((List (List Int)) × Int)):AObj:=oR false 1 z1 x5.1
noncomputable abbrev o35_26 (s9:(Int × (List (List Int)))) (x1:(Qc × Int)):AObj:=.refs 5 (eF eI (List.set s9.2 (zt s9.1) (List.replicate (zt (zn x1.1.Hidden.First)) (0:Int))))
noncomputable abbrev o35_27 (s9:(Int × (List (List Int)))) (x1:(Qc × Int)):AObj:=.fam 1 true (eF eI (List.set s9.2 (zt s9.1) (List.replicate (zt (zn x1.1.Hidden.First)) (0:Int))))
noncomputable abbrev Qkj:AObj:=.loop 72 [(1,.ptr 2 0 0),(3,.ptr 3 0 0),(11,.fn (.func 125) [] [.ptr 4 0 0])] [12] (cA Try.f62 [true,true,false,true,true]) (cB Try.f62 [true,true,false,true,true]) .ready none
noncomputable abbrev o35_29:AObj:=.loop 72 [(1,.ptr 2 0 0),(3,.ptr 3 0 0),(11,.fn (.func 125) [] [.ptr 4 0 0])] [12] (cA Try.f62 [true,true,false,true,true]) (cB Try.f62 [true,true,false,true,true]) .busy none
noncomputable abbrev o35_30 (s56:(Int × (List (List Qe)) × (List (List Int)))):AObj:=oR false 1 (eL true eTapi_Q) s56.2.1
noncomputable abbrev Qeq (x1:(Qc × Int)):Nat×AV:=(0,.agg [vI x1.1.Hidden.Grain,z1 x1.1.Hidden.First,z2 x1.1.Hidden.Step,z2 x1.1.Hidden.Show,z1 x1.1.seen])
noncomputable abbrev Qx5 (x1:(Qc × Int)):Nat×AV:=(10,vI (((List.replicate (zt (zn x1.1.seen)) ([]:(List Int))).length):Int))
noncomputable abbrev e35_33:Nat×AV:=(1,.ptr 2 0 0)
noncomputable abbrev e35_34:Nat×AV:=(3,.ptr 3 0 0)
noncomputable abbrev Qob:Nat×AV:=(11,.fn (.func 125) [] [.ptr 4 0 0])
noncomputable abbrev e35_36 (x1:(Qc × Int)):Nat×AV:=(16,vI (zn x1.1.Hidden.First))
noncomputable abbrev e35_37 (x5:((List (List Int)) × Int)):Nat×AV:=(8,.ref 0 0 x5.1.length)
noncomputable abbrev e35_38 (s56:(Int × (List (List Qe)) × (List (List Int)))):Nat×AV:=(9,.ref 1 0 s56.2.1.length)
noncomputable abbrev l35_39 (x1:(Qc × Int)) (x5:((List (List Int)) × Int)):List AObj:=[(o35_24 x1),(o35_25 x5),(o35_24 x1)]
noncomputable abbrev Qeb (x5:((List (List Int)) × Int)) (s56:(Int × (List (List Qe)) × (List (List Int)))):List AObj:=[(o35_25 x5),(o35_30 s56),.refs 3 (eF eI s56.2.2),.fam 1 true (eF eI s56.2.2)]
noncomputable abbrev s35_41 (a0 a1:Nat×AV) (x1:(Qc × Int)) (s9:(Int × (List (List Int)))):List (Nat×AV):=[(1,.ptr 3 0 0),a0,(Qx5 x1),(11,vI s9.1),(12,vB true),(13,vI s9.1),(4,vI s9.1),a1,(15,vI s9.1),(16,.ptr 3 0 0),(17,.ptr 3 0 1),(18,z1 x1.1.Hidden.First),(19,vI (zn x1.1.Hidden.First))]
noncomputable abbrev Qgj (x5:((List (List Int)) × Int)) (s56:(Int × (List (List Qe)) × (List (List Int)))) (x55:(List (List Int))) (a59:(List Int)):List (Nat×AV):=[(e35_37 x5),(e35_38 s56),(31,.ref 2 0 s56.2.2.length),(32,vI (zn x55)),(33,vI s56.1),(34,vB true),(35,vI s56.1),(36,.ptr 2 (zt s56.1) 0),(37,.ref (fid 3 (zt s56.1)) 0 a59.length),(10,vI s56.1)]
noncomputable abbrev Qzr (x1:(Qc × Int)):List (Nat×AV):=[(Qeq x1),(1,.ptr 3 0 0),(2,.nils),(5,.ptr 3 0 4),(6,z1 x1.1.seen),(7,vI (zn x1.1.seen)),(8,.ref 4 0 ((List.replicate (zt (zn x1.1.seen)) ([]:(List Int))).length)),(3,.ref 4 0 ((List.replicate (zt (zn x1.1.seen)) ([]:(List Int))).length))]
noncomputable abbrev s35_44 (s17 s20:(Int × (List (List Int)))) (x1:(Qc × Int)) (a30:(List Int)):List (Nat×AV):=[e35_33,e35_34,(4,vI s17.1),(5,vI s20.1),(e35_36 x1),(17,vI s20.1),(36,.lin 6 (zt (zw (s17.1+1))) a30.length),(37,vI (zn a30))]
noncomputable abbrev Qxu (x1:(Qc × Int)) (x5:((List (List Int)) × Int)):St:=⟨(Qzr x1),(l35_39 x1 x5)++[(o35_24 x1),.refs 5 (eF eI (List.replicate (zt (zn x1.1.seen)) ([]:(List Int)))),.fam 1 true (eF eI (List.replicate (zt (zn x1.1.seen)) ([]:(List Int))))],24⟩
noncomputable abbrev Qy2 (s17:(Int × (List (List Int)))) (x1:(Qc × Int)) (s20:(Int × (List (List Int)))) (a30:(List Int)) (x5:((List (List Int)) × Int)):St:=⟨[e35_33,e35_34,(4,vI s17.1),(e35_36 x1),(17,vI s20.1),(5,vI s20.1),(32,.ref 5 0 s20.2.length),(33,vI s17.1),(34,vI (zw (s17.1+1))),(35,.ptr 5 (zt (zw (s17.1+1))) 0),(36,.lin 6 (zt (zw (s17.1+1))) a30.length),(37,vI (zn a30)),(38,vI 0)],(l35_39 x1 x5)++[oX false false 1 (.ref 5 0 s20.2.length),(o35_24 x1),.refs 6 (eF eI s20.2),.fam 1 true (eF eI s20.2),o35_29],72⟩
theorem g_hidden_Smooth_ok (p0:Qb) (p1:(List Int)) (x:((List (List Qe)) × Int)) (h:Vh p0 p1=some x):Zd Try.prog 32 [.agg [vI p0.Grain,z1 p0.First,z2 p0.Step,z2 p0.Show],z1 p1] (.ret (.tup [.ref 0 0 x.1.length,vI x.2]) [oR false 1 (eL true eTapi_Q) x.1]):=by
 refine Qw2 [] Try.func32 rfl (by decide +kernel) rfl ?_
 unfold Vh at h
 refine Ka (base':=0) (st':=⟨[(0,.agg [vI p0.Grain,z1 p0.First,z2 p0.Step,z2 p0.Show]),(1,z1 p1)],[],64⟩) kr kr ?_
 refine Qk (Zb ?_)
 refine sgL false [] [] false gE ?_
 refine sz 2 3 (Q1 rfl (Qk ?_))
 refine Q5 ?_
 refine Zb (sz 2 2 ?_)
 refine Qrz Q1f (g_hidden_newWatcher_ok p0 p1) h (fun x1 _ h=>?_)
 refine sz 3 6 ?_
 refine sgL false [] [] false gE ?_
 refine sz 2 9 (Q1 rfl ?_)
 refine ⟨_,Zq,?_⟩
 refine Qk (Qk ?_)
 refine wgc [6,7] [1] ⟨[(6,.ptr 0 0 0),(7,vI x1.2)],[(o35_24 x1)],64⟩ ?_
 refine rn ?_
 refine wb [20] h (fun q4 h=>?_) (fun q4 h=>?_)
 ·refine wcT (sq (wg [4,5] [] ?_))
  refine Qdz (Zv 4 1 true false gE) ?_
  cases h
  exact Ks (show Qff _ _ _ _=_ from by kernel_rfl)
 refine wcF (wp_skip (Qk ?_))
 refine Q5 ?_
 refine Zb (sz 1 1 ?_)
 refine Qrz Q1j (Y2 x1.1) h (fun x5 _ h=>?_)
 refine sz 5 7 (Q1 rfl ?_)
 refine ⟨_,Zq,?_⟩
 refine Qk (Qk ?_)
 refine wgc [6,7,8] [0,1] ⟨[(6,.ptr 0 0 0),(7,vI x5.2),(8,.ref 1 0 x5.1.length)],[(o35_24 x1),(o35_25 x5)],64⟩ ?_
 refine rn ?_
 refine wb [28] h (fun q8 h=>?_) (fun q8 h=>?_)
 ·refine wcT (sq (wg [4,5] [] ?_))
  refine Qdz (Zv 4 1 true false gE) ?_
  cases h
  exact Ks (show Qff _ _ _ _=_ from by kernel_rfl)
 refine wcF (wp_skip (sq (Qk (Qk ?_))))
 refine Q5 ?_
 refine Zb (sz 1 1 ?_)
 refine Qp4 (f:=62) (fn:=Try.f62) (as0:=[.agg [vI x1.1.Hidden.Grain,z1 x1.1.Hidden.First,z2 x1.1.Hidden.Step,z2 x1.1.Hidden.Show,z1 x1.1.seen]]) kr Try.func62 rfl (by decide +kernel) rfl ?_
 refine Ka (base':=2) (st':=⟨[(Qeq x1)],[(o35_24 x1),(o35_25 x5)],72⟩) kr kr ?_
 refine Qk (Zb ?_)
 refine sgL false [] [] false gE ?_
 refine sz 1 2 (Q1 rfl (Qk ?_))
 refine Q5 ?_
 refine Zb (sz 1 1 ?_)
 refine Qp4 (f:=91) (fn:=Try.f91) (as0:=[.agg [vI x1.1.Hidden.Grain,z1 x1.1.Hidden.First,z2 x1.1.Hidden.Step,z2 x1.1.Hidden.Show,z1 x1.1.seen]]) kr Try.func91 rfl (by decide +kernel) rfl ?_
 refine Ka (base':=3) (st':=⟨[(Qeq x1)],(l35_39 x1 x5),24⟩) kr kr ?_
 refine Qk (Zb ?_)
 refine sgL false [] [] false gE ?_
 refine sz 1 2 (Q1 rfl (Qk ?_))
 refine Q5 ?_
 refine Zb (sz 2 2 ?_)
 refine Qj (enc:=eI) (l:=x1.1.seen) (fl:=true) kr gE ?_
 refine mkL (enc:=fun _=>AV.nils) (z:=([]:(List Int))) (z0:=AV.nils) (n:=(zn x1.1.seen)) (m:=(zn x1.1.seen)) (w:=1) (bytes:=24) [] false kr rfl gE kr h (fun h=>?_)
 refine sgz 1 5 (S:=⟨(Qzr x1),(l35_39 x1 x5)++[(o35_24 x1),.row false false true false 1 (List.map (fun _=>AV.nils) (List.replicate (zt (zn x1.1.seen)) ([]:(List Int))))],24⟩) ?_
 refine Q1 rfl ?_
 refine ⟨(Qxu x1 x5),(Qr3 4 1 true eI (n:=(zt (zn x1.1.seen))) (nr0:=true) (fl0:=false) (x0:=([]:List Int)) (enc1:=fun _=>AV.nils) (st':=(Qxu x1 x5)) rfl rfl rfl (by kernel_rfl)),?_⟩
 refine Qk (Qk (wg [1,3] [3,4,5] (rn (Zn ?_))))
 refine wwh h (fun s9=>⟨[(1,.ptr 3 0 0),(3,.ref 4 0 s9.2.length),(Qx5 x1),(11,vI s9.1)],(l35_39 x1 x5)++[(o35_24 x1),.refs 5 (eF eI s9.2),.fam 1 true (eF eI s9.2)],24⟩) (fun v out=>out=.go (.exit 0) ⟨[(3,.ref 3 0 v.length)],(l35_39 x1 x5)++[.refs 4 (eF eI v),.fam 1 true (eF eI v)],24⟩) (Q4 (live:=[1,3,10,11]) (keep:=[3,4,5]) kr) ?_ ?_
 ·intro s9 o h
  unfold Qal at h
  refine sq (Qk ?_)
  refine wb [12] h (fun q11 h=>?_) (fun q11 h=>?_)
  ·refine wcT (wp_skip (Qk (Zn (sq ?_))))
   refine Q5 ?_
   refine Zb (sz 5 5 ?_)
   refine Qj (enc:=eI) (l:=x1.1.Hidden.First) (fl:=true) kr gE ?_
   refine mkL (enc:=eI) (z:=(0:Int)) (z0:=vI 0) (n:=(zn x1.1.Hidden.First)) (m:=(zn x1.1.Hidden.First)) (w:=1) (bytes:=8) [] true kr rfl gE kr h (fun h=>?_)
   refine Q8 h (fun a12 q13 h=>?_)
   refine Qb6 (enc:=eI) (ls:=s9.2) (x:=a12) (n:=s9.1) (ob:=4) (j:=5) kr kr q13 gE ?_
   refine Qoa (enc:=eI) (ls:=s9.2) (x:=a12) (n:=s9.1) (ob:=4) (j:=5) (m:=6) (q:=(List.replicate (zt (zn x1.1.Hidden.First)) (0:Int)).length) (S:=⟨(s35_41 (3,.ref 4 0 s9.2.length) (14,.ref 4 0 s9.2.length) x1 s9)++[(20,.ref 6 0 ((List.replicate (zt (zn x1.1.Hidden.First)) (0:Int)).length)),(21,.ptr 4 (zt s9.1) 0)],(l35_39 x1 x5)++[(o35_24 x1),.row false false false false 1 ((Zk 5 0 (eF eI s9.2)).set (zt s9.1) (.ref 6 0 ((List.replicate (zt (zn x1.1.Hidden.First)) (0:Int)).length))),.fam 1 true (eF eI s9.2),oR true 1 eI (List.replicate (zt (zn x1.1.Hidden.First)) (0:Int))],24⟩) kr kr q13 kr kr kr ?_
   refine Q1 rfl ?_
   refine ⟨⟨(s35_41 (3,.ref 4 0 ((List.set s9.2 (zt s9.1) (List.replicate (zt (zn x1.1.Hidden.First)) (0:Int))).length)) (14,.ref 4 0 ((List.set s9.2 (zt s9.1) (List.replicate (zt (zn x1.1.Hidden.First)) (0:Int))).length)) x1 s9)++[(21,.ptr 4 (zt s9.1) 0)],(l35_39 x1 x5)++[(o35_24 x1),(o35_26 s9 x1),(o35_27 s9 x1),.dead],24⟩,(Q3 (Qm8 4 5 6 (w:=1) (fl:=true) (enc:=eI) (ls:=s9.2) (x:=a12) (b:=(List.replicate (zt (zn x1.1.Hidden.First)) (0:Int))) (n:=s9.1) [1,3,10,11,12,13,4,14,15,16,17,18,19,21] (st':=⟨(s35_41 (3,.ref 4 0 s9.2.length) (14,.ref 4 0 s9.2.length) x1 s9)++[(21,.ptr 4 (zt s9.1) 0)],(l35_39 x1 x5)++[(o35_24 x1),(o35_26 s9 x1),(o35_27 s9 x1),.dead],24⟩) rfl rfl rfl q13 (by kernel_rfl) (by kernel_rfl)) (Q16 (congrArg (fun n14=>(⟨(s35_41 (3,.ref 4 0 n14) (14,.ref 4 0 n14) x1 s9)++[(21,.ptr 4 (zt s9.1) 0)],(l35_39 x1 x5)++[(o35_24 x1),(o35_26 s9 x1),(o35_27 s9 x1),.dead],24⟩:St)) (show s9.2.length=(List.set s9.2 (zt s9.1) (List.replicate (zt (zn x1.1.Hidden.First)) (0:Int))).length by simp only [List.length_set])))),?_⟩
   refine wg [1,3,10,11] [3,4,5] (rn ?_)
   cases h
   exact ⟨_,rfl,(Q4 (live:=[1,3,10,11]) (keep:=[3,4,5]) kr)⟩
  refine wcF (wg [3] [4,5] ?_)
  refine Vx ?_
  cases h
  exact ⟨kr,rfl⟩
 intro x16 h out hx
 subst hx
 refine sq (wg [2] [3,4] ?_)
 refine Ks ?_
 refine ⟨⟨[(Qeq x1),e35_33,(2,.nils),(8,.agg [vI x1.1.Hidden.Grain,z1 x1.1.Hidden.First,z2 x1.1.Hidden.Step,z2 x1.1.Hidden.Show,z1 x1.1.seen]),(9,.ref 3 0 x16.length)],(l35_39 x1 x5)++[.refs 4 (eF eI x16),.fam 1 true (eF eI x16)],72⟩,by kernel_rfl,?_⟩
 refine sgL false [] [] false gE ?_
 refine sz 1 4 (Q1 rfl ?_)
 refine ⟨_,Zq,?_⟩
 refine Qk (Qk ?_)
 refine Q5 ?_
 refine Zb (sz 1 1 ?_)
 refine Qp4 (f:=92) (fn:=Try.f92) (as0:=[.agg [vI x1.1.Hidden.Grain,z1 x1.1.Hidden.First,z2 x1.1.Hidden.Step,z2 x1.1.Hidden.Show,z1 x1.1.seen],vI 1]) kr Try.func92 rfl (by decide +kernel) rfl ?_
 refine Ka (base':=6) (st':=⟨[(Qeq x1),(1,vI 1)],(l35_39 x1 x5)++[.refs 4 (eF eI x16),.fam 1 true (eF eI x16),oX false false 1 (.ref 3 0 x16.length)],12⟩) kr kr ?_
 refine Qk (Zb ?_)
 refine sgL false [] [] false gE ?_
 refine sz 1 2 (Q1 rfl (Qk ?_))
 refine Q5 ?_
 refine Zb (sz 1 1 ?_)
 refine sgL false [] [] false gE ?_
 refine sz 1 3 (Q1 rfl ?_)
 refine ⟨_,Zq,?_⟩
 refine Qk ?_
 refine Q5 ?_
 refine rga Qsk (sy 4 4 ?_)
 refine Qz7 (f:=111) (fn:=Try.f111) (as0:=[.agg [vI x1.1.Hidden.Grain,z1 x1.1.Hidden.First,z2 x1.1.Hidden.Step,z2 x1.1.Hidden.Show,z1 x1.1.seen]]) kr kr Try.func111 rfl (by decide +kernel) rfl ?_
 refine Ka (base':=8) (st':=⟨[(Qeq x1)],[.dead,.dead,.dead,.dead,.dead,.dead,.dead,.dead],4⟩) kr kr ?_
 refine Qk (Zb ?_)
 refine sgL false [] [] false gE ?_
 refine sz 1 2 (Q1 rfl (sq (wg [2] [8] ?_)))
 refine Ks ?_
 refine ⟨⟨[(Qeq x1),(1,vI 1),(2,.ptr 6 0 0),(4,.nilf),(6,.agg [.fn (.func 110) [] [],.fn (.func 111) [] []]),(5,.ptr 7 0 0),(7,vI 1),(8,.ptr 7 0 1),(9,.fn (.func 111) [] []),(10,.agg [vI x1.1.Hidden.Grain,z1 x1.1.Hidden.First,z2 x1.1.Hidden.Step,z2 x1.1.Hidden.Show,z1 x1.1.seen]),(11,.fn (.func 125) [] [.ptr 8 0 0])],(l35_39 x1 x5)++[.refs 4 (eF eI x16),.fam 1 true (eF eI x16),oX false false 1 (.ref 3 0 x16.length),(o35_24 x1),oX true false 2 (.agg [.fn (.func 110) [] [],.fn (.func 111) [] []]),(o35_24 x1)],12⟩,by kernel_rfl,?_⟩
 refine sy 1 6 (rgd ?_)
 refine ⟨_,Zq,?_⟩
 refine wg [4] [8] ?_
 refine Ks ?_
 refine ⟨⟨[(Qeq x1),e35_33,(2,.nils),(8,.agg [vI x1.1.Hidden.Grain,z1 x1.1.Hidden.First,z2 x1.1.Hidden.Step,z2 x1.1.Hidden.Show,z1 x1.1.seen]),(9,.ref 3 0 x16.length),(3,.ptr 5 0 0),(10,.agg [vI x1.1.Hidden.Grain,z1 x1.1.Hidden.First,z2 x1.1.Hidden.Step,z2 x1.1.Hidden.Show,z1 x1.1.seen]),(11,.fn (.func 125) [] [.ptr 6 0 0])],(l35_39 x1 x5)++[.refs 4 (eF eI x16),.fam 1 true (eF eI x16),oX false false 1 (.ref 3 0 x16.length),(o35_24 x1)],72⟩,by kernel_rfl,?_⟩
 refine Q1 rfl ?_
 refine ⟨_,Zq,?_⟩
 refine Zn ?_
 refine wgc [1,3,11] [2,5,6,3,4] ⟨[e35_33,e35_34,Qob],(l35_39 x1 x5)++[oX false false 1 (.ref 5 0 x16.length),(o35_24 x1),.refs 6 (eF eI x16),.fam 1 true (eF eI x16)],72⟩ ?_
 refine Qmv (f:=125) (fn:=Try.f125) (first:=[]) (caps:=[.ptr 4 0 0]) rfl Try.func125 rfl (by decide +kernel) rfl rfl ?_
 refine Ka (base':=8) (st':=⟨[(0,.yld 7),(1,.ptr 4 0 0)],(l35_39 x1 x5)++[oX false false 1 (.ref 5 0 x16.length),(o35_24 x1),.refs 6 (eF eI x16),.fam 1 true (eF eI x16),Qkj],16⟩) kr kr ?_
 refine Qk ?_
 refine Q5 ?_
 refine Zb (sz 2 2 ?_)
 refine Qj (enc:=eI) (l:=x1.1.seen) (fl:=true) kr gE ?_
 refine sz 2 5 (Q1 rfl ?_)
 refine ⟨_,Zq,?_⟩
 refine Zn ?_
 refine wwh h (fun s17=>⟨[(0,.yld 7),(3,vI s17.1)],(l35_39 x1 x5)++[oX false false 1 (.ref 5 0 s17.2.length),(o35_24 x1),.refs 6 (eF eI s17.2),.fam 1 true (eF eI s17.2),Qkj],16⟩) (fun v out=>out=.go (.exit 0) ⟨[],(l35_39 x1 x5)++[oX false false 1 (.ref 5 0 v.length),(o35_24 x1),.refs 6 (eF eI v),.fam 1 true (eF eI v),Qkj],16⟩) (Q4 (live:=[0,3]) (keep:=[]) kr) ?_ ?_
 ·intro s17 o h
  unfold Jt at h
  refine Qk (sq ?_)
  refine wb [9] h (fun q19 h=>?_) (fun q19 h=>?_)
  ·refine wcT (wp_skip (Qk (Zn (Qk ?_))))
   refine Q5 ?_
   refine Zb (sz 2 2 ?_)
   refine Q01 (l:=7) (nt:=72) (us:=[vI s17.1]) (sl:=[(1,.ptr 2 0 0),(3,.ptr 3 0 0),(11,.fn (.func 125) [] [.ptr 4 0 0])]) (ps:=[12]) (assign:=cA Try.f62 [true,true,false,true,true]) (body:=cB Try.f62 [true,true,false,true,true]) (pe:=none) kr kr rfl ?_
   refine Ka (base':=8) (st':=⟨[e35_33,e35_34,Qob,(12,vI s17.1)],(l35_39 x1 x5)++[oX false false 1 (.ref 5 0 s17.2.length),(o35_24 x1),.refs 6 (eF eI s17.2),.fam 1 true (eF eI s17.2),Qkj],72⟩) kr kr ?_
   refine rn ?_
   refine ⟨⟨[e35_33,e35_34,Qob,(12,vI s17.1),(4,vI s17.1)],(l35_39 x1 x5)++[oX false false 1 (.ref 5 0 s17.2.length),(o35_24 x1),.refs 6 (eF eI s17.2),.fam 1 true (eF eI s17.2),o35_29],72⟩,by kernel_rfl,?_⟩
   refine Zn (Qk ?_)
   refine Q5 ?_
   refine Zb (sz 3 3 ?_)
   refine Qj (enc:=eI) (l:=x1.1.Hidden.First) (fl:=true) kr gE ?_
   refine sz 1 5 (Q1 rfl ?_)
   refine ⟨_,Zq,?_⟩
   refine Zn ?_
   refine wwh h (fun s20=>⟨[e35_33,e35_34,(4,vI s17.1),(e35_36 x1),(17,vI s20.1)],(l35_39 x1 x5)++[oX false false 1 (.ref 5 0 s20.2.length),(o35_24 x1),.refs 6 (eF eI s20.2),.fam 1 true (eF eI s20.2),o35_29],72⟩) (fun v out=>out=.go (.exit 2) ⟨[],(l35_39 x1 x5)++[oX false false 1 (.ref 5 0 v.length),(o35_24 x1),.refs 6 (eF eI v),.fam 1 true (eF eI v),o35_29],72⟩) (Q4 (live:=[1,3,4,16,17]) (keep:=[]) kr) ?_ ?_
   ·intro s20 o h
    unfold Jq at h
    refine sq (Qk ?_)
    refine wb [18] h (fun q22 h=>?_) (fun q22 h=>?_)
    ·refine wcT (wp_skip (Qk (Zn (sq (Qk (Qk ?_))))))
     refine Q5 ?_
     refine Zb (sz 3 3 ?_)
     refine Qj (enc:=eI) (l:=x1.1.seen) (fl:=true) kr gE ?_
     refine sz 2 6 (Q1 rfl ?_)
     refine ⟨_,Zq,?_⟩
     refine wbz h (fun q24 h=>?_) (fun q24 h=>?_)
     ·refine Qk ?_
      refine wgc [1,3,4,16,17,5] [] ⟨[e35_33,e35_34,(4,vI s17.1),(e35_36 x1),(17,vI s20.1),(5,vI s20.1)],(l35_39 x1 x5)++[oX false false 1 (.ref 5 0 s20.2.length),(o35_24 x1),.refs 6 (eF eI s20.2),.fam 1 true (eF eI s20.2),o35_29],72⟩ ?_
      refine Q5 ?_
      refine Zb (sz 2 2 ?_)
      refine Q8 h (fun a25 q26 h=>?_)
      refine Qb6 (enc:=eI) (ls:=s20.2) (x:=a25) (n:=s17.1) (ob:=5) (j:=6) kr kr q26 gE ?_
      refine Qdh (enc:=eI) (ls:=s20.2) (x:=a25) (n:=s17.1) (ob:=5) (j:=6) kr kr q26 gE ?_
      refine sz 1 5 ?_
      refine Q8 h (fun a27 q28 h=>?_)
      refine Qhh (enc:=eI) (ls:=s20.2) (x:=a25) (y:=a27) (n:=s17.1) (c:=s20.1) (w:=1) (j:=6) (fl:=true) kr kr q26 q28 rfl gE ?_
      refine Qea (enc:=eI) (ls:=s20.2) (x:=a25) (y:=a27) (y':=1) (n:=s17.1) (m:=s20.1) (w:=1) (j:=6) (q:=5) (c:=0) (fl:=true) (v:=vI 1) kr kr kr q26 q28 rfl kr kr kr gE ?_
      refine Qp0 (n:=s20.2.length) (m:=(List.set s20.2 (zt s17.1) (List.set a25 (zt s20.1) 1)).length) (S:=fun n29=>⟨[e35_33,e35_34,(4,vI s17.1),(e35_36 x1),(17,vI s20.1),(5,vI s20.1),(26,.ref 5 0 n29),(27,vI s17.1),(28,.ptr 5 (zt s17.1) 0),(29,.ref (fid 6 (zt s17.1)) 0 a25.length),(30,vI s20.1),(31,.ptr (fid 6 (zt s17.1)) (zt s20.1) 0)],(l35_39 x1 x5)++[oX false false 1 (.ref 5 0 n29),(o35_24 x1),.refs 6 (eF eI (List.set s20.2 (zt s17.1) (List.set a25 (zt s20.1) 1))),.fam 1 true (eF eI (List.set s20.2 (zt s17.1) (List.set a25 (zt s20.1) 1))),o35_29],72⟩) (by simp only [List.length_set]) ?_
      refine Q1 rfl ?_
      refine ⟨_,Zq,?_⟩
      refine wg [1,3,4,16,17] [] ?_
      refine Vx ?_
      refine rn ?_
      cases h
      exact ⟨_,rfl,(Q4 (live:=[1,3,4,16,17]) (keep:=[]) kr)⟩
     refine wp_skip (Qk ?_)
     refine wgc [1,3,4,16,17,5] [] ⟨[e35_33,e35_34,(4,vI s17.1),(e35_36 x1),(17,vI s20.1),(5,vI s20.1)],(l35_39 x1 x5)++[oX false false 1 (.ref 5 0 s20.2.length),(o35_24 x1),.refs 6 (eF eI s20.2),.fam 1 true (eF eI s20.2),o35_29],72⟩ ?_
     refine Q5 ?_
     refine Zb (sz 3 3 ?_)
     refine Q8 h (fun a30 q31 h=>?_)
     refine Qb6 (enc:=eI) (ls:=s20.2) (x:=a30) (n:=zw (s17.1+1)) (ob:=5) (j:=6) kr kr q31 gE ?_
     refine Qdh (enc:=eI) (ls:=s20.2) (x:=a30) (n:=zw (s17.1+1)) (ob:=5) (j:=6) kr kr q31 gE ?_
     refine sgz 2 7 (S:=⟨[e35_33,e35_34,(4,vI s17.1),(e35_36 x1),(17,vI s20.1),(5,vI s20.1),(32,.ref 5 0 s20.2.length),(33,vI s17.1),(34,vI (zw (s17.1+1))),(35,.ptr 5 (zt (zw (s17.1+1))) 0),(36,.ref (fid 6 (zt (zw (s17.1+1)))) 0 a30.length),(37,vI (zn a30)),(38,vI 0)],(l35_39 x1 x5)++[oX false false 1 (.ref 5 0 s20.2.length),(o35_24 x1),.refs 6 (eF eI s20.2),.fam 1 true (eF eI s20.2),o35_29],72⟩) ?_
     refine Q1 rfl ?_
     refine ⟨(Qy2 s17 x1 s20 a30 x5),(Qcm 36 (o:=6) (i:=zt (zw (s17.1+1))) (n:=a30.length) (st':=(Qy2 s17 x1 s20 a30 x5)) rfl (by kernel_rfl)),?_⟩
     refine Zn ?_
     refine wwh h (fun s32=>⟨(s35_44 s17 s20 x1 a30)++[(38,vI s32.1)],(l35_39 x1 x5)++[oX false false 1 (.ref 5 0 s32.2.length),(o35_24 x1),.refs 6 (eF eI s32.2),.fam 1 true (eF eI s32.2),o35_29],72⟩) (fun v out=>out=.go (.exit 4) ⟨[e35_33,e35_34,(4,vI s17.1),(e35_36 x1),(17,vI s20.1)],(l35_39 x1 x5)++[oX false false 1 (.ref 5 0 v.length),(o35_24 x1),.refs 6 (eF eI v),.fam 1 true (eF eI v),o35_29],72⟩) (Q4 (live:=[1,3,4,5,16,17,36,37,38]) (keep:=[]) kr) ?_ ?_
     ·intro s32 o h
      unfold Qak at h
      refine sq (Qk ?_)
      refine wbr (S:=fun b33=>⟨(s35_44 s17 s20 x1 a30)++[(38,vI s32.1),(39,vB b33)],(l35_39 x1 x5)++[oX false false 1 (.ref 5 0 s32.2.length),(o35_24 x1),.refs 6 (eF eI s32.2),.fam 1 true (eF eI s32.2),o35_29],72⟩) h (fun q34 h=>?_) (fun q34 h=>?_)
      ·refine wcT (wp_skip (Qk (Zn (Qk ?_))))
       refine Qdz (Qdv 36 (o:=6) (i:=zt (zw (s17.1+1))) (n:=a30.length) (st':=⟨[e35_33,e35_34,(4,vI s17.1),(5,vI s20.1),(e35_36 x1),(17,vI s20.1),(36,.ref (fid 6 (zt (zw (s17.1+1)))) 0 a30.length),(37,vI (zn a30)),(38,vI s32.1),(39,vB true)],(l35_39 x1 x5)++[oX false false 1 (.ref 5 0 s32.2.length),(o35_24 x1),.refs 6 (eF eI s32.2),.fam 1 true (eF eI s32.2),o35_29],72⟩) rfl kr) ?_
       refine Q5 ?_
       refine Zb (sz 1 1 ?_)
       refine Q8 h (fun a35 q36 h=>?_)
       refine Q8 h (fun a37 q38 h=>?_)
       refine Qrr (enc:=eI) (ls:=s32.2) (x:=a35) (y:=a37) (n:=zw (s17.1+1)) (c:=s32.1) (w:=1) (j:=6) (m:=a30.length) (fl:=true) kr kr q36 q38 rfl gE h (fun h=>?_)
       refine Ql3 (enc:=eI) (ls:=s32.2) (x:=a35) (y:=a37) (n:=zw (s17.1+1)) (m:=s32.1) (w:=1) (j:=6) (c:=0) (fl:=true) kr kr q36 q38 rfl gE ?_
       refine sgz 2 5 (S:=⟨[e35_33,e35_34,(4,vI s17.1),(5,vI s20.1),(e35_36 x1),(17,vI s20.1),(36,.ref (fid 6 (zt (zw (s17.1+1)))) 0 a30.length),(37,vI (zn a30)),(38,vI s32.1),(39,vB true),(40,vI s32.1),(41,.ptr (fid 6 (zt (zw (s17.1+1)))) (zt s32.1) 0),(42,vI a37),(6,vI s32.1),(7,vI a37)],(l35_39 x1 x5)++[oX false false 1 (.ref 5 0 s32.2.length),(o35_24 x1),.refs 6 (eF eI s32.2),.fam 1 true (eF eI s32.2),o35_29],72⟩) ?_
       refine Q1 rfl ?_
       refine ⟨⟨(s35_44 s17 s20 x1 a30)++[(38,vI s32.1),(39,vB true),(40,vI s32.1),(41,.ptr (fid 6 (zt (zw (s17.1+1)))) (zt s32.1) 0),(42,vI a37),(6,vI s32.1),(7,vI a37)],(l35_39 x1 x5)++[oX false false 1 (.ref 5 0 s32.2.length),(o35_24 x1),.refs 6 (eF eI s32.2),.fam 1 true (eF eI s32.2),o35_29],72⟩,(Qcm 36 (o:=6) (i:=zt (zw (s17.1+1))) (n:=a30.length) (st':=⟨(s35_44 s17 s20 x1 a30)++[(38,vI s32.1),(39,vB true),(40,vI s32.1),(41,.ptr (fid 6 (zt (zw (s17.1+1)))) (zt s32.1) 0),(42,vI a37),(6,vI s32.1),(7,vI a37)],(l35_39 x1 x5)++[oX false false 1 (.ref 5 0 s32.2.length),(o35_24 x1),.refs 6 (eF eI s32.2),.fam 1 true (eF eI s32.2),o35_29],72⟩) rfl (by kernel_rfl)),?_⟩
       refine Q5 ?_
       refine rga Qsk (sy 2 2 ?_)
       refine Q8 h (fun a39 q40 h=>?_)
       refine Qb6 (enc:=eI) (ls:=s32.2) (x:=a39) (n:=s17.1) (ob:=5) (j:=6) kr kr q40 gE ?_
       refine Qdh (enc:=eI) (ls:=s32.2) (x:=a39) (n:=s17.1) (ob:=5) (j:=6) kr kr q40 gE ?_
       refine sy 1 5 ?_
       refine Q8 h (fun a41 q42 h=>?_)
       refine Qhh (enc:=eI) (ls:=s32.2) (x:=a39) (y:=a41) (n:=s17.1) (c:=s20.1) (w:=1) (j:=6) (fl:=true) kr kr q40 q42 rfl gE ?_
       refine Ql3 (enc:=eI) (ls:=s32.2) (x:=a39) (y:=a41) (n:=s17.1) (m:=s20.1) (w:=1) (j:=6) (c:=0) (fl:=true) kr kr q40 q42 rfl gE ?_
       refine sy 4 11 ?_
       refine Q8 h (fun a43 q44 h=>?_)
       refine Ql (enc:=z1) (l:=x1.1.Hidden.Step) (n:=s20.1) (fl:=false) (w:=1) (a:=a43) kr rfl gE q44 ?_
       refine sy 2 14 ?_
       refine Q8 h (fun a45 q46 h=>?_)
       refine Ql (enc:=eI) (l:=a43) (n:=s32.1) (fl:=true) (w:=1) (a:=a45) kr rfl gE q46 ?_
       refine sy 5 20 ?_
       refine Qrz Qti (g_hidden_watcher_shown_ok x1.1 (zw (s17.1+1)) s32.1) h (fun x47 _ h=>?_)
       refine sy 4 25 ?_
       refine Qhh (enc:=eI) (ls:=s32.2) (x:=a39) (y:=a41) (n:=s17.1) (c:=s20.1) (w:=1) (j:=6) (fl:=true) kr kr q40 q42 rfl gE ?_
       refine Qea (enc:=eI) (ls:=s32.2) (x:=a39) (y:=a41) (y':=zw (a41+(zw ((zw (a45*x47))*a37)))) (n:=s17.1) (m:=s20.1) (w:=1) (j:=6) (q:=5) (c:=0) (fl:=true) (v:=vI (zw (a41+(zw ((zw (a45*x47))*a37))))) kr kr kr q40 q42 rfl kr kr kr gE ?_
       refine Qp0 (n:=s32.2.length) (m:=(List.set s32.2 (zt s17.1) (List.set a39 (zt s20.1) (zw (a41+(zw ((zw (a45*x47))*a37)))))).length) (S:=fun n49=>⟨(s35_44 s17 s20 x1 a30)++[(38,vI s32.1),(39,vB true),(40,vI s32.1),(41,.ptr (fid 6 (zt (zw (s17.1+1)))) (zt s32.1) 0),(42,vI a37),(6,vI s32.1),(7,vI a37),(43,.ref 5 0 n49),(44,vI s17.1),(45,.ptr 5 (zt s17.1) 0),(46,.ref (fid 6 (zt s17.1)) 0 a39.length),(47,vI s20.1),(48,.ptr (fid 6 (zt s17.1)) (zt s20.1) 0),(49,vI a41),(50,.ptr 2 0 0),(51,.ptr 2 0 2),(52,z2 x1.1.Hidden.Step),(53,vI s20.1),(54,.fz [z1 a43]),(55,z1 a43),(56,vI s32.1),(57,.fz [vI a45]),(58,vI a45),(59,.agg [vI x1.1.Hidden.Grain,z1 x1.1.Hidden.First,z2 x1.1.Hidden.Step,z2 x1.1.Hidden.Show,z1 x1.1.seen]),(60,vI s17.1),(61,vI (zw (s17.1+1))),(62,vI s32.1),(63,vI x47),(64,vI (zw (a45*x47))),(65,vI a37),(66,vI (zw ((zw (a45*x47))*a37))),(67,vI (zw (a41+(zw ((zw (a45*x47))*a37))))),(68,.ptr (fid 6 (zt s17.1)) (zt s20.1) 0)],(l35_39 x1 x5)++[oX false false 1 (.ref 5 0 n49),(o35_24 x1),.refs 6 (eF eI (List.set s32.2 (zt s17.1) (List.set a39 (zt s20.1) (zw (a41+(zw ((zw (a45*x47))*a37))))))),.fam 1 true (eF eI (List.set s32.2 (zt s17.1) (List.set a39 (zt s20.1) (zw (a41+(zw ((zw (a45*x47))*a37))))))),o35_29],72⟩) (by simp only [List.length_set]) ?_
       refine rgd ?_
       refine ⟨_,Zq,?_⟩
       refine wg [1,3,4,5,16,17,36,37,38] [] (rn ?_)
       cases h
       exact ⟨_,rfl,(Q4 (live:=[1,3,4,5,16,17,36,37,38]) (keep:=[]) kr)⟩
      refine wcF (wg [1,3,4,16,17] [] ?_)
      refine Vx ?_
      cases h
      exact ⟨kr,rfl⟩
     intro x51 h out hx
     subst hx
     refine rn ?_
     cases h
     exact ⟨_,rfl,(Q4 (live:=[1,3,4,16,17]) (keep:=[]) kr)⟩
    refine wcF (wg [] [] ?_)
    refine Vx ?_
    cases h
    exact ⟨kr,rfl⟩
   intro x53 h out hx
   subst hx
   refine ⟨⟨[(0,.yld 7),(3,vI s17.1),(8,vI s17.1),(9,vB true),(12,.yld 7),(13,vI s17.1),(14,vB true)],(l35_39 x1 x5)++[oX false false 1 (.ref 5 0 x53.length),(o35_24 x1),.refs 6 (eF eI x53),.fam 1 true (eF eI x53),Qkj],16⟩,by kernel_rfl,?_⟩
   refine sz 1 4 (Q1 rfl ?_)
   refine ⟨_,Zq,?_⟩
   refine wcF (wp_skip (wg [0,3] [] (rn ?_)))
   cases h
   exact ⟨_,rfl,(Q4 (live:=[0,3]) (keep:=[]) kr)⟩
  refine wcF (wg [] [] ?_)
  refine Vx ?_
  cases h
  exact ⟨kr,rfl⟩
 intro x55 h out hx
 subst hx
 refine ⟨.go .normal ⟨[e35_33,e35_34,Qob],(l35_39 x1 x5)++[oX false false 1 (.ref 5 0 x55.length),(o35_24 x1),.refs 6 (eF eI x55),.fam 1 true (eF eI x55),.dead],72⟩,by kernel_rfl,?_⟩
 refine Qk ?_
 refine Q5 ?_
 refine rn ?_
 refine ⟨_,Zq,?_⟩
 refine wg [2] [5,6] ?_
 refine Ks ?_
 refine ⟨⟨[(6,.ptr 0 0 0),(7,vI x5.2),(8,.ref 1 0 x5.1.length),(27,vI x5.2),(28,vB false),(9,.nils),(30,.agg [vI x1.1.Hidden.Grain,z1 x1.1.Hidden.First,z2 x1.1.Hidden.Step,z2 x1.1.Hidden.Show,z1 x1.1.seen]),(31,.ref 2 0 x55.length)],[(o35_24 x1),(o35_25 x5),.refs 3 (eF eI x55),.fam 1 true (eF eI x55)],64⟩,by kernel_rfl,?_⟩
 refine sz 2 4 (Q1 rfl ?_)
 refine ⟨_,Zq,?_⟩
 refine Zn ?_
 refine wwh h (fun s56=>⟨[(e35_37 x5),(e35_38 s56),(31,.ref 2 0 s56.2.2.length),(32,vI (zn x55)),(33,vI s56.1)],(Qeb x5 s56),64⟩) (fun v out=>out=.go (.exit 0) ⟨[(9,.ref 0 0 v.length)],[oR false 1 (eL true eTapi_Q) v],64⟩) (Q3 (Q4 (live:=[8,9,31,32,33]) (keep:=[1,2,3]) (st':=⟨[(e35_37 x5),(9,.nils),(31,.ref 1 0 x55.length),(32,vI (zn x55)),(33,vI 0)],[(o35_25 x5),.refs 2 (eF eI x55),.fam 1 true (eF eI x55)],64⟩) kr) (Q3 (Zv 9 1 true false (st':=⟨[(e35_37 x5),(9,.ref 3 0 0),(31,.ref 1 0 x55.length),(32,vI (zn x55)),(33,vI 0)],[(o35_25 x5),.refs 2 (eF eI x55),.fam 1 true (eF eI x55),.row false false true false 1 []],64⟩) kr) (Q4 (live:=[8,9,31,32,33]) (keep:=[0,3,1,2]) kr))) ?_ ?_
 ·intro s56 o h
  unfold Jn at h
  refine sq (Qk ?_)
  refine wb [34] h (fun q58 h=>?_) (fun q58 h=>?_)
  ·refine wcT (wp_skip (Qk (Zn (Qk ?_))))
   refine Q5 ?_
   refine Zb (sz 1 1 ?_)
   refine Q8 h (fun a59 q60 h=>?_)
   refine Qb6 (enc:=eI) (ls:=s56.2.2) (x:=a59) (n:=s56.1) (ob:=2) (j:=3) kr kr q60 gE ?_
   refine Qdh (enc:=eI) (ls:=s56.2.2) (x:=a59) (n:=s56.1) (ob:=2) (j:=3) kr kr q60 gE ?_
   refine sgz 2 5 (S:=⟨(Qgj x5 s56 x55 a59)++[(11,.ref (fid 3 (zt s56.1)) 0 a59.length)],(Qeb x5 s56),64⟩) ?_
   refine Q1 rfl ?_
   refine ⟨⟨(Qgj x5 s56 x55 a59)++[(11,.lin 3 (zt s56.1) a59.length)],(Qeb x5 s56),64⟩,(Qcm 11 (o:=3) (i:=zt s56.1) (n:=a59.length) (st':=⟨(Qgj x5 s56 x55 a59)++[(11,.lin 3 (zt s56.1) a59.length)],(Qeb x5 s56),64⟩) rfl (by kernel_rfl)),?_⟩
   refine Qk (Qk ?_)
   refine Qdz (Qdv 11 (o:=3) (i:=zt s56.1) (n:=a59.length) (st':=⟨(Qgj x5 s56 x55 a59)++[(11,.ref (fid 3 (zt s56.1)) 0 a59.length)],(Qeb x5 s56),64⟩) rfl kr) ?_
   refine Q5 ?_
   refine rgN (S:=⟨(Qgj x5 s56 x55 a59)++[(11,.ref (fid 3 (zt s56.1)) 0 a59.length),(38,.ref (fid 3 (zt s56.1)) 0 a59.length),(39,vI (zn a59)),(40,vI 0)],(Qeb x5 s56),64⟩) ?_
   refine ⟨⟨(Qgj x5 s56 x55 a59)++[(11,.lin 3 (zt s56.1) a59.length),(38,.ref (fid 3 (zt s56.1)) 0 a59.length),(39,vI (zn a59)),(40,vI 0)],(Qeb x5 s56),64⟩,(Qcm 11 (o:=3) (i:=zt s56.1) (n:=a59.length) (st':=⟨(Qgj x5 s56 x55 a59)++[(11,.lin 3 (zt s56.1) a59.length),(38,.ref (fid 3 (zt s56.1)) 0 a59.length),(39,vI (zn a59)),(40,vI 0)],(Qeb x5 s56),64⟩) rfl (by kernel_rfl)),?_⟩
   refine Zn ?_
   refine wwh h (fun s61=>⟨[(e35_37 x5),(e35_38 s56),(10,vI s56.1),(11,.lin 2 (zt s56.1) a59.length),(31,.ref 3 0 s61.2.length),(32,vI (zn x55)),(33,vI s56.1),(39,vI (zn a59)),(40,vI s61.1)],[(o35_25 x5),(o35_30 s56),.fam 1 true (eF eI s61.2),.refs 2 (eF eI s61.2)],64⟩) (fun v out=>out=.go (.exit 2) ⟨[(e35_37 x5),(e35_38 s56),(11,.lin 2 (zt s56.1) a59.length),(31,.ref 3 0 v.length),(32,vI (zn x55)),(33,vI s56.1)],[(o35_25 x5),(o35_30 s56),.fam 1 true (eF eI v),.refs 2 (eF eI v)],64⟩) (Q4 (live:=[8,9,10,11,31,32,33,39,40]) (keep:=[0,1,3,2]) kr) ?_ ?_
   ·intro s61 o h
    unfold Jr at h
    refine sq (Qk ?_)
    refine wb [41] h (fun q63 h=>?_) (fun q63 h=>?_)
    ·refine wcT (wp_skip (Qk (Zn ?_)))
     refine sqN (S:=⟨[(e35_37 x5),(e35_38 s56),(10,vI s56.1),(11,.lin 2 (zt s56.1) a59.length),(31,.ref 3 0 s61.2.length),(32,vI (zn x55)),(33,vI s56.1),(39,vI (zn a59)),(40,vI s61.1),(41,vB true),(42,vI s61.1),(12,vI s61.1)],[(o35_25 x5),(o35_30 s56),.fam 1 true (eF eI s61.2),.refs 2 (eF eI s61.2)],64⟩) ?_
     refine Qdz (Qdv 11 (o:=2) (i:=zt s56.1) (n:=a59.length) (st':=⟨[(e35_37 x5),(e35_38 s56),(10,vI s56.1),(11,.ref (fid 2 (zt s56.1)) 0 a59.length),(31,.ref 3 0 s61.2.length),(32,vI (zn x55)),(33,vI s56.1),(39,vI (zn a59)),(40,vI s61.1),(41,vB true),(42,vI s61.1),(12,vI s61.1)],[(o35_25 x5),(o35_30 s56),.fam 1 true (eF eI s61.2),.refs 2 (eF eI s61.2)],64⟩) rfl kr) ?_
     refine Q5 ?_
     refine rga Qsk (sy 2 2 ?_)
     refine Q8 h (fun a64 q65 h=>?_)
     refine Q8 h (fun a66 q67 h=>?_)
     refine Qrr (enc:=eI) (ls:=s61.2) (x:=a64) (y:=a66) (n:=s56.1) (c:=s61.1) (w:=1) (j:=2) (m:=a59.length) (fl:=true) kr kr q65 q67 rfl gE h (fun h=>?_)
     refine Ql3 (enc:=eI) (ls:=s61.2) (x:=a64) (y:=a66) (n:=s56.1) (m:=s61.1) (w:=1) (j:=2) (c:=0) (fl:=true) kr kr q65 q67 rfl gE ?_
     refine sy 2 6 ?_
     refine Q8 h (fun a68 q69 h=>?_)
     refine Zj (enc:=z1) (l:=x5.1) (n:=s56.1) (w:=1) (ob:=0) (ro:=false) (nr:=true) (fl:=false) (a:=a68) kr kr gE q69 ?_
     refine Yw (enc:=z1) (l:=x5.1) (n:=s56.1) (w:=1) (ob:=0) (c:=0) (bx:=false) (ro:=false) (nr:=true) (fl:=false) (a:=a68) kr kr q69 gE ?_
     refine sy 1 9 ?_
     refine Q8 h (fun a70 q71 h=>?_)
     refine Ql (enc:=eI) (l:=a68) (n:=s61.1) (fl:=true) (w:=1) (a:=a70) kr rfl gE q71 ?_
     refine sy 2 12 ?_
     refine Qrr (enc:=eI) (ls:=s61.2) (x:=a64) (y:=a66) (n:=s56.1) (c:=s61.1) (w:=1) (j:=2) (m:=a59.length) (fl:=true) kr kr q65 q67 rfl gE h (fun h=>?_)
     refine Qea (enc:=eI) (ls:=s61.2) (x:=a64) (y:=a66) (y':=zw (a66*a70)) (n:=s56.1) (m:=s61.1) (w:=1) (j:=2) (q:=3) (c:=0) (fl:=true) (v:=vI (zw (a66*a70))) kr kr kr q65 q67 rfl kr kr kr gE ?_
     refine Qp0 (n:=s61.2.length) (m:=(List.set s61.2 (zt s56.1) (List.set a64 (zt s61.1) (zw (a66*a70)))).length) (S:=fun n72=>⟨[(e35_37 x5),(e35_38 s56),(10,vI s56.1),(11,.ref (fid 2 (zt s56.1)) 0 a59.length),(31,.ref 3 0 n72),(32,vI (zn x55)),(33,vI s56.1),(39,vI (zn a59)),(40,vI s61.1),(41,vB true),(42,vI s61.1),(12,vI s61.1),(43,.ref (fid 2 (zt s56.1)) 0 a59.length),(44,vI s61.1),(45,.ptr (fid 2 (zt s56.1)) (zt s61.1) 0),(46,vI a66),(47,.ref 0 0 x5.1.length),(48,vI s56.1),(49,.ptr 0 (zt s56.1) 0),(50,z1 a68),(51,vI s61.1),(52,.fz [vI a70]),(53,vI a70),(54,vI (zw (a66*a70))),(55,.ptr (fid 2 (zt s56.1)) (zt s61.1) 0)],[(o35_25 x5),(o35_30 s56),.fam 1 true (eF eI (List.set s61.2 (zt s56.1) (List.set a64 (zt s61.1) (zw (a66*a70))))),.refs 2 (eF eI (List.set s61.2 (zt s56.1) (List.set a64 (zt s61.1) (zw (a66*a70)))))],64⟩) (by simp only [List.length_set]) ?_
     refine rgd ?_
     refine ⟨⟨[(e35_37 x5),(e35_38 s56),(10,vI s56.1),(11,.lin 2 (zt s56.1) a59.length),(31,.ref 3 0 ((List.set s61.2 (zt s56.1) (List.set a64 (zt s61.1) (zw (a66*a70)))).length)),(32,vI (zn x55)),(33,vI s56.1),(39,vI (zn a59)),(40,vI s61.1),(41,vB true),(42,vI s61.1),(12,vI s61.1),(43,.ref (fid 2 (zt s56.1)) 0 a59.length),(44,vI s61.1),(45,.ptr (fid 2 (zt s56.1)) (zt s61.1) 0),(46,vI a66),(47,.ref 0 0 x5.1.length),(48,vI s56.1),(49,.ptr 0 (zt s56.1) 0),(50,z1 a68),(51,vI s61.1),(52,.fz [vI a70]),(53,vI a70),(54,vI (zw (a66*a70))),(55,.ptr (fid 2 (zt s56.1)) (zt s61.1) 0)],[(o35_25 x5),(o35_30 s56),.fam 1 true (eF eI (List.set s61.2 (zt s56.1) (List.set a64 (zt s61.1) (zw (a66*a70))))),.refs 2 (eF eI (List.set s61.2 (zt s56.1) (List.set a64 (zt s61.1) (zw (a66*a70)))))],64⟩,(Qcm 11 (o:=2) (i:=zt s56.1) (n:=a59.length) (st':=⟨[(e35_37 x5),(e35_38 s56),(10,vI s56.1),(11,.lin 2 (zt s56.1) a59.length),(31,.ref 3 0 ((List.set s61.2 (zt s56.1) (List.set a64 (zt s61.1) (zw (a66*a70)))).length)),(32,vI (zn x55)),(33,vI s56.1),(39,vI (zn a59)),(40,vI s61.1),(41,vB true),(42,vI s61.1),(12,vI s61.1),(43,.ref (fid 2 (zt s56.1)) 0 a59.length),(44,vI s61.1),(45,.ptr (fid 2 (zt s56.1)) (zt s61.1) 0),(46,vI a66),(47,.ref 0 0 x5.1.length),(48,vI s56.1),(49,.ptr 0 (zt s56.1) 0),(50,z1 a68),(51,vI s61.1),(52,.fz [vI a70]),(53,vI a70),(54,vI (zw (a66*a70))),(55,.ptr (fid 2 (zt s56.1)) (zt s61.1) 0)],[(o35_25 x5),(o35_30 s56),.fam 1 true (eF eI (List.set s61.2 (zt s56.1) (List.set a64 (zt s61.1) (zw (a66*a70))))),.refs 2 (eF eI (List.set s61.2 (zt s56.1) (List.set a64 (zt s61.1) (zw (a66*a70)))))],64⟩) rfl (by kernel_rfl)),?_⟩
     refine wg [8,9,10,11,31,32,33,39,40] [0,1,2,3] (rn ?_)
     cases h
     exact ⟨_,rfl,(Q4 (live:=[8,9,10,11,31,32,33,39,40]) (keep:=[0,1,2,3]) kr)⟩
    refine wcF (wg [8,9,11,31,32,33] [0,1,2,3] ?_)
    refine Vx ?_
    cases h
    exact ⟨kr,rfl⟩
   intro x74 h out hx
   subst hx
   refine Qdz (Qdv 11 (o:=2) (i:=zt s56.1) (n:=a59.length) (st':=⟨[(e35_37 x5),(e35_38 s56),(11,.ref (fid 2 (zt s56.1)) 0 a59.length),(31,.ref 3 0 x74.length),(32,vI (zn x55)),(33,vI s56.1)],[(o35_25 x5),(o35_30 s56),.fam 1 true (eF eI x74),.refs 2 (eF eI x74)],64⟩) rfl kr) ?_
   refine Q5 ?_
   refine Zb (sz 2 2 ?_)
   refine Q8 h (fun a75 q76 h=>?_)
   refine Q43 (n:=a59.length) (m:=a75.length) (S:=fun n79=>⟨[(e35_37 x5),(e35_38 s56),(11,.ref (fid 2 (zt s56.1)) 0 n79),(31,.ref 3 0 x74.length),(32,vI (zn x55)),(33,vI s56.1),(57,.ref 1 0 s56.2.1.length),(58,.ref (fid 2 (zt s56.1)) 0 n79)],[(o35_25 x5),(o35_30 s56),.fam 1 true (eF eI x74),.refs 2 (eF eI x74)],64⟩) h (fun h=>?_)
   refine Qxg (as0:=[.ref (fid 2 (zt s56.1)) 0 a75.length]) (ids:=[(fid 2 (zt s56.1))]) (S:=fun x77=>⟨[(e35_37 x5),(e35_38 s56),(11,.ref (fid 2 (zt s56.1)) 0 a75.length),(31,.ref 3 0 x74.length),(32,vI (zn x55)),(33,vI s56.1),(57,.ref 1 0 s56.2.1.length),(58,.ref (fid 2 (zt s56.1)) 0 a75.length),(59,.ref 4 0 x77.length)],[(o35_25 x5),(o35_30 s56),.fam 1 true (eF eI x74),.refs 2 (eF eI x74),oR true 2 eTapi_Q x77],64⟩) kr Q1i (Js (Yi (w:=1) (bx:=false) (ro:=false) (Qht (j:=2) (w:=1) (fl:=true) (enc:=eI) kr q76)) Qkm (by rfl)) (fun x77 q78=>g_hidden_divide_int_ok a75 x77 q78) (fun _=>by kernel_rfl) h (fun x77 q78 h=>?_)
   refine bsR (parts0:=[(0,.ref 4 0 x77.length)]) (parts:=[(0,eL true eTapi_Q x77)]) (ids:=[4]) (es:=[(4,.row false true true true 2 (List.map eTapi_Q x77)),(5,.row false false true (List.all [eL true eTapi_Q x77] AV.scs) 1 [eL true eTapi_Q x77])]) (S:=⟨[(e35_37 x5),(e35_38 s56),(11,.ref (fid 2 (zt s56.1)) 0 a75.length),(31,.ref 3 0 x74.length),(32,vI (zn x55)),(33,vI s56.1),(57,.ref 1 0 s56.2.1.length),(58,.ref (fid 2 (zt s56.1)) 0 a75.length),(59,.ref 4 0 x77.length),(60,.ref 5 0 1)],[(o35_25 x5),(o35_30 s56),.fam 1 true (eF eI x74),.refs 2 (eF eI x74),.row false true true true 2 (List.map eTapi_Q x77),.row false false true false 1 [eL true eTapi_Q x77]],64⟩) [.lst true] false rfl (Qmi rfl (Yi (w:=2) (bx:=false) (ro:=false) (enc:=eTapi_Q) (l:=x77) (fl:=true) kr) Qxe (by rfl)) kr ?_
   refine V4 (enc:=(eL true eTapi_Q)) (l:=s56.2.1) (m:=([x77]:(List (List Qe)))) (w:=1) (bytes:=24) (ob:=1) (nr:=true) (fl:=false) (nr':=true) (fl':=false) (b:=.ref 5 0 1) (rds:=[5]) false kr kr kr rfl gE kr h (fun h=>?_)
   refine sz 1 6 (Q1 rfl ?_)
   refine ⟨_,Zq,?_⟩
   refine wg [8,9,31,32,33] [0,6,3,2] (rn ?_)
   cases h
   exact ⟨_,rfl,(Q4 (live:=[8,9,31,32,33]) (keep:=[0,1,2,3]) kr)⟩
  refine wcF (wg [9] [1] ?_)
  refine Vx ?_
  cases h
  exact ⟨kr,rfl⟩
 intro x81 h out hx
 subst hx
 refine sq (wg [4,5] [0] ?_)
 cases h
 exact Ks (show Qff _ _ _ _=_ from by kernel_rfl)
section
attribute [local irreducible] RW WP
theorem g_ref17_SameQ_ok (p0:(List Qe)) (p1:(List Qe)):Ct Try.prog 24 [eL true eTapi_Q p0,eL true eTapi_Q p1] (Qbp p0 p1) (fun x=>vB x) (fun x=>[]):=by
 refine hfn [] Try.func24 <| hop 2 (fun _=>Qj (enc:=eTapi_Q) (l:=p0) (fl:=true) kr gE) <| hop 1 (fun _=>Qj (enc:=eTapi_Q) (l:=p1) (fl:=true) kr gE) <| hbr 1 [10] (hrt 3) <| ?_
 refine hlp 2 (fun s3=>⟨[(0,eL true eTapi_Q p0),(1,eL true eTapi_Q p1),(5,vI s3)],[],26⟩) (fun x=>match x with | .inl v=>(.ret,⟨[(4,vB false)],[],26⟩) | .inr v=>(.exit 0,⟨[],[],26⟩)) (wz []) (fun s3=>?_) (hsm (fun x13=>?_) (fun x14=>?_))
 ·refine hop 2 (fun _=>Qj (enc:=eTapi_Q) (l:=p0) (fl:=true) kr gE) <| hbr 1 [14] (?_) ?_
  ·refine hbd fun a6 q7=>hop 4 (fun _=>Ql (enc:=eTapi_Q) (l:=p0) (n:=s3) (fl:=true) (w:=2) (a:=a6) kr kr gE q7) <| hbd fun a8 q9=>hop 3 (fun _=>Ql (enc:=eTapi_Q) (l:=p1) (n:=s3) (fl:=true) (w:=2) (a:=a8) kr kr gE q9) <| hbr 2 [25] (hdx 2 (wz [])) <| ?_
   refine hnx 4 (wz [])
  refine hdx 1 (wz [])
 ·refine hrt 0
 refine hrt 2
theorem g_ref17_SameQs_ok (p0:(List (List Qe))) (p1:(List (List Qe))):Ct Try.prog 34 [eL false (eL true eTapi_Q) p0,eL false (eL true eTapi_Q) p1] (Qhp p0 p1) (fun x=>vB x) (fun x=>[]):=by
 refine hfn [] Try.func34 <| hop 2 (fun _=>Qj (enc:=(eL true eTapi_Q)) (l:=p0) (fl:=false) kr gE) <| hop 1 (fun _=>Qj (enc:=(eL true eTapi_Q)) (l:=p1) (fl:=false) kr gE) <| hbr 1 [10] (hrt 3) <| ?_
 refine hlp 2 (fun s3=>⟨[(0,eL false (eL true eTapi_Q) p0),(1,eL false (eL true eTapi_Q) p1),(5,vI s3)],[],27⟩) (fun x=>match x with | .inl v=>(.ret,⟨[(4,vB false)],[],27⟩) | .inr v=>(.exit 0,⟨[],[],27⟩)) (wz []) (fun s3=>?_) (hsm (fun x15=>?_) (fun x16=>?_))
 ·refine hop 2 (fun _=>Qj (enc:=(eL true eTapi_Q)) (l:=p0) (fl:=false) kr gE) <| hbr 1 [14] (?_) ?_
  ·refine hbd fun a6 q7=>hop 4 (fun _=>Ql (enc:=(eL true eTapi_Q)) (l:=p0) (n:=s3) (fl:=false) (w:=1) (a:=a6) kr kr gE q7) <| hbd fun a8 q9=>hop 3 (fun _=>Ql (enc:=(eL true eTapi_Q)) (l:=p1) (n:=s3) (fl:=false) (w:=1) (a:=a8) kr kr gE q9) <| hcl 1 [] (g_ref17_SameQ_ok a6 a8) fun x10 _=>hbr 1 [26] (hdx 2 (wz [])) <| ?_
   refine hnx 4 (wz [])
  refine hdx 1 (wz [])
 ·refine hrt 0
 refine hrt 2
theorem g_slices_Equal_api_Q_api_Q_ok (p0:(List Qe)) (p1:(List Qe)):Ct Try.prog 36 [eL true eTapi_Q p0,eL true eTapi_Q p1] (Zo p0 p1) (fun x=>vB x) (fun x=>[]):=by
 refine hfn [] Try.func36 <| hop 2 (fun _=>Qj (enc:=eTapi_Q) (l:=p0) (fl:=true) kr gE) <| hop 1 (fun _=>Qj (enc:=eTapi_Q) (l:=p1) (fl:=true) kr gE) <| hbr 1 [10] (hrt 3) <| ?_
 refine hop 2 (fun _=>Qj (enc:=eTapi_Q) (l:=p0) (fl:=true) kr gE) <| hlp 1 (fun s3=>⟨[(0,eL true eTapi_Q p0),(1,eL true eTapi_Q p1),(12,vI (zn p0)),(13,vI s3)],[],26⟩) (fun x=>match x with | .inl v=>(.ret,⟨[(4,vB false)],[],26⟩) | .inr v=>(.exit 0,⟨[],[],26⟩)) (wz []) (fun s3=>?_) (hsm (fun x13=>?_) (fun x14=>?_))
 ·refine hbr 1 [14] (?_) ?_
  ·refine hbd fun a6 q7=>hop 6 (fun _=>Ql (enc:=eTapi_Q) (l:=p0) (n:=s3) (fl:=true) (w:=2) (a:=a6) kr kr gE q7) <| hbd fun a8 q9=>hop 3 (fun _=>Ql (enc:=eTapi_Q) (l:=p1) (n:=s3) (fl:=true) (w:=2) (a:=a8) kr kr gE q9) <| hbr 2 [24] (hdx 2 (wz [])) <| ?_
   refine hnx 3 (wz [])
  refine hdx 1 (wz [])
 ·refine hrt 0
 refine hrt 2
theorem g_law17_sample_ok  : Ct Try.prog 41 [] (Qib) (fun x=>.agg [vI x.Grain,.ref 0 0 x.First.length,.ref 1 0 x.Step.length,.ref 2 0 x.Show.length]) (fun x=>[oR true 1 eI x.First,oR false 1 z1 x.Step,oR false 1 z1 x.Show]):=by
 refine hfn [] Try.func41 <| hop 0 (fun _=>sgL false [] [] false gE) <| hop 0 (fun _=>sgL false [] [] true gE) <| hop 0 (fun _=>sgL false [] [] true gE) <| hop 0 (fun _=>sgL false [] [] true gE) <| hbs 0 [.lst true] false [] <| hop 0 (fun _=>sgL false [] [] true gE) <| hop 0 (fun _=>sgL false [] [] true gE) <| hbs 0 [.lst true] false [] <| ?_
 refine hrt 3
theorem g_law17_wakes_ok  : Ct Try.prog 11 [] (Qex) (fun x=>vB x) (fun x=>[]):=by
 refine hfn [] Try.func11 <| hcl 1 [] (g_law17_sample_ok ) fun x1 _=>hop 0 (fun _=>sgL false [] [] false gE) <| hop 2 (fun _=>sgL false [] [] true gE) <| hcl 0 [F eI x1.First,F z1 x1.Step,F z1 x1.Show] (g_hidden_Forward_ok x1 [0,1]) fun x3 _=>hop 6 (fun _=>sgL false [] [] true gE) <| hcl 0 [F eI x1.First,F z1 x1.Step,F z1 x1.Show] (g_hidden_Backward_ok x1 [0,1]) fun x5 _=>hop 6 (fun _=>sgL false [] [] true gE) <| hcl 0 [F eI x1.First,F z1 x1.Step,F z1 x1.Show] (g_hidden_Prob_ok x1 [0,1]) fun x7 _=>?_
 refine hop 7 (fun _=>sgL false [] [] true gE) <| hcl 0 [F eI x1.First,F z1 x1.Step,F z1 x1.Show] (g_hidden_Smooth_ok x1 [0,1]) fun x9 _=>hop 6 (fun _=>sgL false [] [] true gE) <| hcl 0 [F eI x1.First,F z1 x1.Step,F z1 x1.Show] (g_hidden_Predict_ok x1 [0] 1) fun x11 _=>hbr 9 [44,45] (?_) ?_
 ·refine hbr 4 [47,48,49] (?_) ?_
  ·refine hbr 4 [51,52,53] (?_) ?_
   ·refine hbr 4 [55,56,57] (?_) ?_
    ·refine hbr 4 [59,60,61] (?_) ?_
     ·refine hop 1 (fun _=>sgL false [] [] true gE) <| hop 0 (fun _=>sgL false [] [] true gE) <| hbs 0 [.lst true] false [] <| hcl 0 [F z1 x3.1] (g_ref17_SameTable_ok x3.1 [[4,3],[0,60]]) fun x23 _=>hbr 2 [66,67,68] (?_) ?_
      ·refine hop 1 (fun _=>sgL false [] [] true gE) <| hop 0 (fun _=>sgL false [] [] true gE) <| hbs 0 [.lst true] false [] <| hcl 0 [F z1 x5.1] (g_ref17_SameTable_ok x5.1 [[6,12],[1,1]]) fun x27 _=>hbr 2 [73,74,75] (?_) ?_
       ·refine hcl 1 [] (g_law17_q_ok 15 64) fun x31 _=>hbr 3 [78,79,80] (?_) ?_
        ·refine hcl 1 [] (g_law17_q_ok 2 5) fun x35 _=>hcl 0 [] (g_law17_q_ok 3 5) fun x37 _=>hop 0 (fun _=>sgL false [] [] true gE) <| hcl 0 [] (g_law17_q_ok 0 1) fun x39 _=>hcl 0 [] (g_law17_q_ok 1 1) fun x41 _=>hop 0 (fun _=>sgL false [] [] true gE) <| hbs 0 [.lst true] false [] <| hcl 0 [F (eL true eTapi_Q) x9.1] (g_ref17_SameQs_ok x9.1 [[x35,x37],[x39,x41]]) fun x43 _=>hbr 2 [89,90,91] (?_) ?_
         ·refine hcl 1 [] (g_law17_q_ok 2 7) fun x47 _=>hcl 0 [] (g_law17_q_ok 5 7) fun x49 _=>hop 0 (fun _=>sgL false [] [] true gE) <| hcl 0 [F eTapi_Q x11.1] (g_slices_Equal_api_Q_api_Q_ok x11.1 [x47,x49]) fun x51 _=>hbr 2 [96,97,98] (?_) ?_
          ·refine hcl 1 [F eI x1.First,F z1 x1.Step,F z1 x1.Show] (g_hidden_Check_ok x1) fun x55 _=>hbr 3 [101,102,103] (?_) ?_
           ·refine hcl 1 [] (us:=[.agg [vI 0,.nils,.nils,.nils]]) (rv:=fun x59=>vI x59) (ro:=fun x59=>[]) (fun x59 q60=>Zd.args [[.keep,.lst true,.lst false,.lst false]] (g_hidden_Check_ok (Qb.mk 0 [] [] []) x59 q60)) fun x59 _=>hrt 4
           refine hrt 6
          refine hrt 11
         refine hrt 18
        refine hrt 29
       refine hrt 34
      refine hrt 41
     refine hrt 48
    refine hrt 52
   refine hrt 56
  refine hrt 60
 refine hrt 64
theorem Qhy (p0:Qn):Ct Try.prog 15 [.agg [.int .u8 p0.Grain,.int .u8 p0.States,.int .u8 p0.Shows,eL true (AV.int .u8) p0.L,eL true (AV.int .u8) p0.Seen]] (Ve p0) (fun x=>.ref 0 0 x.length) (fun x=>[oR true 1 eI x]):=by
 refine hfn [] Try.func15 <| hop 0 (fun _=>sgL false [] [] false gE) <| hlp 3 (fun s1=>⟨[(1,.ptr 0 0 0),(3,.ref 1 0 s1.2.length),(4,vI s1.1)],[oX true false 5 (.agg [.int .u8 p0.Grain,.int .u8 p0.States,.int .u8 p0.Shows,eL true (AV.int .u8) p0.L,eL true (AV.int .u8) p0.Seen]),oR true 1 eI s1.2],37⟩) (fun v=>(.exit 0,⟨[(3,.ref 0 0 v.length)],[oR true 1 eI v],37⟩)) (Q3 (Q4 (live:=[1,3,4]) (keep:=[0]) gE) (Q3 (Zv 3 1 true true gE) (Q4 (live:=[1,3,4]) (keep:=[0,1]) kr))) (fun s1=>?_) fun x9=>?_
 ·refine hop 3 (fun _=>Qj (enc:=(AV.int .u8)) (l:=p0.Seen) (fl:=true) kr gE) <| hbr 2 [9,10] (?_) ?_
  ·refine hbr 3 [12,13] (?_) ?_
   ·refine hbd fun a6 q7=>hop 6 (fun _=>Ql (enc:=(AV.int .u8)) (l:=p0.Seen) (n:=s1.1) (fl:=true) (w:=1) (a:=a6) kr kr gE q7) <| hoh 7 (fun _ _ h k=>Qmx (k:=.i64) (a:=zw (a6)) (b:=zw (2+(zw (Int.tmod p0.Shows 4)))) kr gE h k) <| hop 1 (fun _=>sgL false [] [] true gE) <| hoh 0 (fun _ _ h k=>V4 (enc:=eI) (l:=s1.2) (m:=([zw ((Int.tmod (zw (a6)) (zw (2+(zw (Int.tmod p0.Shows 4))))) - 1)]:(List Int))) (w:=1) (bytes:=8) (ob:=1) (nr:=true) (fl:=true) (nr':=true) (fl':=true) (b:=.ref 2 0 1) (rds:=[2]) false kr kr kr kr gE kr h k) <| hnx 4 (wz [0,3])
   refine hdx 1 (wz [1])
  refine hdx 4 (wz [1])
 refine hbr 3 [34] (hop 1 (fun _=>sgL false [] [] true gE) <| hrt 4) <| ?_
 refine hrt 4
theorem Qb1 (p0:Int) (p1:Int) (p2:(List Int)):Ct Try.prog 76 [vI p0,vI p1,eL true (AV.int .u8) p2] (Jk p0 p1 p2) (fun x=>.ref 0 0 x.length) (fun x=>[oR true 1 eI x]):=by
 refine hfn [] Try.func76 <| hlp 5 (fun s1=>⟨[(0,vI p0),(2,eL true (AV.int .u8) p2),(7,.ref 0 0 s1.2.2.length),(8,vI s1.1),(9,vI s1.2.1)],[oR true 1 eI s1.2.2],42⟩) (fun v=>(.exit 0,⟨[(7,.ref 0 0 v.length)],[oR true 1 eI v],42⟩)) (Q3 (Q4 (live:=[0,2,7,8,9]) (keep:=[]) gE) (Q3 (Zv 7 1 true true gE) (Q4 (live:=[0,2,7,8,9]) (keep:=[0]) kr))) (fun s1=>?_) fun x11=>?_
 ·refine hbr 3 [14] (?_) ?_
  ·refine hbr 7 [21] (?_) ?_
   ·refine hop 4 (fun _=>Qj (enc:=(AV.int .u8)) (l:=p2) (fl:=true) kr gE) <| hbr 1 [25] (?_) ?_
    ·refine hbd fun a8 q9=>hop 3 (fun _=>Ql (enc:=(AV.int .u8)) (l:=p2) (n:=s1.2.1) (fl:=true) (w:=1) (a:=a8) kr kr gE q9) <| hoh 4 (fun _ _ h k=>Qmx (k:=.i64) (a:=zw (a8)) (b:=zw (s1.1+1)) kr gE h k) <| hop 3 (fun _=>sgL false [] [] true gE) <| hoh 0 (fun _ _ h k=>V4 (enc:=eI) (l:=s1.2.2) (m:=([Int.tmod (zw (a8)) (zw (s1.1+1))]:(List Int))) (w:=1) (bytes:=8) (ob:=0) (nr:=true) (fl:=true) (nr':=true) (fl':=true) (b:=.ref 1 0 1) (rds:=[1]) false kr kr kr kr gE kr h k) <| hnx 8 (wz [2])
    refine hop 3 (fun _=>sgL false [] [] true gE) <| hoh 0 (fun _ _ h k=>V4 (enc:=eI) (l:=s1.2.2) (m:=([0]:(List Int))) (w:=1) (bytes:=8) (ob:=0) (nr:=true) (fl:=true) (nr':=true) (fl':=true) (b:=.ref 1 0 1) (rds:=[1]) false kr kr kr kr gE kr h k) <| hnx 8 (wz [2])
   refine hop 3 (fun _=>sgL false [] [] true gE) <| hoh 0 (fun _ _ h k=>V4 (enc:=eI) (l:=s1.2.2) (m:=([s1.1]:(List Int))) (w:=1) (bytes:=8) (ob:=0) (nr:=true) (fl:=true) (nr':=true) (fl':=true) (b:=.ref 1 0 1) (rds:=[1]) false kr kr kr kr gE kr h k) <| hnx 8 (wz [2])
  refine hdx 1 (wz [0])
 refine hrt 3
theorem g_ref17_Draft_from_ok (p0:Qn) (p1:Int):Ct Try.prog 77 [.agg [.int .u8 p0.Grain,.int .u8 p0.States,.int .u8 p0.Shows,eL true (AV.int .u8) p0.L,eL true (AV.int .u8) p0.Seen],vI p1] (Ym p0 p1) (fun x=>.ref 0 0 x.length) (fun x=>[oR true 1 (AV.int .u8) x]):=by
 refine hfn [] Try.func77 <| hop 0 (fun _=>sgL false [] [] false gE) <| hop 3 (fun _=>Qj (enc:=(AV.int .u8)) (l:=p0.L) (fl:=true) kr gE) <| hbr 1 [10] (hwk 2 (wl [4] []) <| hwk 0 (Zv 4 1 true true gE) <| hrt 1) <| ?_
 refine hlp 3 (fun s3=>⟨[(1,vI p1),(2,.ptr 0 0 0),(5,.ref 1 0 s3.2.length),(6,vI s3.1)],[oX true false 5 (.agg [.int .u8 p0.Grain,.int .u8 p0.States,.int .u8 p0.Shows,eL true (AV.int .u8) p0.L,eL true (AV.int .u8) p0.Seen]),oR true 1 (AV.int .u8) s3.2],30⟩) (fun v=>(.exit 0,⟨[(5,.ref 0 0 v.length)],[oR true 1 (AV.int .u8) v],30⟩)) (Q3 (Q4 (live:=[1,2,5,6]) (keep:=[0]) gE) (Q3 (Zv 5 1 true true gE) (Q4 (live:=[1,2,5,6]) (keep:=[0,1]) kr))) (fun s3=>?_) fun x9=>?_
 ·refine hbr 2 [12] (?_) ?_
  ·refine hop 10 (fun _=>Qj (enc:=(AV.int .u8)) (l:=p0.L) (fl:=true) kr gE) <| hoh 0 (fun _ _ h k=>Qmx (k:=.i64) (a:=zw (p1+s3.1)) (b:=(zn p0.L)) kr gE h k) <| hbd fun a6 q7=>hop 0 (fun _=>Ql (enc:=(AV.int .u8)) (l:=p0.L) (n:=Int.tmod (zw (p1+s3.1)) (zn p0.L)) (fl:=true) (w:=1) (a:=a6) kr kr gE q7) <| hop 1 (fun _=>sgL false [] [] true gE) <| hoh 0 (fun _ _ h k=>V4 (enc:=(AV.int .u8)) (l:=s3.2) (m:=([a6]:(List Int))) (w:=1) (bytes:=1) (ob:=1) (nr:=true) (fl:=true) (nr':=true) (fl':=true) (b:=.ref 2 0 1) (rds:=[2]) false kr kr kr kr gE kr h k) <| hnx 4 (wz [0,3])
  refine hdx 1 (wz [1])
 refine hrt 3
noncomputable abbrev Qel (p0:Qn):Int:=(zw (1+(zw (Int.tmod p0.Grain 12))))
theorem Qgl (p0:Qn):Ct Try.prog 25 [.agg [.int .u8 p0.Grain,.int .u8 p0.States,.int .u8 p0.Shows,eL true (AV.int .u8) p0.L,eL true (AV.int .u8) p0.Seen]] (Yr p0) (fun x=>.agg [vI x.Grain,.ref 0 0 x.First.length,.ref 1 0 x.Step.length,.ref 2 0 x.Show.length]) (fun x=>[oR true 1 eI x.First,oR false 1 z1 x.Step,oR false 1 z1 x.Show]):=by
 refine hfn [] Try.func25 <| hop 0 (fun _=>sgL false [] [] false gE) <| hop 0 (fun _=>sgL false [] [] false gE) <| hcl 23 [] (g_ref17_Draft_from_ok p0 0) fun x1 _=>hcl 0 [F (AV.int .u8) x1] (Qb1 (zw (1+(zw (Int.tmod p0.States 4)))) (Qel p0) x1) fun x3 _=>hop 1 (fun _=>sgL false [] [] false gE) <| hlp 2 (fun s5=>⟨[(1,.ptr 0 0 0),(2,.ptr 1 0 0),(3,vI (Qel p0)),(4,vI (zw (1+(zw (Int.tmod p0.States 4))))),(5,vI (zw (1+(zw (Int.tmod p0.Shows 4))))),(6,.ptr 2 0 0),(7,vI s5.1)],[oX true false 5 (.agg [.int .u8 p0.Grain,.int .u8 p0.States,.int .u8 p0.Shows,eL true (AV.int .u8) p0.L,eL true (AV.int .u8) p0.Seen]),oX true false 4 (.agg [vI 0,.nils,.nils,.nils]),oX false false 4 (.agg [vI (Qel p0),.ref 3 0 x3.length,.ref 4 0 s5.2.1.length,.ref 5 0 s5.2.2.length]),oR true 1 eI x3,oR false 1 z1 s5.2.1,oR false 1 z1 s5.2.2],62⟩) (fun v=>(.exit 0,⟨[(2,.ptr 0 0 0),(6,.ptr 1 0 0)],[oX true false 4 (.agg [vI 0,.nils,.nils,.nils]),oX false false 4 (.agg [vI (Qel p0),.ref 2 0 x3.length,.ref 3 0 v.1.length,.ref 4 0 v.2.length]),oR true 1 eI x3,oR false 1 z1 v.1,oR false 1 z1 v.2],62⟩)) (Q3 (Q4 (live:=[1,2,3,4,5,6,7]) (keep:=[0,1,4,3]) gE) (Q3 (Qb9 2 0 2 1 true false gE) (Q3 (Qb9 2 0 3 1 true false gE) (Q4 (live:=[1,2,3,4,5,6,7]) (keep:=[0,1,2,3,4,5]) kr)))) (fun s5=>?_) fun x17=>?_
 ·refine hbr 3 [32] (?_) ?_
  ·refine hcl 10 [] (us:=[.agg [.int .u8 p0.Grain,.int .u8 p0.States,.int .u8 p0.Shows,eL true (AV.int .u8) p0.L,eL true (AV.int .u8) p0.Seen],vI (zw (4+(zw (8*s5.1))))]) (rv:=fun x8=>eL true (AV.int .u8) x8) (ro:=fun x8=>[]) (fun x8 q9=>Zd.froz (g_ref17_Draft_from_ok p0 (zw (4+(zw (8*s5.1)))) x8 q9) (Yi (w:=1) (bx:=false) (ro:=false) (enc:=(AV.int .u8)) (l:=x8) (fl:=true) rfl)) fun x8 _=>hcl 0 [] (us:=[vI (zw (1+(zw (Int.tmod p0.States 4)))),vI (Qel p0),eL true (AV.int .u8) x8]) (rv:=fun x10=>z1 x10) (ro:=fun x10=>[]) (fun x10 q11=>Zd.froz (Qb1 (zw (1+(zw (Int.tmod p0.States 4)))) (Qel p0) x8 x10 q11) (Yi (w:=1) (bx:=false) (ro:=false) (enc:=eI) (l:=x10) (fl:=true) rfl)) fun x10 _=>hop 0 (fun _=>sgL false [] [.lst true] false gE) <| hoh 0 (fun _ _ h k=>V4 (enc:=z1) (l:=s5.2.1) (m:=([x10]:(List (List Int)))) (w:=1) (bytes:=24) (ob:=4) (nr:=true) (fl:=false) (nr':=true) (fl':=false) (b:=.ref 6 0 1) (rds:=[6]) false kr kr kr kr gE kr h k) <| hcl 11 [] (us:=[.agg [.int .u8 p0.Grain,.int .u8 p0.States,.int .u8 p0.Shows,eL true (AV.int .u8) p0.L,eL true (AV.int .u8) p0.Seen],vI (zw (8+(zw (8*s5.1))))]) (rv:=fun x12=>eL true (AV.int .u8) x12) (ro:=fun x12=>[]) (fun x12 q13=>Zd.froz (g_ref17_Draft_from_ok p0 (zw (8+(zw (8*s5.1)))) x12 q13) (Yi (w:=1) (bx:=false) (ro:=false) (enc:=(AV.int .u8)) (l:=x12) (fl:=true) rfl)) fun x12 _=>hcl 0 [] (us:=[vI (zw (1+(zw (Int.tmod p0.Shows 4)))),vI (Qel p0),eL true (AV.int .u8) x12]) (rv:=fun x14=>z1 x14) (ro:=fun x14=>[]) (fun x14 q15=>Zd.froz (Qb1 (zw (1+(zw (Int.tmod p0.Shows 4)))) (Qel p0) x12 x14 q15) (Yi (w:=1) (bx:=false) (ro:=false) (enc:=eI) (l:=x14) (fl:=true) rfl)) fun x14 _=>hop 0 (fun _=>sgL false [] [.lst true] false gE) <| hoh 0 (fun _ _ h k=>V4 (enc:=z1) (l:=s5.2.2) (m:=([x14]:(List (List Int)))) (w:=1) (bytes:=24) (ob:=5) (nr:=true) (fl:=false) (nr':=true) (fl':=false) (b:=.ref 8 0 1) (rds:=[8]) false kr kr kr kr gE kr h k) <| hnx 5 (wz [0,1,2,3,7,9])
  refine hdx 1 (wz [1,2,3,4,5])
 refine hrt 3
theorem Qen (p0:Qb) (p1:(List Int)):Ct Try.prog 30 [.agg [vI p0.Grain,z1 p0.First,z2 p0.Step,z2 p0.Show],z1 p1] (Jp p0 p1) (fun x=>.tup [.ref 0 0 x.1.length,vI x.2]) (fun x=>[oR false 1 (eL true eTapi_Q) x.1]):=by
 refine hfn [] Try.func30 <| hop 0 (fun _=>sgL false [] [] false gE) <| hcl 4 [] (g_hidden_newWatcher_ok p0 p1) fun x1 _=>hop 3 (fun _=>sgL false [] [] false gE) <| hbr 4 [19] (hwk 4 (wl [4,5] []) <| hwk 0 (Zv 4 1 true false gE) <| hrt 1) <| ?_
 refine hcl 2 [] (Y2 x1.1) fun x5 _=>hbr 7 [27] (hwk 4 (wl [4,5] []) <| hwk 0 (Zv 4 1 true false gE) <| hrt 1) <| ?_
 refine hlp 5 (fun s9=>⟨[(9,.ref 0 0 s9.2.length),(29,.ref 1 0 x5.1.length),(30,vI (zn x5.1)),(31,vI s9.1)],[oR false 1 (eL true eTapi_Q) s9.2,oR false 1 z1 x5.1],42⟩) (fun v=>(.exit 0,⟨[(9,.ref 0 0 v.length)],[oR false 1 (eL true eTapi_Q) v],42⟩)) (Q3 (Q4 (live:=[9,29,30,31]) (keep:=[2]) gE) (Q3 (Zv 9 1 true false gE) (Q4 (live:=[9,29,30,31]) (keep:=[1,0]) kr))) (fun s9=>?_) fun x17=>?_
 ·refine hbr 1 [32] (?_) ?_
  ·refine hbd fun a12 q13=>hop 1 (fun _=>Zj (enc:=z1) (l:=x5.1) (n:=s9.1) (w:=1) (ob:=1) (ro:=false) (nr:=true) (fl:=false) (a:=a12) kr kr gE q13) <| hop 0 (fun _=>Yw (enc:=z1) (l:=x5.1) (n:=s9.1) (w:=1) (ob:=1) (c:=0) (bx:=false) (ro:=false) (nr:=true) (fl:=false) (a:=a12) kr kr q13 gE) <| hcl 3 [] (g_hidden_divide_int_ok a12) fun x14 _=>hbs 0 [.lst true] false [F eTapi_Q x14] <| hoh 0 (fun _ _ h k=>V4 (enc:=(eL true eTapi_Q)) (l:=s9.2) (m:=([x14]:(List (List Qe)))) (w:=1) (bytes:=24) (ob:=0) (nr:=true) (fl:=false) (nr':=true) (fl':=false) (b:=.ref 3 0 1) (rds:=[3]) false kr kr kr kr gE kr h k) <| hnx 3 (wz [4,1])
  refine hdx 1 (wz [0])
 refine hrt 4
theorem Qei (c0:Int) (d0:(List Int)):Ct Try.prog 37 [z1 (c0::d0)] (Xr c0 d0) (fun x=>.ref 0 0 x.length) (fun x=>[oR true 1 eI x]):=by
 refine hfn [] Try.func37 <| hoh 6 (fun _ _ h k=>Q08 (enc:=eI) (m:=(c0::d0)) (w:=1) (bytes:=8) (nr':=true) (fl':=true) (a:=.emp) (b:=z1 (c0::d0)) (rds:=[]) false kr (.inr rfl) (Qam (fun _=>rfl)) kr gE kr h k) <| hrt 2
theorem Qef  : Ct Try.prog 37 [.emn] (Vz) (fun x=>.ref 0 0 x.length) (fun x=>[oR true 1 eI x]):=by
 refine hfn [] Try.func37 <| hrt 9
theorem Qeg  : Ct Try.prog 37 [.nils] (V1) (fun x=>.ref 0 0 x.length) (fun x=>[oR true 1 eI x]):=by
 refine hfn [] Try.func37 <| hwk 5 (wl [2] []) <| hwk 0 (Zv 2 1 true true gE) <| hrt 1
theorem g_slices_Clone_int_int_ok (p0:(List Int)) (x:(List Int)) (h:Qy p0=some x):Zd Try.prog 37 [z1 p0] (.ret (.ref 0 0 x.length) [oR true 1 eI x]):=by
 cases p0 with
 | cons c0 d0=>exact Qei c0 d0 x h
 | nil =>
  cases h1:V1 with
  | none=>simp [Qy,h1] at h
  | some y =>
   cases h2:Vz with
   | none=>simp [Qy,h1,h2] at h
   | some z =>
    by_cases e:y=z
    ·subst e
     simp [Qy,h1,h2] at h
     subst h
     exact Zd.nil (l1:=[]) (l2:=[]) (Qeg y h1) (Qef y h2)
    ·simp [Qy,h1,h2,e] at h
theorem g_hidden_copied_ok (p0:(List (List Int))):Ct Try.prog 84 [z2 p0] (X7 p0) (fun x=>.ref 0 0 x.length) (fun x=>[oR false 1 z1 x]):=by
 refine hfn [] Try.func84 <| hop 3 (fun _=>Qj (enc:=z1) (l:=p0) (fl:=false) kr gE) <| hlp 1 (fun s1=>⟨[(3,.ref 0 0 s1.2.length),(6,z2 p0),(7,vI (zn p0)),(8,vI s1.1)],[oR false 1 z1 s1.2],19⟩) (fun v=>(.exit 0,⟨[(3,.ref 0 0 v.length)],[oR false 1 z1 v],19⟩)) (Q3 (Q4 (live:=[3,6,7,8]) (keep:=[]) gE) (Q3 (Zv 3 1 true false gE) (Q4 (live:=[3,6,7,8]) (keep:=[0]) kr))) (fun s1=>?_) fun x9=>?_
 ·refine hbr 1 [9] (?_) ?_
  ·refine hbd fun a4 q5=>hop 1 (fun _=>Ql (enc:=z1) (l:=p0) (n:=s1.1) (fl:=false) (w:=1) (a:=a4) kr kr gE q5) <| hcl 4 [] (g_slices_Clone_int_int_ok a4) fun x6 _=>hbs 0 [.lst true] false [F eI x6] <| hoh 0 (fun _ _ h k=>V4 (enc:=z1) (l:=s1.2) (m:=([x6]:(List (List Int)))) (w:=1) (bytes:=24) (ob:=0) (nr:=true) (fl:=false) (nr':=true) (fl':=false) (b:=.ref 2 0 1) (rds:=[2]) false kr kr kr kr gE kr h k) <| hnx 3 (wz [3])
  refine hdx 1 (wz [0])
 refine hrt 3
theorem Qou (p0:Qb) (p1:Int):Ct Try.prog 38 [.agg [vI p0.Grain,z1 p0.First,z2 p0.Step,z2 p0.Show],vI p1] (Qct p0 p1) (fun x=>.tup [.agg [vI x.1.Grain,.ref 0 0 x.1.Nodes.length],vI x.2]) (fun x=>[oR false 3 eTapi_Node x.1.Nodes]):=by
 refine hfn [] Try.func38 <| hop 0 (fun _=>sgL false [] [] false gE) <| hop 0 (fun _=>sgL false [] [] false gE) <| hcl 2 [] (g_hidden_Check_ok p0) fun x1 _=>hbr 3 [16] (hwk 5 (wl [4,5] [1]) <| hwk 0 (Qb9 0 0 1 3 true false gE) <| hrt 1) <| ?_
 refine hbr 3 [20] (hwk 4 (wl [4,5] [1]) <| hwk 0 (Qb9 0 0 1 3 true false gE) <| hrt 1) <| ?_
 refine hop 4 (fun _=>Qj (enc:=eI) (l:=p0.First) (fl:=true) kr gE) <| hbd fun a7 q8=>hop 2 (fun _=>Ql (enc:=z1) (l:=p0.Show) (n:=0) (fl:=false) (w:=1) (a:=a7) kr kr gE q8) <| hop 1 (fun _=>Qj (enc:=eI) (l:=a7) (fl:=true) kr gE) <| hbr 5 [31,32] (hwk 11 (wl [4,5] [1]) <| hwk 0 (Qb9 0 0 1 3 true false gE) <| hrt 1) <| ?_
 refine hcl 4 [] (g_weigh_Whole_ok (zw ((zn p0.First)*(zn a7))) p1) fun x11 _=>hbr 2 [38,39] (hwk 4 (wl [4,5] [1]) <| hwk 0 (Qb9 0 0 1 3 true false gE) <| hrt 1) <| ?_
 refine hop 4 (fun _=>sgL false [] [] false gE) <| hlp 3 (fun s15=>⟨[(2,.ptr 0 0 0),(4,.ptr 1 0 0),(7,vI (zn p0.First)),(8,vI (zn a7)),(9,.ptr 2 0 0),(44,vI p1),(45,vI s15.1)],[oX true false 4 (.agg [vI p0.Grain,z1 p0.First,z2 p0.Step,z2 p0.Show]),oX true false 2 (.agg [vI 0,.nils]),oX false false 2 (.agg [vI p0.Grain,.ref 3 0 s15.2.length]),oR false 3 eTapi_Node s15.2],82⟩) (fun v=>(.exit 0,⟨[(4,.ptr 0 0 0),(9,.ptr 1 0 0)],[oX true false 2 (.agg [vI 0,.nils]),oX false false 2 (.agg [vI p0.Grain,.ref 2 0 v.length]),oR false 3 eTapi_Node v],82⟩)) (Q3 (Q4 (live:=[2,4,7,8,9,44,45]) (keep:=[0,1,2]) gE) (Q3 (Qb9 2 0 1 3 true false gE) (Q4 (live:=[2,4,7,8,9,44,45]) (keep:=[0,1,2,3]) kr))) (fun s15=>?_) fun x29=>?_
 ·refine hbr 1 [46] (?_) ?_
  ·refine hop 6 (fun _=>sgL false [] [.lst true] false gE) <| hcl 0 [] (g_hidden_copied_ok [p0.First]) fun x18 _=>hop 1 (fun _=>sgL false [] [] false gE) <| hbr 3 [55] (?_) ?_
   ·refine hop 5 (fun _=>sgL false [] [] true gE) <| hcl 2 [] (g_hidden_copied_ok p0.Step) fun x22 _=>hop 5 (fun _=>sgL false [] [] true gE) <| hcl 2 [] (g_hidden_copied_ok p0.Show) fun x24 _=>hop 1 (fun _=>sgL false [] [] false gE) <| hbs 5 [.keep,.lst true,.lst false] false [none,F z1 x22,none,F z1 x24] <| hoh 0 (fun _ _ h k=>V4 (enc:=eTapi_Node) (l:=s15.2) (m:=([(Qm.mk (zn p0.First) [zw ((zw (2*s15.1)) - 2)] x22),(Qm.mk (zn a7) [zw (2*s15.1)] x24)]:(List Qm))) (w:=3) (bytes:=56) (ob:=3) (nr:=true) (fl:=false) (nr':=true) (fl':=false) (b:=.ref 12 0 2) (rds:=[12]) false kr kr kr kr gE kr h k) <| hnx 4 (wz [0,1,2,13])
   refine hop 4 (fun _=>sgL false [] [] true gE) <| hcl 2 [] (g_hidden_copied_ok p0.Show) fun x26 _=>hop 1 (fun _=>sgL false [] [] false gE) <| hbs 5 [.keep,.lst true,.lst false] false [F z1 x18,none,F z1 x26] <| hoh 0 (fun _ _ h k=>V4 (enc:=eTapi_Node) (l:=s15.2) (m:=([(Qm.mk (zn p0.First) [] x18),(Qm.mk (zn a7) [zw (2*s15.1)] x26)]:(List Qm))) (w:=3) (bytes:=56) (ob:=3) (nr:=true) (fl:=false) (nr':=true) (fl':=false) (b:=.ref 10 0 2) (rds:=[10]) false kr kr kr kr gE kr h k) <| hnx 4 (wz [0,1,2,11])
  refine hdx 1 (wz [1,2,3])
 refine hrt 4
noncomputable abbrev Qss (p0:Qw):AObj:=oX true false 5 (.agg [vI p0.Net.Grain,eL false eTapi_Node p0.Net.Nodes,z1 p0.cards,eL true (AV.int .u64) p0.sets,z1 p0.order])
noncomputable abbrev Qok (p1:Qm):AObj:=oX true false 3 (.agg [vI p1.Card,z1 p1.Parents,z2 p1.Rows])
noncomputable abbrev Qr2:AObj:=oX true true 1 (vB false)
noncomputable abbrev o52_51:AObj:=.loop 66 [(2,.ptr 0 0 0),(3,.ptr 1 0 0),(4,.ptr 2 0 0),(34,.fn (.func 137) [] [.ptr 3 0 0])] [35,36] (cA Try.f118 [true,true,true,true,false,true,true]) (cB Try.f118 [true,true,true,true,false,true,true]) .ready none
noncomputable abbrev o52_52:AObj:=.loop 66 [(2,.ptr 0 0 0),(3,.ptr 1 0 0),(4,.ptr 2 0 0),(34,.fn (.func 137) [] [.ptr 3 0 0])] [35,36] (cA Try.f118 [true,true,true,true,false,true,true]) (cB Try.f118 [true,true,true,true,false,true,true]) .busy none
noncomputable abbrev l52_53 (p0:Qw) (p1:Qm):List AObj:=[(Qss p0),(Qok p1),Qr2,(Qok p1)]
theorem Qgm (p0:Qw) (p1:Qm):Ct Try.prog 118 [.agg [vI p0.Net.Grain,eL false eTapi_Node p0.Net.Nodes,z1 p0.cards,eL true (AV.int .u64) p0.sets,z1 p0.order],.agg [vI p1.Card,z1 p1.Parents,z2 p1.Rows]] (Vl p0 p1) (fun x=>vB x) (fun x=>[]):=by
 refine hfn [] Try.func118 <| hop 0 (fun _=>sgL false [] [] false gE) <| hop 0 (fun _=>sgL false [] [] false gE) <| hop 4 (fun _=>Qj (enc:=eI) (l:=p1.Parents) (fl:=true) kr gE) <| hlp 1 (fun s1=>⟨[(2,.ptr 0 0 0),(3,.ptr 1 0 0),(4,.ptr 2 0 0),(5,vI s1.1),(14,z1 p1.Parents),(15,vI (zn p1.Parents)),(16,vI s1.2)],[(Qss p0),(Qok p1),Qr2],66⟩) (fun v=>(.exit 0,⟨[(2,.ptr 0 0 0),(3,.ptr 1 0 0),(4,.ptr 2 0 0),(5,vI v)],[(Qss p0),(Qok p1),Qr2],66⟩)) (wz [0,1,2]) (fun s1=>?_) fun x9=>?_
 ·refine hbr 1 [17] (?_) ?_
  ·refine hbd fun a4 q5=>hop 1 (fun _=>Ql (enc:=eI) (l:=p1.Parents) (n:=s1.2) (fl:=true) (w:=1) (a:=a4) kr kr gE q5) <| hbd fun a6 q7=>hop 6 (fun _=>Ql (enc:=eI) (l:=p0.cards) (n:=a4) (fl:=true) (w:=1) (a:=a6) kr kr gE q7) <| hnx 5 (wz [0,1,2])
  refine hdx 1 (wz [0,1,2])
 refine hop 2 (fun _=>Qj (enc:=z1) (l:=p1.Rows) (fl:=false) kr gE) <| hbr 2 [32] (hrt 3) <| ?_
 refine hil 2 Try.func132 <| hop 0 (fun _=>sgL false [] [] false gE) <| hwk 3 (wl [2] [3]) <| hwk 1 (wl [2,3,4,34] [0,1,2,3]) <| hrg 0 Try.func137 <| hop 2 (fun _=>Qj (enc:=z1) (l:=p1.Rows) (fl:=false) kr gE) <| hlp 1 (fun s12=>⟨[(0,.yld 4),(6,z2 p1.Rows),(7,vI (zn p1.Rows)),(8,vI s12)],(l52_53 p0 p1)++[o52_51],19⟩) (fun x=>match x with | .inl v=>(.ret,⟨[],(l52_53 p0 p1)++[.loop 66 [(2,.ptr 0 0 0),(3,.ptr 1 0 0),(4,.ptr 2 0 0),(34,.fn (.func 137) [] [.ptr 3 0 0])] [35,36] (cA Try.f118 [true,true,true,true,false,true,true]) (cB Try.f118 [true,true,true,true,false,true,true]) .done (some .ret)],19⟩) | .inr v=>(.exit 0,⟨[],(l52_53 p0 p1)++[o52_51],19⟩)) (wz []) (fun s12=>?_) (hsm (fun x34=>?_) (fun x35=>?_))
 ·refine hbr 1 [9] (?_) ?_
  ·refine hbd fun a15 q16=>hop 2 (fun _=>Ql (enc:=z1) (l:=p1.Rows) (n:=s12) (fl:=false) (w:=1) (a:=a15) kr kr gE q16) <| hyl 6 <| hop 6 (fun _=>Qj (enc:=eI) (l:=a15) (fl:=true) kr gE) <| hlp 1 (fun s17=>⟨[(3,.ptr 1 0 0),(4,.ptr 2 0 0),(9,z1 a15),(10,vI s17.1),(40,z1 a15),(41,vI (zn a15)),(42,vI s17.2)],(l52_53 p0 p1)++[o52_52],66⟩) (fun x=>match x with | .inl v=>(.ret,⟨[(4,.ptr 2 0 0)],(l52_53 p0 p1)++[o52_52],66⟩) | .inr v=>(.exit 4,⟨[(3,.ptr 1 0 0),(4,.ptr 2 0 0),(9,z1 a15),(10,vI v)],(l52_53 p0 p1)++[o52_52],66⟩)) (wz []) (fun s17=>?_) (hsm (fun x27=>?_) (fun x28=>?_))
   ·refine hbr 1 [43] (?_) ?_
    ·refine hbd fun a20 q21=>hop 1 (fun _=>Ql (enc:=eI) (l:=a15) (n:=s17.2) (fl:=true) (w:=1) (a:=a20) kr kr gE q21) <| hbr 5 [47,48] (hdx 6 (wz [])) <| ?_
     refine hbr 4 [51,52] (hdx 2 (wz [])) <| ?_
     refine hnx 7 (wz [])
    refine hdx 1 (wz [])
   ·refine hdx 2 (wz [])
   refine hop 1 (fun _=>Qj (enc:=eI) (l:=a15) (fl:=true) kr gE) <| hbr 4 [61,62] (hwk 5 (wl [4] []) <| hdx 3 (wz [])) <| ?_
   refine hbr 3 [64,65] (hwk 2 (wl [4] []) <| hdx 3 (wz [])) <| ?_
   refine hnx 5 (wz [])
  refine hdx 1 (wz [])
 ·refine hrt 0
 refine hrt 2
theorem Qom (p0:(List Int)):Ct Try.prog 119 [eL true (AV.int .u64) p0] (Qc6 p0) (fun x=>.tup [.ref 0 0 x.1.length,vB x.2]) (fun x=>[oR true 1 eI x.1]):=by
 refine hfn [] Try.func119 <| hop 3 (fun _=>Qj (enc:=(AV.int .u64)) (l:=p0) (fl:=true) kr gE) <| hoh 0 (fun _ _ h k=>mkL (enc:=eI) (z:=(0:Int)) (z0:=vI 0) (n:=0) (m:=(zn p0)) (w:=1) (bytes:=8) [] true kr kr gE kr h k) <| hlp 2 (fun s1=>⟨[(0,eL true (AV.int .u64) p0),(4,.ref 0 0 s1.2.length),(5,.int .u64 s1.1)],[oR true 1 eI s1.2],44⟩) (fun x=>match x with | .inl v=>(.ret,⟨[(2,.ref 0 0 0),(3,vB false)],[.row false false true true 1 []],44⟩) | .inr v=>(.exit 0,⟨[(4,.ref 0 0 v.length)],[oR true 1 eI v],44⟩)) (wz [0]) (fun s1=>?_) (hsm (fun x17=>?_) (fun x18=>?_))
 ·refine hop 3 (fun _=>Qj (enc:=(AV.int .u64)) (l:=p0) (fl:=true) kr gE) <| hbr 1 [15] (?_) ?_
  ·refine hop 2 (fun _=>Qj (enc:=(AV.int .u64)) (l:=p0) (fl:=true) kr gE) <| hlp 1 (fun s4=>⟨[(0,eL true (AV.int .u64) p0),(4,.ref 0 0 s1.2.length),(5,.int .u64 s1.1),(16,eL true (AV.int .u64) p0),(17,vI (zn p0)),(18,vI s4)],[oR true 1 eI s1.2],44⟩) (fun x=>match x with | .inl v=>(.exit 1,⟨[(0,eL true (AV.int .u64) p0),(4,.ref 0 0 v.2.length),(5,.int .u64 v.1)],[oR true 1 eI v.2],44⟩) | .inr v=>(.exit 2,⟨[],[],44⟩)) (wz [0]) (fun s4=>?_) (hsm (fun x14=>?_) (fun x15=>?_))
   ·refine hbr 1 [19] (?_) ?_
    ·refine hbd fun a7 q8=>hop 2 (fun _=>Ql (enc:=(AV.int .u64)) (l:=p0) (n:=s4) (fl:=true) (w:=1) (a:=a7) kr kr gE q8) <| hoh 5 (fun _ _ h k=>Q5f (k:=.u64) (k':=.i64) (a:=s1.1) (b:=s4) kr gE h k) <| hbr 3 [27,28] (?_) ?_
     ·refine hbr 5 [32,33] (?_) ?_
      ·refine hop 3 (fun _=>sgL false [] [] true gE) <| hoh 0 (fun _ _ h k=>V4 (enc:=eI) (l:=s1.2) (m:=([s4]:(List Int))) (w:=1) (bytes:=8) (ob:=0) (nr:=true) (fl:=true) (nr':=true) (fl':=true) (b:=.ref 1 0 1) (rds:=[1]) false kr kr kr kr gE kr h k) <| hoh 3 (fun _ _ h k=>Q3z (k:=.u64) (k':=.i64) (a:=1) (b:=s4) kr gE h k) <| hdx 2 (wz [2])
      refine hnx 3 (wz [0])
     refine hnx 8 (wz [0])
    refine hdx 1 (wz [])
   ·refine hnx 0 (wz [0])
   refine hwk 2 (wl [2,3] []) <| hwk 0 (Zv 2 1 true true gE) <| hdn 1
  refine hdx 1 (wz [0])
 ·refine hrt 0
 refine hrt 4
noncomputable abbrev Qh0 (a34:Int):Int:=(zv (1*2^min (zt a34) (IntKind.bits .u64)))
noncomputable abbrev o54_55:AObj:=oX true false 5 (.agg [vI 0,.nils,.nils,.nils,.nils])
noncomputable abbrev o54_56 (p0:Qp):AObj:=oR true 1 (AV.int .u64) (List.replicate (zt (zn p0.Nodes)) (0:Int))
noncomputable abbrev o54_57 (a29:Qm):AObj:=oX true false 3 (.agg [vI a29.Card,z1 a29.Parents,z2 a29.Rows])
noncomputable abbrev s54_58:List (Nat×AV):=[(2,.ptr 0 0 0),(4,.ptr 1 0 0)]
noncomputable abbrev u54_59:St:=⟨[(2,.ptr 0 0 0),(3,vI 50)],[o54_55],140⟩
theorem g_net_read_ok (p0:Qp):Ct Try.prog 102 [.agg [vI p0.Grain,eL false eTapi_Node p0.Nodes]] (Qa0 p0) (fun x=>.tup [.agg [vI x.1.Net.Grain,eL false eTapi_Node x.1.Net.Nodes,z1 x.1.cards,eL true (AV.int .u64) x.1.sets,z1 x.1.order],vI x.2]) (fun x=>[]):=by
 refine hfn [[.keep,.lst false,.lst true,.lst true,.lst true],[.keep]] Try.func102 <| hop 0 (fun _=>sgL false [] [] false gE) <| hop 0 (fun _=>sgL false [] [] false gE) <| hbr 5 [17,18] (hrt 21) <| ?_
 refine hbr 5 [21,22,23] (hrt 16) <| ?_
 refine hop 2 (fun _=>Qj (enc:=eTapi_Node) (l:=p0.Nodes) (fl:=false) kr gE) <| hbr 3 [27,28,29] (hrt 10) <| ?_
 refine hop 2 (fun _=>Qj (enc:=eTapi_Node) (l:=p0.Nodes) (fl:=false) kr gE) <| hbr 2 [33,34] (hrt 5) <| ?_
 refine hop 5 (fun _=>Qj (enc:=eTapi_Node) (l:=p0.Nodes) (fl:=false) kr gE) <| hoh 0 (fun _ _ h k=>mkL (enc:=eI) (z:=(0:Int)) (z0:=vI 0) (n:=(zn p0.Nodes)) (m:=(zn p0.Nodes)) (w:=1) (bytes:=8) [] true kr kr gE kr h k) <| hop 2 (fun _=>Qj (enc:=eTapi_Node) (l:=p0.Nodes) (fl:=false) kr gE) <| hoh 0 (fun _ _ h k=>mkL (enc:=(AV.int .u64)) (z:=(0:Int)) (z0:=.int .u64 0) (n:=(zn p0.Nodes)) (m:=(zn p0.Nodes)) (w:=1) (bytes:=8) [] true kr kr gE kr h k) <| hop 1 (fun _=>sgL false [] [] false gE) <| hop 5 (fun _=>Qj (enc:=eTapi_Node) (l:=p0.Nodes) (fl:=false) kr gE) <| hlp 1 (fun s9=>⟨s54_58++[(5,vI s9.1),(48,eL false eTapi_Node p0.Nodes),(49,vI (zn p0.Nodes)),(50,vI s9.2.1)],[o54_55,oX false false 5 (.agg [vI p0.Grain,eL false eTapi_Node p0.Nodes,.ref 2 0 s9.2.2.length,.ref 3 0 ((List.replicate (zt (zn p0.Nodes)) (0:Int)).length),.nils]),oR true 1 eI s9.2.2,(o54_56 p0)],140⟩) (fun x=>match x with | .inl v=>(.ret,u54_59) | .inr v=>(.exit 0,⟨s54_58++[(5,vI v.1)],[o54_55,oX false false 5 (.agg [vI p0.Grain,eL false eTapi_Node p0.Nodes,.ref 2 0 v.2.length,.ref 3 0 ((List.replicate (zt (zn p0.Nodes)) (0:Int)).length),.nils]),oR true 1 eI v.2,(o54_56 p0)],140⟩)) (wz [1,4,2,3]) (fun s9=>?_) (hsm (fun x22=>?_) (fun x23=>?_))
 ·refine hbr 1 [51] (?_) ?_
  ·refine hbd fun a12 q13=>hop 2 (fun _=>Ql (enc:=eTapi_Node) (l:=p0.Nodes) (n:=s9.2.1) (fl:=false) (w:=3) (a:=a12) kr kr gE q13) <| hop 1 (fun _=>sgL false [] [] false gE) <| hbr 6 [57,58] (hdx 8 (wz [0])) <| ?_
   refine hbr 4 [61,62] (hdx 4 (wz [0])) <| ?_
   refine hbd fun a18 q19=>hop 6 (fun _=>Zj (enc:=eI) (l:=s9.2.2) (n:=s9.2.1) (w:=1) (ob:=2) (ro:=false) (nr:=true) (fl:=true) (a:=a18) kr kr gE q19) <| hop 0 (fun _=>Yy (enc:=eI) (l:=s9.2.2) (n:=s9.2.1) (ob:=2) (w:=1) (bx:=false) (nr:=true) (fl:=true) (c:=0) (a:=a18) (a':=a12.Card) (v:=vI a12.Card) false kr kr q19 kr kr kr gE kr) <| hkn 0 (fun n20=>⟨s54_58++[(5,vI s9.1),(48,eL false eTapi_Node p0.Nodes),(49,vI (zn p0.Nodes)),(50,vI s9.2.1),(51,vB true),(52,vI s9.2.1),(53,.fz [vI a12.Card,z1 a12.Parents,z2 a12.Rows]),(54,.agg [vI a12.Card,z1 a12.Parents,z2 a12.Rows]),(7,.ptr 4 0 0),(6,vI s9.2.1),(55,.ptr 4 0 0),(56,vI a12.Card),(57,vB false),(58,vB false),(59,.ptr 4 0 0),(60,vI a12.Card),(61,vB false),(62,vB false),(64,.ptr 1 0 2),(65,.ref 2 0 n20),(66,vI s9.2.1),(67,.ptr 4 0 0),(68,vI a12.Card),(69,.ptr 2 (zt s9.2.1) 0)],[o54_55,oX false false 5 (.agg [vI p0.Grain,eL false eTapi_Node p0.Nodes,.ref 2 0 n20,.ref 3 0 ((List.replicate (zt (zn p0.Nodes)) (0:Int)).length),.nils]),oR true 1 eI (List.set s9.2.2 (zt s9.2.1) a12.Card),(o54_56 p0),oX true false 3 (.agg [vI a12.Card,z1 a12.Parents,z2 a12.Rows])],140⟩) (ls s9.2.2 (zt s9.2.1) a12.Card) <| hnx 7 (wz [0,1,2,3])
  refine hdx 1 (wz [0,1,2,3])
 ·refine hrt 0
 refine hbr 2 [76] (hrt 5) <| ?_
 refine hop 4 (fun _=>Qj (enc:=eTapi_Node) (l:=p0.Nodes) (fl:=false) kr gE) <| hlp 1 (fun s26=>⟨s54_58++[(80,eL false eTapi_Node p0.Nodes),(81,vI (zn p0.Nodes)),(82,vI s26.1)],[o54_55,oX false false 5 (.agg [vI p0.Grain,eL false eTapi_Node p0.Nodes,.ref 2 0 x23.2.length,.ref 3 0 s26.2.length,.nils]),oR true 1 eI x23.2,oR true 1 (AV.int .u64) s26.2],140⟩) (fun x=>match x with | .inl v=>(.ret,u54_59) | .inr v=>(.exit 2,⟨s54_58,[o54_55,oX false false 5 (.agg [vI p0.Grain,eL false eTapi_Node p0.Nodes,.ref 2 0 x23.2.length,.ref 3 0 v.length,.nils]),oR true 1 eI x23.2,oR true 1 (AV.int .u64) v],140⟩)) (wz [0,1,2,3]) (fun s26=>?_) (hsm (fun x53=>?_) (fun x54=>?_))
 ·refine hbr 1 [83] (?_) ?_
  ·refine hbd fun a29 q30=>hop 2 (fun _=>Ql (enc:=eTapi_Node) (l:=p0.Nodes) (n:=s26.1) (fl:=false) (w:=3) (a:=a29) kr kr gE q30) <| hop 1 (fun _=>sgL false [] [] false gE) <| hop 5 (fun _=>Qj (enc:=eI) (l:=a29.Parents) (fl:=true) kr gE) <| hlp 1 (fun s31=>⟨s54_58++[(8,vI s26.1),(9,.ptr 2 0 0),(10,vI s31.1),(80,eL false eTapi_Node p0.Nodes),(81,vI (zn p0.Nodes)),(82,vI s26.1),(88,z1 a29.Parents),(89,vI (zn a29.Parents)),(90,vI s31.2.1)],[o54_55,oX false false 5 (.agg [vI p0.Grain,eL false eTapi_Node p0.Nodes,.ref 3 0 x23.2.length,.ref 4 0 s31.2.2.length,.nils]),(o54_57 a29),oR true 1 eI x23.2,oR true 1 (AV.int .u64) s31.2.2],140⟩) (fun x=>match x with | .inl v=>(.ret,u54_59) | .inr v=>(.exit 4,⟨s54_58++[(9,.ptr 2 0 0),(80,eL false eTapi_Node p0.Nodes),(81,vI (zn p0.Nodes)),(82,vI s26.1)],[o54_55,oX false false 5 (.agg [vI p0.Grain,eL false eTapi_Node p0.Nodes,.ref 3 0 x23.2.length,.ref 4 0 v.length,.nils]),(o54_57 a29),oR true 1 eI x23.2,oR true 1 (AV.int .u64) v],140⟩)) (wz [0,1,4,2,3]) (fun s31=>?_) (hsm (fun x46=>?_) (fun x47=>?_))
   ·refine hbr 1 [91] (?_) ?_
    ·refine hbd fun a34 q35=>hop 1 (fun _=>Ql (enc:=eI) (l:=a29.Parents) (n:=s31.2.1) (fl:=true) (w:=1) (a:=a34) kr kr gE q35) <| hbr 6 [96,97] (hdx 16 (wz [0])) <| ?_
     refine hop 4 (fun _=>Qj (enc:=eTapi_Node) (l:=p0.Nodes) (fl:=false) kr gE) <| hbr 3 [103,104,105] (hdx 8 (wz [0])) <| ?_
     refine hbr 4 [108,109] (hdx 4 (wz [0])) <| ?_
     refine hbd fun a42 q43=>hop 7 (fun _=>Zj (enc:=(AV.int .u64)) (l:=s31.2.2) (n:=s26.1) (w:=1) (ob:=4) (ro:=false) (nr:=true) (fl:=true) (a:=a42) kr kr gE q43) <| hop 0 (fun _=>Yw (enc:=(AV.int .u64)) (l:=s31.2.2) (n:=s26.1) (w:=1) (ob:=4) (c:=0) (bx:=false) (ro:=false) (nr:=true) (fl:=true) (a:=a42) kr kr q43 gE) <| hoh 1 (fun _ _ h k=>Q3z (k:=.u64) (k':=.i64) (a:=1) (b:=a34) kr gE h k) <| hop 1 (fun _=>Zj (enc:=(AV.int .u64)) (l:=s31.2.2) (n:=s26.1) (w:=1) (ob:=4) (ro:=false) (nr:=true) (fl:=true) (a:=a42) kr kr gE q43) <| hop 0 (fun _=>Yy (enc:=(AV.int .u64)) (l:=s31.2.2) (n:=s26.1) (ob:=4) (w:=1) (bx:=false) (nr:=true) (fl:=true) (c:=0) (a:=a42) (a':=zv (zb a42 ||| zb (Qh0 a34)).toNat) (v:=.int .u64 (zv (zb a42 ||| zb (Qh0 a34)).toNat)) false kr kr q43 kr kr kr gE kr) <| hkn 0 (fun n44=>⟨s54_58++[(8,vI s26.1),(9,.ptr 2 0 0),(10,vI a34),(80,eL false eTapi_Node p0.Nodes),(81,vI (zn p0.Nodes)),(82,vI s26.1),(88,z1 a29.Parents),(89,vI (zn a29.Parents)),(90,vI s31.2.1),(91,vB true),(92,.fz [vI a34]),(93,vI a34),(12,vI a34),(94,vI a34),(95,vI s31.1),(96,vB false),(97,vB false),(98,vI a34),(99,.ptr 1 0 0),(100,.ptr 1 0 1),(101,eL false eTapi_Node p0.Nodes),(102,vI (zn p0.Nodes)),(103,vB false),(104,vB false),(105,vB false),(106,vI a34),(107,vI s26.1),(108,vB false),(109,vB false),(111,vI a34),(112,.ptr 1 0 3),(113,.ref 4 0 n44),(114,vI s26.1),(115,.ptr 4 (zt s26.1) 0),(116,.int .u64 a42),(117,vI a34),(118,.int .u64 (Qh0 a34)),(119,.int .u64 (zv (zb a42 ||| zb (Qh0 a34)).toNat)),(120,.ptr 4 (zt s26.1) 0)],[o54_55,oX false false 5 (.agg [vI p0.Grain,eL false eTapi_Node p0.Nodes,.ref 3 0 x23.2.length,.ref 4 0 n44,.nils]),(o54_57 a29),oR true 1 eI x23.2,oR true 1 (AV.int .u64) (List.set s31.2.2 (zt s26.1) (zv (zb a42 ||| zb (Qh0 a34)).toNat))],140⟩) (ls s31.2.2 (zt s26.1) (zv (zb a42 ||| zb (Qh0 a34)).toNat)) <| hnx 2 (wz [0,1,2,3,4])
    refine hdx 1 (wz [0,1,2,3,4])
   ·refine hdn 0
   refine hcl 2 [F eI x23.2,F (AV.int .u64) x47] (us:=[.agg [vI p0.Grain,eL false eTapi_Node p0.Nodes,z1 x23.2,eL true (AV.int .u64) x47,.nils],.agg [vI a29.Card,z1 a29.Parents,z2 a29.Rows]]) (rv:=fun x48=>vB x48) (ro:=fun x48=>[]) (fun x48 q49=>Zd.args [[.keep,.keep,.keep,.keep,.lst true],[.keep,.keep,.keep]] (Qgm (Qw.mk p0 x23.2 x47 []) a29 x48 q49)) fun x48 _=>hbr 1 [125] (hdx 4 (wz [0])) <| ?_
   refine hnx 3 (wz [0,1,3,4])
  refine hdx 1 (wz [0,1,2,3])
 ·refine hrt 0
 refine hcl 2 [F (AV.int .u64) x54] (Qom x54) fun x55 _=>hbr 7 [135] (hrt 5) <| ?_
 refine hwk 7 (wl [2,3] [0,2,3,4]) <| hwk 0 (won 0 0 [F eI x23.2,F (AV.int .u64) x54,F eI x55.1]) <| hrt 1
theorem g_cmp_isNaN_int_ok (p0:Int):Ct Try.prog 138 [vI p0] (K7 p0) (fun x=>vB x) (fun x=>[]):=by
 refine hfn [] Try.func138 <| hrt 6
theorem g_cmp_Less_int_ok (p0:Int) (p1:Int):Ct Try.prog 133 [vI p0,vI p1] (Qaz p0 p1) (fun x=>vB x) (fun x=>[]):=by
 refine hfn [] Try.func133 <| hcl 2 [] (g_cmp_isNaN_int_ok p0) fun x1 _=>hbr 1 [6,7] (?_) ?_
 ·refine hcl 1 [] (g_cmp_isNaN_int_ok p1) fun x5 _=>hbr 3 [10,11,12] (hrt 6) <| ?_
  refine hrt 6
 refine hrt 11
theorem g_slices_isNaN_int_ok (p0:Int):Ct Try.prog 134 [vI p0] (Ju p0) (fun x=>vB x) (fun x=>[]):=by
 refine hfn [] Try.func134 <| hrt 6
theorem g_slices_BinarySearch_int_int_ok (p0:(List Int)) (p1:Int):Ct Try.prog 130 [z1 p0,vI p1] (Xq p0 p1) (fun x=>.tup [vI x.1,vB x.2]) (fun x=>[]):=by
 refine hfn [] Try.func130 <| hop 3 (fun _=>Qj (enc:=eI) (l:=p0) (fl:=true) kr gE) <| hlp 4 (fun s1=>⟨[(0,z1 p0),(1,vI p1),(6,vI (zn p0)),(7,vI s1.1),(8,vI s1.2)],[],54⟩) (fun v=>(.exit 0,⟨[(0,z1 p0),(1,vI p1),(6,vI (zn p0)),(7,vI v)],[],54⟩)) (wz []) (fun s1=>?_) fun x11=>?_
 ·refine hbr 3 [15] (?_) ?_
  ·refine hbd fun a4 q5=>hop 10 (fun _=>Ql (enc:=eI) (l:=p0) (n:=zw (Int.fdiv (zv (zw (s1.1+s1.2))) (2^min (zt 1) (IntKind.bits .u64)))) (fl:=true) (w:=1) (a:=a4) kr kr gE q5) <| hcl 2 [] (g_cmp_Less_int_ok a4 p1) fun x6 _=>hbr 0 [27] (hnx 4 (wz [])) <| ?_
   refine hnx 3 (wz [])
  refine hdx 1 (wz [])
 refine hbr 5 [34,35] (?_) ?_
 ·refine hbd fun a14 q15=>hop 2 (fun _=>Ql (enc:=eI) (l:=p0) (n:=x11) (fl:=true) (w:=1) (a:=a14) kr kr gE q15) <| hbr 4 [41,42] (hrt 14) <| ?_
  refine hop 2 (fun _=>Ql (enc:=eI) (l:=p0) (n:=x11) (fl:=true) (w:=1) (a:=a14) kr kr gE q15) <| hcl 1 [] (g_slices_isNaN_int_ok a14) fun x18 _=>hbr 1 [47,48] (hcl 1 [] (g_slices_isNaN_int_ok p1) fun x22 _=>hrt 6) <| ?_
  refine hrt 8
 refine hrt 21
end
end Go.Ab
