/- What functions compute. No conditions. -/
import Derived.Test.YtcbhkobklhkiiaaDoorProg
import Derived.Test.YtcbhkobklhkiiaaDoorW9
import Derived.KernelRfl
import Derived.Test.YtcbhkobklhkiiaaDoorW10
import Derived.Test.YtcbhkobklhkiiaaDoorW11
import Derived.Test.YtcbhkobklhkiiaaDoorEng7
import Derived.IntWalk
set_option linter.all false
namespace Go.Ab
open Go Go.Proofs
set_option maxRecDepth 100000
set_option maxHeartbeats 4000000
noncomputable abbrev Qg9 (a1 a8 x6:Int):Int:=(zv (zb (zv (zb a1 &&& ~~~ zb a8).toNat) &&& ~~~ zb (zv ((zv (1*2^min (zt (zw (x6+1))) (IntKind.bits .u64))) - 1))).toNat)
noncomputable abbrev i45_72 (a15 x13:Int):Int:=(zv (zb a15 ||| zb (zv (1*2^min (zt x13) (IntKind.bits .u64)))).toNat)
noncomputable abbrev i45_73 (a17 x6:Int):Int:=(zv (zb a17 ||| zb (zv (1*2^min (zt x6) (IntKind.bits .u64)))).toNat)
noncomputable abbrev Qqj (m2:(List Int)) (m1:Int):AObj:=oX false false 2 (.agg [.ref 1 0 m2.length,.int .u64 m1])
noncomputable abbrev Qav:AObj:=oX false false 1 (.ptr 0 0 0)
noncomputable abbrev Xr (a1:Int):AObj:=oX true true 1 (.int .u64 a1)
noncomputable abbrev Qex (m0:Int):AObj:=.loop 71 [(1,vI m0),(2,.ptr 2 0 0),(5,.ptr 3 0 0),(6,.ptr 4 0 0),(18,.fn (.func 81) [] [.ptr 5 0 0])] [19] (cA Tryd.f79 [true,true,true,false,true,true]) (cB Tryd.f79 [true,true,true,false,true,true]) .ready none
noncomputable abbrev Qw2 (m0:Int):AObj:=.loop 71 [(1,vI m0),(2,.ptr 2 0 0),(5,.ptr 3 0 0),(6,.ptr 4 0 0),(18,.fn (.func 81) [] [.ptr 5 0 0])] [19] (cA Tryd.f79 [true,true,true,false,true,true]) (cB Tryd.f79 [true,true,true,false,true,true]) .busy none
noncomputable abbrev Qqp (x6:Int):AObj:=oX true true 1 (vI x6)
noncomputable abbrev Qwl (a1 a8 x6:Int):AObj:=oX true true 1 (.int .u64 (Qg9 a1 a8 x6))
noncomputable abbrev Qes:AObj:=.loop 71 [(2,.ptr 2 0 0),(5,.ptr 3 0 0),(7,.ptr 8 0 0),(35,.fn (.func 81) [] [.ptr 9 0 0])] [36] (cA Tryd.f79 [true,true,true,false,true,true,true,true,true,true]) (cB Tryd.f79 [true,true,true,false,true,true,true,true,true,true]) .ready none
noncomputable abbrev Qrx:AObj:=.loop 71 [(2,.ptr 2 0 0),(5,.ptr 3 0 0),(7,.ptr 8 0 0),(35,.fn (.func 81) [] [.ptr 9 0 0])] [36] (cA Tryd.f79 [true,true,true,false,true,true,true,true,true,true]) (cB Tryd.f79 [true,true,true,false,true,true,true,true,true,true]) .busy none
noncomputable abbrev Qrf (s10:(Int × (List Int) × (List (Int × Int)))) (x6 x13:Int):AObj:=oR true 2 (fun x:(Int × Int)=>AV.agg [vI x.1,vI x.2]) (s10.2.2++([(x6,x13)]:(List (Int × Int))))
noncomputable abbrev Qmj (x24:((List Int) × (List (Int × Int)))):AObj:=oR true 2 (fun x:(Int × Int)=>AV.agg [vI x.1,vI x.2]) x24.2
noncomputable abbrev Qgw (x25:(Int × (List Int))):AObj:=oX false false 2 (.agg [.ref 1 0 x25.2.length,.int .u64 x25.1])
noncomputable abbrev Qe4:Nat×AV:=(2,.ptr 2 0 0)
noncomputable abbrev Qe2:Nat×AV:=(5,.ptr 3 0 0)
noncomputable abbrev Qxc:Nat×AV:=(18,.fn (.func 81) [] [.ptr 5 0 0])
noncomputable abbrev Qgx:Nat×AV:=(35,.fn (.func 81) [] [.ptr 9 0 0])
noncomputable abbrev l45_90 (w0 w1 w2 w3:AObj) (a1 m0 x6 a8:Int):List AObj:=[w0,w1,Qav,w2,(Xr a1),(Xr a1),(Qw2 m0),w3,(Qqp x6),(Qwl a1 a8 x6)]
noncomputable abbrev Qj2 (m2:(List Int)) (m1 a1:Int):List AObj:=[(Qqj m2 m1),oR true 1 (AV.int .u64) m2,Qav,oX true false 1 (.nils),(Xr a1)]
noncomputable abbrev Qwr (x24:((List Int) × (List (Int × Int)))) (m1 a1:Int):List AObj:=[oX false false 2 (.agg [.ref 1 0 x24.1.length,.int .u64 m1]),oR true 1 (AV.int .u64) x24.1,Qav,oX false false 1 (.ref 7 0 x24.2.length),(Xr a1),(Xr a1),.dead,(Qmj x24)]
noncomputable abbrev s45_93 (a0:Nat×AV) (x13:Int) (s10:(Int × (List Int) × (List (Int × Int)))) (x6 a15:Int):List (Nat×AV):=[Qe4,Qe2,(7,.ptr 8 0 0),Qgx,(36,vI x13),(8,vI x13),(37,.ref 11 0 s10.2.2.length),(38,vI x6),(39,vI x13),(40,.agg [vI x6,vI x13]),(41,.ref 12 0 1),(42,.ref 13 0 ((s10.2.2++([(x6,x13)]:(List (Int × Int)))).length)),(43,.ptr 0 0 0),(44,.ptr 0 0 0),(45,.ptr 0 0 0),(46,.ptr 0 0 0),a0,(48,vI x6),(49,.ptr 1 (zt x6) 0),(50,.int .u64 a15),(51,vI x13),(52,.int .u64 (zv (1*2^min (zt x13) (IntKind.bits .u64)))),(53,.int .u64 (i45_72 a15 x13)),(54,.ptr 1 (zt x6) 0)]
noncomputable abbrev Qeu (m0:Int):List (Nat×AV):=[(1,vI m0),Qe4,Qe2,(6,.ptr 4 0 0),Qxc]
theorem Qco:Qac Tryd.prog 2 (Tryd.f79.body.getD .skip) (fun s:(Int × Int × (List Int))=>⟨[(0,.ptr 0 0 0),(1,vI s.1)],[oX false false 2 (.agg [.ref 1 0 s.2.2.length,.int .u64 s.2.1]),oR true 1 (AV.int .u64) s.2.2],71⟩) (fun v:((List (Int × Int)) × Int × (List Int))=>⟨[(4,eL true (fun x:(Int × Int)=>AV.agg [vI x.1,vI x.2]) v.1)],[oX false false 2 (.agg [.ref 1 0 v.2.2.length,.int .u64 v.2.1]),oR true 1 (AV.int .u64) v.2.2],71⟩) (fun s=>Zr s.1 s.2.1 s.2.2):=by
 rintro ⟨m0,m1,m2⟩ x h
 change Zr m0 m1 m2=some x at h
 unfold Zr at h
 refine Qok ?_
 refine K2 (base':=2) (st':=⟨[(0,.ptr 0 0 0),(1,vI m0)],[(Qqj m2 m1),oR true 1 (AV.int .u64) m2],71⟩) kr kr ?_
 refine Xg (Jz ?_)
 refine sgL false [] [] false gE ?_
 refine sz 1 2 (V2 rfl (Xg (Jz ?_)))
 refine sgL false [] [] false gE ?_
 refine V2 rfl (Xg (Jz (sz 6 6 ?_)))
 refine K7 h (fun a1 q2 h=>?_)
 refine Qq (enc:=(AV.int .u64)) (l:=m2) (n:=m0) (w:=1) (ob:=1) (ro:=false) (nr:=true) (fl:=true) (a:=a1) kr kr gE q2 ?_
 refine Za (enc:=(AV.int .u64)) (l:=m2) (n:=m0) (w:=1) (ob:=1) (c:=0) (bx:=false) (ro:=false) (nr:=true) (fl:=true) (a:=a1) kr kr q2 gE ?_
 refine sz 2 10 (V2 rfl (Xg (Xg (Jz (sz 1 1 ?_)))))
 refine Qvj (f:=73) (fn:=Tryd.f73) (as0:=[.int .u64 a1]) kr Tryd.func73 rfl (by decide +kernel) rfl ?_
 refine K2 (base':=5) (st':=⟨[(0,.int .u64 a1)],(Qj2 m2 m1 a1),4⟩) kr kr ?_
 refine sq (sq (wg [2] [5] ?_))
 refine Qjv ?_
 refine ⟨⟨[(0,.ptr 0 0 0),(1,vI m0),Qe4,(4,.nils),Qe2,(9,.ptr 0 0 0),(10,.ptr 0 0 0),(11,.ptr 0 0 0),(12,.ptr 0 0 0),(13,.ref 1 0 m2.length),(14,vI m0),(15,.ptr 1 (zt m0) 0),(16,.int .u64 a1),(6,.ptr 4 0 0),(17,.int .u64 a1),Qxc],(Qj2 m2 m1 a1)++[(Xr a1)],71⟩,by kernel_rfl,?_⟩
 refine V2 rfl (Y5 ?_)
 refine wgc [1,2,5,6,18] [2,3,4,5] ⟨(Qeu m0),(Qj2 m2 m1 a1)++[(Xr a1)],71⟩ ?_
 refine Qih (f:=81) (fn:=Tryd.f81) (first:=[]) (caps:=[.ptr 5 0 0]) rfl Tryd.func81 rfl (by decide +kernel) rfl rfl ?_
 refine K2 (base':=7) (st':=⟨[(0,.yld 6),(1,.ptr 5 0 0)],(Qj2 m2 m1 a1)++[(Xr a1),(Qex m0)],16⟩) kr kr ?_
 refine sq (Y5 ?_)
 refine wwh h (fun s3=>⟨[(0,.yld 6),(3,.int .u64 s3.1)],[oX false false 2 (.agg [.ref 1 0 s3.2.1.length,.int .u64 m1]),oR true 1 (AV.int .u64) s3.2.1,Qav,oX false false 1 (.ref 7 0 s3.2.2.length),(Xr a1),(Xr a1),(Qex m0),oR true 2 (fun x:(Int × Int)=>AV.agg [vI x.1,vI x.2]) s3.2.2],16⟩) (fun v out=>out=.go (.exit 0) ⟨[],[oX false false 2 (.agg [.ref 1 0 v.1.length,.int .u64 m1]),oR true 1 (AV.int .u64) v.1,Qav,oX false false 1 (.ref 7 0 v.2.length),(Xr a1),(Xr a1),(Qex m0),oR true 2 (fun x:(Int × Int)=>AV.agg [vI x.1,vI x.2]) v.2],16⟩) (wk_trans (wk_gc (live:=[0,3]) (keep:=[]) (st':=⟨[(0,.yld 6),(3,.int .u64 a1)],(Qj2 m2 m1 a1)++[(Xr a1),(Qex m0)],16⟩) kr) (wk_trans (Q5 3 0 0 2 true true (st':=⟨[(0,.yld 6),(3,.int .u64 a1)],[(Qqj m2 m1),oR true 1 (AV.int .u64) m2,Qav,oX false false 1 (.ref 7 0 0),(Xr a1),(Xr a1),(Qex m0),.row false false true true 2 []],16⟩) kr) (wk_gc (live:=[0,3]) (keep:=[7]) kr))) ?_ ?_
 ·intro s3 o h
  unfold Ze at h
  refine Xg (sq ?_)
  refine wb [6] h (fun q5 h=>?_) (fun q5 h=>?_)
  ·refine wcT (Qcx (Xg (Y5 (Xg (Jz (sz 2 2 ?_))))))
   refine Quh Qlo (Q8 s3.1) h (fun x6 _ h=>?_)
   refine Qv5 (l:=6) (nt:=71) (us:=[vI x6]) (sl:=[(1,vI m0),(2,.ptr 2 0 0),(5,.ptr 3 0 0),(6,.ptr 4 0 0),(18,.fn (.func 81) [] [.ptr 5 0 0])]) (ps:=[19]) (assign:=cA Tryd.f79 [true,true,true,false,true,true]) (body:=cB Tryd.f79 [true,true,true,false,true,true]) (pe:=none) kr kr rfl ?_
   refine K2 (base':=8) (st':=⟨(Qeu m0)++[(19,vI x6)],[oX false false 2 (.agg [.ref 1 0 s3.2.1.length,.int .u64 m1]),oR true 1 (AV.int .u64) s3.2.1,Qav,oX false false 1 (.ref 7 0 s3.2.2.length),(Xr a1),(Xr a1),(Qex m0),oR true 2 (fun x:(Int × Int)=>AV.agg [vI x.1,vI x.2]) s3.2.2],71⟩) kr kr ?_
   refine rn ?_
   refine ⟨⟨(Qeu m0)++[(19,vI x6),(7,.ptr 8 0 0)],[oX false false 2 (.agg [.ref 1 0 s3.2.1.length,.int .u64 m1]),oR true 1 (AV.int .u64) s3.2.1,Qav,oX false false 1 (.ref 7 0 s3.2.2.length),(Xr a1),(Xr a1),(Qw2 m0),oR true 2 (fun x:(Int × Int)=>AV.agg [vI x.1,vI x.2]) s3.2.2,(Qqp x6)],71⟩,by kernel_rfl,?_⟩
   refine Y5 (Xg (rga Qof (sy 7 7 ?_)))
   refine K7 h (fun a8 q9 h=>?_)
   refine Qq (enc:=(AV.int .u64)) (l:=s3.2.1) (n:=x6) (w:=1) (ob:=1) (ro:=false) (nr:=true) (fl:=true) (a:=a8) kr kr gE q9 ?_
   refine Za (enc:=(AV.int .u64)) (l:=s3.2.1) (n:=x6) (w:=1) (ob:=1) (c:=0) (bx:=false) (ro:=false) (nr:=true) (fl:=true) (a:=a8) kr kr q9 gE ?_
   refine sy 3 12 ?_
   refine Yo (k:=.u64) (k':=.i64) (a:=1) (b:=zw (x6+1)) kr gE h (fun h=>?_)
   refine sy 2 15 ?_
   refine Q31 (f:=73) (fn:=Tryd.f73) (as0:=[.int .u64 (Qg9 a1 a8 x6)]) kr kr Tryd.func73 rfl (by decide +kernel) rfl ?_
   refine K2 (base':=9) (st':=⟨[(0,.int .u64 (Qg9 a1 a8 x6))],[.dead,.dead,.dead,.dead,.dead,.dead,.dead,.dead,.dead],4⟩) kr kr ?_
   refine sq (sq (wg [2] [9] ?_))
   refine Qjv ?_
   refine ⟨⟨(Qeu m0)++[(19,vI x6),(7,.ptr 8 0 0),(20,.int .u64 a1),(21,.ptr 0 0 0),(22,.ptr 0 0 0),(23,.ptr 0 0 0),(24,.ptr 0 0 0),(25,.ref 1 0 s3.2.1.length),(26,vI x6),(27,.ptr 1 (zt x6) 0),(28,.int .u64 a8),(29,.int .u64 (zv (zb a1 &&& ~~~ zb a8).toNat)),(30,vI x6),(31,vI (zw (x6+1))),(32,.int .u64 (zv (1*2^min (zt (zw (x6+1))) (IntKind.bits .u64)))),(33,.int .u64 (zv ((zv (1*2^min (zt (zw (x6+1))) (IntKind.bits .u64))) - 1))),(34,.int .u64 (Qg9 a1 a8 x6)),Qgx],(l45_90 (oX false false 2 (.agg [.ref 1 0 s3.2.1.length,.int .u64 m1])) (oR true 1 (AV.int .u64) s3.2.1) (oX false false 1 (.ref 7 0 s3.2.2.length)) (oR true 2 (fun x:(Int × Int)=>AV.agg [vI x.1,vI x.2]) s3.2.2) a1 m0 x6 a8),71⟩,by kernel_rfl,?_⟩
   refine rgd (Y5 ?_)
   refine wgc [2,5,7,35] [8,9] ⟨[Qe4,Qe2,(7,.ptr 8 0 0),Qgx],(l45_90 (oX false false 2 (.agg [.ref 1 0 s3.2.1.length,.int .u64 m1])) (oR true 1 (AV.int .u64) s3.2.1) (oX false false 1 (.ref 7 0 s3.2.2.length)) (oR true 2 (fun x:(Int × Int)=>AV.agg [vI x.1,vI x.2]) s3.2.2) a1 m0 x6 a8),71⟩ ?_
   refine Qih (f:=81) (fn:=Tryd.f81) (first:=[]) (caps:=[.ptr 9 0 0]) rfl Tryd.func81 rfl (by decide +kernel) rfl rfl ?_
   refine K2 (base':=11) (st':=⟨[(0,.yld 10),(1,.ptr 9 0 0)],(l45_90 (oX false false 2 (.agg [.ref 1 0 s3.2.1.length,.int .u64 m1])) (oR true 1 (AV.int .u64) s3.2.1) (oX false false 1 (.ref 7 0 s3.2.2.length)) (oR true 2 (fun x:(Int × Int)=>AV.agg [vI x.1,vI x.2]) s3.2.2) a1 m0 x6 a8)++[Qes],16⟩) kr kr ?_
   refine sq (Y5 ?_)
   refine wwh h (fun s10=>⟨[(0,.yld 10),(3,.int .u64 s10.1)],(l45_90 (oX false false 2 (.agg [.ref 1 0 s10.2.1.length,.int .u64 m1])) (oR true 1 (AV.int .u64) s10.2.1) (oX false false 1 (.ref 11 0 s10.2.2.length)) .dead a1 m0 x6 a8)++[Qes,oR true 2 (fun x:(Int × Int)=>AV.agg [vI x.1,vI x.2]) s10.2.2],16⟩) (fun v out=>out=.go (.exit 0) ⟨[],(l45_90 (oX false false 2 (.agg [.ref 1 0 v.1.length,.int .u64 m1])) (oR true 1 (AV.int .u64) v.1) (oX false false 1 (.ref 11 0 v.2.length)) .dead a1 m0 x6 a8)++[Qes,oR true 2 (fun x:(Int × Int)=>AV.agg [vI x.1,vI x.2]) v.2],16⟩) (wk_trans (wk_gc (live:=[0,3]) (keep:=[]) (st':=⟨[(0,.yld 10),(3,.int .u64 (Qg9 a1 a8 x6))],(l45_90 (oX false false 2 (.agg [.ref 1 0 s3.2.1.length,.int .u64 m1])) (oR true 1 (AV.int .u64) s3.2.1) (oX false false 1 (.ref 7 0 s3.2.2.length)) (oR true 2 (fun x:(Int × Int)=>AV.agg [vI x.1,vI x.2]) s3.2.2) a1 m0 x6 a8)++[Qes],16⟩) kr) (wk_trans (Q3g 7 (st':=⟨[(0,.yld 10),(3,.int .u64 (Qg9 a1 a8 x6))],(l45_90 (oX false false 2 (.agg [.ref 1 0 s3.2.1.length,.int .u64 m1])) (oR true 1 (AV.int .u64) s3.2.1) (oX false false 1 (.ref 11 0 s3.2.2.length)) .dead a1 m0 x6 a8)++[Qes,oR true 2 (fun x:(Int × Int)=>AV.agg [vI x.1,vI x.2]) s3.2.2],16⟩) kr kr kr kr) (wk_gc (live:=[0,3]) (keep:=[11]) kr))) ?_ ?_
   ·intro s10 o h
    unfold Zd at h
    refine Xg (sq ?_)
    refine wb [6] h (fun q12 h=>?_) (fun q12 h=>?_)
    ·refine wcT (Qcx (Xg (Y5 (Xg (Jz (sz 2 2 ?_))))))
     refine Quh Qlo (Q8 s10.1) h (fun x13 _ h=>?_)
     refine Qv5 (l:=10) (nt:=71) (us:=[vI x13]) (sl:=[(2,.ptr 2 0 0),(5,.ptr 3 0 0),(7,.ptr 8 0 0),(35,.fn (.func 81) [] [.ptr 9 0 0])]) (ps:=[36]) (assign:=cA Tryd.f79 [true,true,true,false,true,true,true,true,true,true]) (body:=cB Tryd.f79 [true,true,true,false,true,true,true,true,true,true]) (pe:=none) kr kr rfl ?_
     refine K2 (base':=12) (st':=⟨[Qe4,Qe2,(7,.ptr 8 0 0),Qgx,(36,vI x13)],(l45_90 (oX false false 2 (.agg [.ref 1 0 s10.2.1.length,.int .u64 m1])) (oR true 1 (AV.int .u64) s10.2.1) (oX false false 1 (.ref 11 0 s10.2.2.length)) .dead a1 m0 x6 a8)++[Qes,oR true 2 (fun x:(Int × Int)=>AV.agg [vI x.1,vI x.2]) s10.2.2],71⟩) kr kr ?_
     refine rn ?_
     refine ⟨⟨[Qe4,Qe2,(7,.ptr 8 0 0),Qgx,(36,vI x13),(8,vI x13)],(l45_90 (oX false false 2 (.agg [.ref 1 0 s10.2.1.length,.int .u64 m1])) (oR true 1 (AV.int .u64) s10.2.1) (oX false false 1 (.ref 11 0 s10.2.2.length)) .dead a1 m0 x6 a8)++[Qrx,oR true 2 (fun x:(Int × Int)=>AV.agg [vI x.1,vI x.2]) s10.2.2],71⟩,by kernel_rfl,?_⟩
     refine Y5 (Xg (Jz (sz 4 4 ?_)))
     refine sgL false [] [] true gE ?_
     refine Xc (enc:=(fun x:(Int × Int)=>AV.agg [vI x.1,vI x.2])) (l:=s10.2.2) (m:=([(x6,x13)]:(List (Int × Int)))) (w:=2) (bytes:=16) (ob:=11) (nr:=true) (fl:=true) (nr':=true) (fl':=true) (b:=.ref 12 0 1) (rds:=[12]) false kr kr kr rfl gE kr h (fun h=>?_)
     refine sz 1 7 (V2 rfl (Xg (rga Qof (sy 6 6 ?_))))
     refine K7 h (fun a15 q16 h=>?_)
     refine Qq (enc:=(AV.int .u64)) (l:=s10.2.1) (n:=x6) (w:=1) (ob:=1) (ro:=false) (nr:=true) (fl:=true) (a:=a15) kr kr gE q16 ?_
     refine Za (enc:=(AV.int .u64)) (l:=s10.2.1) (n:=x6) (w:=1) (ob:=1) (c:=0) (bx:=false) (ro:=false) (nr:=true) (fl:=true) (a:=a15) kr kr q16 gE ?_
     refine sy 1 9 ?_
     refine Yo (k:=.u64) (k':=.i64) (a:=1) (b:=x13) kr gE h (fun h=>?_)
     refine sy 1 11 ?_
     refine Qq (enc:=(AV.int .u64)) (l:=s10.2.1) (n:=x6) (w:=1) (ob:=1) (ro:=false) (nr:=true) (fl:=true) (a:=a15) kr kr gE q16 ?_
     refine Ys (enc:=(AV.int .u64)) (l:=s10.2.1) (n:=x6) (ob:=1) (w:=1) (bx:=false) (nr:=true) (fl:=true) (c:=0) (a:=a15) (a':=zv (zb a15 ||| zb (zv (1*2^min (zt x13) (IntKind.bits .u64)))).toNat) (v:=.int .u64 (i45_72 a15 x13)) false kr kr q16 kr rfl kr gE kr ?_
     refine Qvm (n:=s10.2.1.length) (m:=(List.set s10.2.1 (zt x6) (i45_72 a15 x13)).length) (S:=fun n20=>⟨(s45_93 (47,.ref 1 0 n20) x13 s10 x6 a15),(l45_90 (oX false false 2 (.agg [.ref 1 0 n20,.int .u64 m1])) (oR true 1 (AV.int .u64) (List.set s10.2.1 (zt x6) (i45_72 a15 x13))) (oX false false 1 (.ref 13 0 ((s10.2.2++([(x6,x13)]:(List (Int × Int)))).length))) .dead a1 m0 x6 a8)++[Qrx,.dead,.row false false true true 2 [.agg [vI x6,vI x13]],(Qrf s10 x6 x13)],71⟩) (by simp only [List.length_set]) ?_
     refine rgd (rga Qof (sy 6 6 ?_))
     refine K7 h (fun a17 q18 h=>?_)
     refine Qq (enc:=(AV.int .u64)) (l:=(List.set s10.2.1 (zt x6) (i45_72 a15 x13))) (n:=x13) (w:=1) (ob:=1) (ro:=false) (nr:=true) (fl:=true) (a:=a17) kr kr gE q18 ?_
     refine Za (enc:=(AV.int .u64)) (l:=(List.set s10.2.1 (zt x6) (i45_72 a15 x13))) (n:=x13) (w:=1) (ob:=1) (c:=0) (bx:=false) (ro:=false) (nr:=true) (fl:=true) (a:=a17) kr kr q18 gE ?_
     refine sy 1 9 ?_
     refine Yo (k:=.u64) (k':=.i64) (a:=1) (b:=x6) kr gE h (fun h=>?_)
     refine sy 1 11 ?_
     refine Qq (enc:=(AV.int .u64)) (l:=(List.set s10.2.1 (zt x6) (i45_72 a15 x13))) (n:=x13) (w:=1) (ob:=1) (ro:=false) (nr:=true) (fl:=true) (a:=a17) kr kr gE q18 ?_
     refine Ys (enc:=(AV.int .u64)) (l:=(List.set s10.2.1 (zt x6) (i45_72 a15 x13))) (n:=x13) (ob:=1) (w:=1) (bx:=false) (nr:=true) (fl:=true) (c:=0) (a:=a17) (a':=zv (zb a17 ||| zb (zv (1*2^min (zt x6) (IntKind.bits .u64)))).toNat) (v:=.int .u64 (i45_73 a17 x6)) false kr kr q18 kr rfl kr gE kr ?_
     refine Qvm (n:=(List.set s10.2.1 (zt x6) (i45_72 a15 x13)).length) (m:=(List.set (List.set s10.2.1 (zt x6) (i45_72 a15 x13)) (zt x13) (i45_73 a17 x6)).length) (S:=fun n19=>⟨(s45_93 (47,.ref 1 0 n19) x13 s10 x6 a15)++[(55,.ptr 0 0 0),(56,.ptr 0 0 0),(57,.ptr 0 0 0),(58,.ptr 0 0 0),(59,.ref 1 0 n19),(60,vI x13),(61,.ptr 1 (zt x13) 0),(62,.int .u64 a17),(63,vI x6),(64,.int .u64 (zv (1*2^min (zt x6) (IntKind.bits .u64)))),(65,.int .u64 (i45_73 a17 x6)),(66,.ptr 1 (zt x13) 0)],(l45_90 (oX false false 2 (.agg [.ref 1 0 n19,.int .u64 m1])) (oR true 1 (AV.int .u64) (List.set (List.set s10.2.1 (zt x6) (i45_72 a15 x13)) (zt x13) (i45_73 a17 x6))) (oX false false 1 (.ref 13 0 ((s10.2.2++([(x6,x13)]:(List (Int × Int)))).length))) .dead a1 m0 x6 a8)++[Qrx,.dead,.row false false true true 2 [.agg [vI x6,vI x13]],(Qrf s10 x6 x13)],71⟩) (by simp only [List.length_set]) ?_
     refine rgd ?_
     refine ⟨⟨[(0,.yld 10),(3,.int .u64 s10.1),(5,.int .u64 s10.1),(6,vB true),(11,.yld 10),(12,.int .u64 s10.1),(13,vI x13),(14,vB true)],(l45_90 (oX false false 2 (.agg [.ref 1 0 ((List.set (List.set s10.2.1 (zt x6) (i45_72 a15 x13)) (zt x13) (i45_73 a17 x6)).length),.int .u64 m1])) (oR true 1 (AV.int .u64) (List.set (List.set s10.2.1 (zt x6) (i45_72 a15 x13)) (zt x13) (i45_73 a17 x6))) (oX false false 1 (.ref 13 0 ((s10.2.2++([(x6,x13)]:(List (Int × Int)))).length))) .dead a1 m0 x6 a8)++[Qes,.dead,.row false false true true 2 [.agg [vI x6,vI x13]],(Qrf s10 x6 x13)],16⟩,by kernel_rfl,?_⟩
     refine sz 1 5 (V2 rfl (wcF (Qcx (rn ?_))))
     cases h
     exact ⟨_,rfl,(wk_gc (live:=[0,3]) (keep:=[13]) kr)⟩
    refine wcF (wg [] [11] ?_)
    refine Qk1 ?_
    cases h
    exact ⟨kr,rfl⟩
   intro x22 h out hx
   subst hx
   refine ⟨.go .normal ⟨[Qe4,Qe2,(7,.ptr 8 0 0),Qgx],(l45_90 (oX false false 2 (.agg [.ref 1 0 x22.1.length,.int .u64 m1])) (oR true 1 (AV.int .u64) x22.1) (oX false false 1 (.ref 11 0 x22.2.length)) .dead a1 m0 x6 a8)++[.dead,oR true 2 (fun x:(Int × Int)=>AV.agg [vI x.1,vI x.2]) x22.2],71⟩,by kernel_rfl,?_⟩
   refine ⟨⟨[(0,.yld 6),(3,.int .u64 s3.1),(5,.int .u64 s3.1),(6,vB true),(11,.yld 6),(12,.int .u64 s3.1),(13,vI x6),(14,vB true)],[oX false false 2 (.agg [.ref 1 0 x22.1.length,.int .u64 m1]),oR true 1 (AV.int .u64) x22.1,Qav,oX false false 1 (.ref 11 0 x22.2.length),(Xr a1),(Xr a1),(Qex m0),.dead,(Qqp x6),(Qwl a1 a8 x6),.dead,oR true 2 (fun x:(Int × Int)=>AV.agg [vI x.1,vI x.2]) x22.2],16⟩,by kernel_rfl,?_⟩
   refine sz 1 5 (V2 rfl (wcF (Qcx (rn ?_))))
   cases h
   exact ⟨_,rfl,(wk_gc (live:=[0,3]) (keep:=[11]) kr)⟩
  refine wcF (wg [] [7] ?_)
  refine Qk1 ?_
  cases h
  exact ⟨kr,rfl⟩
 intro x24 h out hx
 subst hx
 refine ⟨.go .normal ⟨(Qeu m0),(Qwr x24 m1 a1),71⟩,by kernel_rfl,?_⟩
 refine Xg (Jz ?_)
 refine sgz 2 2 (S:=⟨(Qeu m0)++[(67,.ptr 0 0 0),(68,vI m0)],(Qwr x24 m1 a1),71⟩) ?_
 refine Qun (f:=85) (fn:=Tryd.f85) (N:=2) (as0:=[.ptr 0 0 0,vI m0]) (m0,m1,x24.1) (fun v=>[(0,oX false false 2 (.agg [.ref 1 0 v.2.length,.int .u64 v.1])),(1,oR true 1 (AV.int .u64) v.2)]) (fun x25=>⟨(Qeu m0)++[(67,.ptr 0 0 0),(68,vI m0),(69,.tup [])],[(Qgw x25),oR true 1 (AV.int .u64) x25.2,Qav,oX false false 1 (.ref 7 0 x24.2.length),(Xr a1),(Xr a1),.dead,(Qmj x24)],71⟩) [0,1] kr Tryd.func85 rfl (by decide +kernel) rfl kr rfl kr kr (Qms kr) (fun _=>kr) (fun v=>Qms kr) kr (fun _=>kr) (fun _=>rfl) kr Qdr h (fun _=>kr) (fun x25 h=>?_)
 refine V2 rfl (sq ?_)
 refine wgc [4] [7] ⟨[(4,.ref 2 0 x24.2.length)],[(Qgw x25),oR true 1 (AV.int .u64) x25.2,(Qmj x24)],71⟩ ?_
 refine Qjv ?_
 cases h
 refine ⟨⟨[(4,eL true (fun x:(Int × Int)=>AV.agg [vI x.1,vI x.2]) x24.2)],[(Qgw x25),oR true 1 (AV.int .u64) x25.2],71⟩,(wk_trans (wk_gc (live:=[4]) (keep:=[2]) (st':=⟨[(4,.ref 2 0 x24.2.length)],[(Qgw x25),oR true 1 (AV.int .u64) x25.2,(Qmj x24)],71⟩) (by kernel_rfl)) (wk_trans (Q1m (st':=⟨[(4,eL true (fun x:(Int × Int)=>AV.agg [vI x.1,vI x.2]) x24.2)],[(Qgw x25),oR true 1 (AV.int .u64) x25.2,.row false true true true 2 (List.map (fun x:(Int × Int)=>AV.agg [vI x.1,vI x.2]) x24.2)],71⟩) 4 (x:=.ref 2 0 x24.2.length) (y:=eL true (fun x:(Int × Int)=>AV.agg [vI x.1,vI x.2]) x24.2) (ids:=[2]) rfl (Z0 (w:=2) (bx:=false) (ro:=false) (enc:=(fun x:(Int × Int)=>AV.agg [vI x.1,vI x.2])) (l:=x24.2) (fl:=true) kr) (by kernel_rfl)) (wk_gc (live:=[4]) (keep:=[]) (st':=⟨[(4,eL true (fun x:(Int × Int)=>AV.agg [vI x.1,vI x.2]) x24.2)],[(Qgw x25),oR true 1 (AV.int .u64) x25.2],71⟩) (by kernel_rfl)))),?_⟩
 exact .inl (by kernel_rfl)
section
attribute [local irreducible] RW WP
theorem Qob (p0:(List Int)) (p1:(List Int)):Ct Tryd.prog 56 [eL true (AV.int .u64) p0,z1 p1] (Qc4 p0 p1) (fun x=>.tup [.ref 0 0 x.1.length,vI x.2]) (fun x=>[oR true 2 (fun x:(Int × Int)=>AV.agg [vI x.1,vI x.2]) x.1]):=by
 refine hfn [] Tryd.func56 <| hil 3 Tryd.func77 <| hcl 3 [] (g_slices_Clone_uint_uint_ok p0) fun x1 _=>hop 2 (fun _=>Qv (enc:=(AV.int .u64)) (l:=p0) (fl:=true) kr gE) <| hoh 0 (fun _ _ h k=>Yo (k:=.u64) (k':=.i64) (a:=1) (b:=(zn p0)) kr gE h k) <| hop 2 (fun _=>sgL false [] [] false gE) <| hwk 1 (wl [2] [1,0]) <| hop 3 (fun _=>Qv (enc:=eI) (l:=p1) (fl:=true) kr gE) <| hlp 1 (fun s3=>⟨[(4,.ref 2 0 s3.2.2.2.2.length),(5,vI s3.1),(6,.ptr 0 0 0),(11,z1 p1),(12,vI (zn p1)),(13,vI s3.2.1)],[oX false false 2 (.agg [.ref 1 0 s3.2.2.2.1.length,.int .u64 s3.2.2.1]),oR true 1 (AV.int .u64) s3.2.2.2.1,oR true 2 (fun x:(Int × Int)=>AV.agg [vI x.1,vI x.2]) s3.2.2.2.2],30⟩) (fun v=>(.exit 0,⟨[(4,.ref 0 0 v.2.length),(5,vI v.1)],[oR true 2 (fun x:(Int × Int)=>AV.agg [vI x.1,vI x.2]) v.2],30⟩)) (wk_trans (wk_gc (live:=[4,5,6,11,12,13]) (keep:=[0,1]) gE) (wk_trans (Vb 4 2 true true gE) (wk_gc (live:=[4,5,6,11,12,13]) (keep:=[0,1,2]) kr))) (fun s3=>?_) fun x12=>?_
 ·refine hbr 1 [14] (?_) ?_
  ·refine hbd fun a6 q7=>hop 1 (fun _=>Q4 (enc:=eI) (l:=p1) (n:=s3.2.1) (fl:=true) (w:=1) (a:=a6) kr kr gE q7) <| hcl 5 [F (AV.int .u64) s3.2.2.2.1] (g_order_graph_degree_ok (Torder_graph.mk (Torder_neighbours.mk s3.2.2.2.1) s3.2.2.1) a6) fun x8 _=>hrm 5 2 (a6,s3.2.2.1,s3.2.2.2.1) (fun v=>[(0,oX false false 2 (.agg [.ref 1 0 v.2.2.length,.int .u64 v.2.1])),(1,oR true 1 (AV.int .u64) v.2.2)]) [0,1] Tryd.func79 (Qms kr) (fun v=>Qms kr) Qco rfl fun x10=>hoh 0 (fun _ _ h k=>Xc (enc:=(fun x:(Int × Int)=>AV.agg [vI x.1,vI x.2])) (l:=s3.2.2.2.2) (m:=x10.1) (w:=2) (bytes:=16) (ob:=2) (nr:=true) (fl:=true) (nr':=true) (fl':=true) (b:=eL true (fun x:(Int × Int)=>AV.agg [vI x.1,vI x.2]) x10.1) (rds:=[]) false kr kr (Qpm (fun _=>rfl)) kr gE kr h k) <| hnx 3 (wz [0,1,3])
  refine hdx 1 (wz [2])
 refine hrt 5
theorem Ql4 (p0:(List Int)) (p1:(List Int)):Ct Tryd.prog 33 [eL true (AV.int .u64) p0,z1 p1] (Qbc p0 p1) (fun x=>.tup [vI x.1,vI x.2]) (fun x=>[]):=by
 refine hfn [] Tryd.func33 <| hcl 4 [] (g_order_read_ok p0 p1) fun x1 _=>hbr 3 [13] (hrt 5) <| ?_
 refine hcl 3 [] (Qob p0 p1) fun x5 _=>hrt 9
noncomputable abbrev o48_95 (x9:(Qe × Int)):AObj:=oR true 1 (AV.int .u64) x9.1.Cliques
noncomputable abbrev Q25 (x9:(Qe × Int)):AObj:=oX false false 3 (.agg [.ref 1 0 x9.1.Cliques.length,.ref 2 0 x9.1.Up.length,.ref 3 0 x9.1.Home.length])
noncomputable abbrev l48_97 (x5:Qg) (x9:(Qe × Int)):List AObj:=[oX false false 2 (.agg [vI x5.Grain,.ref 3 0 x5.Nodes.length]),oX false false 3 (.agg [.ref 2 0 x9.1.Cliques.length,.ref 4 0 x9.1.Up.length,.ref 5 0 x9.1.Home.length]),(o48_95 x9),oR false 3 eTapi_Node x5.Nodes,oR true 1 eI x9.1.Up,oR true 1 eI x9.1.Home]
noncomputable abbrev l48_98 (x9:(Qe × Int)):List AObj:=[(Q25 x9),(o48_95 x9),oR true 1 eI x9.1.Up,oR true 1 eI x9.1.Home]
theorem g_law10_TreeStands_ok (p0:Qc) (p1:(Int × Int × Int × Int × Int × Int × Int × Int)):Ct Tryd.prog 9 [.agg [.int .u8 p0.Grain,eL false eTharuspexref05_Piece p0.Nodes,eL true (AV.int .u8) p0.Order],.agg [.int .u8 p1.1,.int .u8 p1.2.1,.int .u8 p1.2.2.1,.int .u8 p1.2.2.2.1,.int .u8 p1.2.2.2.2.1,.int .u8 p1.2.2.2.2.2.1,.int .u8 p1.2.2.2.2.2.2.1,.int .u8 p1.2.2.2.2.2.2.2]] (Ku p0 p1) (fun x=>vB x) (fun x=>[]):=by
 refine hfn [] Tryd.func9 <| hop 0 (fun _=>sgL false [] [] false gE) <| hcl 2 [] (g_law10_wakes_ok ) fun x1 _=>hbr 1 [25] (hrt 3) <| ?_
 refine hcl 2 [] (Qip p0) fun x5 _=>hop 0 (fun _=>sgL false [] [] false gE) <| hcl 5 [] (g_ref09_Turned_ok (zn x5.Nodes) (-1) (p1.1,p1.2.1,p1.2.2.1,p1.2.2.2.1,p1.2.2.2.2.1,p1.2.2.2.2.2.1,p1.2.2.2.2.2.2.1,p1.2.2.2.2.2.2.2)) fun x7 _=>hcl 3 [F eTapi_Node x5.Nodes,F eI x7] (g_tree_Make_ok x5 x7) fun x9 _=>hop 3 (fun _=>sgL false [] [] false gE) <| hcl 3 [F eTapi_Node x5.Nodes] (g_net_Moral_ok x5) fun x11 _=>hcl 7 [F (AV.int .u64) x11.1,F eI x7] (Ql4 x11.1 x7) fun x13 _=>hcl 7 [F eTapi_Node x5.Nodes,F (AV.int .u64) x9.1.Cliques,F eI x9.1.Up,F eI x9.1.Home] (g_tree_Width_ok x5 x9.1) fun x15 _=>hbr 8 [57,58] (hrt 58) <| ?_
 refine hbr 4 [60,61,62] (hrt 54) <| ?_
 refine hbr 4 [64,65,66] (hrt 50) <| ?_
 refine hbr 4 [68,69,70] (hrt 46) <| ?_
 refine hbr 5 [73,74,75] (hrt 41) <| ?_
 refine hcl 2 [F eTapi_Node x5.Nodes,F (AV.int .u64) x9.1.Cliques,F eI x9.1.Up,F eI x9.1.Home] (g_tree_Check_ok x5 x9.1) fun x27 _=>hbr 3 [79,80,81] (hrt 35) <| ?_
 refine hbr 6 [85,86,87] (hrt 29) <| ?_
 refine hbr 9 [94,95,96] (hrt 20) <| ?_
 refine hbr 9 [103,104,105] (hrt 11) <| ?_
 refine hbr 8 [112,113] (hrt 3) <| ?_
 refine hlp 5 (fun s39=>⟨[(5,.ptr 0 0 0),(7,.ptr 1 0 0),(115,.ref 2 0 x9.1.Cliques.length),(116,vI (zn x9.1.Cliques)),(117,vI s39)],(l48_97 x5 x9),227⟩) (fun x=>match x with | .inl v=>(.ret,⟨[(4,vB false)],[],227⟩) | .inr v=>(.exit 0,⟨[(5,.ptr 0 0 0),(7,.ptr 1 0 0)],[oX false false 2 (.agg [vI x5.Grain,.ref 2 0 x5.Nodes.length]),oX false false 3 (.agg [.ref 3 0 x9.1.Cliques.length,.ref 4 0 x9.1.Up.length,.ref 5 0 x9.1.Home.length]),oR false 3 eTapi_Node x5.Nodes,(o48_95 x9),oR true 1 eI x9.1.Up,oR true 1 eI x9.1.Home],227⟩)) (wz [3,8,5,2,6,7]) (fun s39=>?_) (hsm (fun x57=>?_) (fun x58=>?_))
 ·refine hbr 1 [118] (?_) ?_
  ·refine hbd fun a42 q43=>hop 2 (fun _=>Qq (enc:=(AV.int .u64)) (l:=x9.1.Cliques) (n:=s39) (w:=1) (ob:=2) (ro:=false) (nr:=true) (fl:=true) (a:=a42) kr kr gE q43) <| hop 0 (fun _=>Za (enc:=(AV.int .u64)) (l:=x9.1.Cliques) (n:=s39) (w:=1) (ob:=2) (c:=0) (bx:=false) (ro:=false) (nr:=true) (fl:=true) (a:=a42) kr kr q43 gE) <| hlp 6 (fun s44=>⟨[(5,.ptr 0 0 0),(7,.ptr 1 0 0),(15,vI s39),(16,.int .u64 a42),(115,.ref 2 0 x9.1.Cliques.length),(116,vI (zn x9.1.Cliques)),(117,vI s39),(123,.ref 2 0 x9.1.Cliques.length),(124,vI (zn x9.1.Cliques)),(125,vI s44)],(l48_97 x5 x9),227⟩) (fun x=>match x with | .inl v=>(.ret,⟨[(4,vB false)],[],227⟩) | .inr v=>(.exit 2,⟨[(5,.ptr 0 0 0),(7,.ptr 1 0 0),(115,.ref 2 0 x9.1.Cliques.length),(116,vI (zn x9.1.Cliques)),(117,vI s39)],(l48_97 x5 x9),227⟩)) (wz [0,1,2,3,4,5]) (fun s44=>?_) (hsm (fun x54=>?_) (fun x55=>?_))
   ·refine hbr 1 [126] (?_) ?_
    ·refine hbd fun a47 q48=>hop 2 (fun _=>Qq (enc:=(AV.int .u64)) (l:=x9.1.Cliques) (n:=s44) (w:=1) (ob:=2) (ro:=false) (nr:=true) (fl:=true) (a:=a47) kr kr gE q48) <| hop 0 (fun _=>Za (enc:=(AV.int .u64)) (l:=x9.1.Cliques) (n:=s44) (w:=1) (ob:=2) (c:=0) (bx:=false) (ro:=false) (nr:=true) (fl:=true) (a:=a47) kr kr q48 gE) <| hbr 6 [132,133] (?_) ?_
     ·refine hbr 5 [137,138] (hdx 2 (wz [])) <| ?_
      refine hnx 3 (wz [0,1,2,3,4,5])
     refine hnx 8 (wz [0,1,2,3,4,5])
    refine hdx 1 (wz [0,1,2,3,4,5])
   ·refine hdn 0
   refine hnx 2 (wz [0,1,2,3,4,5])
  refine hdx 1 (wz [0,1,3,2,4,5])
 ·refine hrt 0
 refine hlp 4 (fun s59=>⟨[(7,.ptr 0 0 0),(143,vI (zn x5.Nodes)),(144,vI s59)],(l48_98 x9),227⟩) (fun x=>match x with | .inl v=>(.ret,⟨[(4,vB false)],[],227⟩) | .inr v=>(.exit 4,⟨[],[],227⟩)) (wz [1,3,4,5]) (fun s59=>?_) (hsm (fun x97=>?_) (fun x98=>?_))
 ·refine hbr 1 [145] (?_) ?_
  ·refine hlp 8 (fun s62=>⟨[(7,.ptr 0 0 0),(19,vI s59),(20,vI s62.1),(143,vI (zn x5.Nodes)),(144,vI s59),(148,.ref 1 0 x9.1.Cliques.length),(149,vI (zn x9.1.Cliques)),(150,vI s62.2)],(l48_98 x9),227⟩) (fun x=>match x with | .inl v=>(.ret,⟨[(4,vB false)],[],227⟩) | .inr v=>(.exit 6,⟨[(7,.ptr 0 0 0),(19,vI s59),(20,vI v),(143,vI (zn x5.Nodes)),(144,vI s59)],(l48_98 x9),227⟩)) (wz [0,1,2,3]) (fun s62=>?_) (hsm (fun x82=>?_) (fun x83=>?_))
   ·refine hbr 1 [151] (?_) ?_
    ·refine hbd fun a65 q66=>hop 2 (fun _=>Qq (enc:=(AV.int .u64)) (l:=x9.1.Cliques) (n:=s62.2) (w:=1) (ob:=1) (ro:=false) (nr:=true) (fl:=true) (a:=a65) kr kr gE q66) <| hop 0 (fun _=>Za (enc:=(AV.int .u64)) (l:=x9.1.Cliques) (n:=s62.2) (w:=1) (ob:=1) (c:=0) (bx:=false) (ro:=false) (nr:=true) (fl:=true) (a:=a65) kr kr q66 gE) <| hoh 4 (fun _ _ h k=>Kz (k:=.u64) (k':=.i64) (a:=a65) (b:=s59) kr gE h k) <| hbr 2 [159] (hwk 1 (wl [7,19,20,143,144,148,149,150] [0,1,2,3]) <| hnx 3 (wz [0,1,2,3])) <| ?_
     refine hbd fun a69 q70=>hop 4 (fun _=>Qq (enc:=eI) (l:=x9.1.Up) (n:=s62.2) (w:=1) (ob:=2) (ro:=false) (nr:=true) (fl:=true) (a:=a69) kr kr gE q70) <| hop 0 (fun _=>Za (enc:=eI) (l:=x9.1.Up) (n:=s62.2) (w:=1) (ob:=2) (c:=0) (bx:=false) (ro:=false) (nr:=true) (fl:=true) (a:=a69) kr kr q70 gE) <| hbr 4 [166,167] (?_) ?_
     ·refine hbr 3 [169,170] (hdx 18 (wz [])) <| ?_
      refine hbr 5 [173,174,175] (hdx 13 (wz [])) <| ?_
      refine hbd fun a77 q78=>hop 3 (fun _=>Qq (enc:=(AV.int .u64)) (l:=x9.1.Cliques) (n:=a69) (w:=1) (ob:=1) (ro:=false) (nr:=true) (fl:=true) (a:=a77) kr kr gE q78) <| hop 0 (fun _=>Za (enc:=(AV.int .u64)) (l:=x9.1.Cliques) (n:=a69) (w:=1) (ob:=1) (c:=0) (bx:=false) (ro:=false) (nr:=true) (fl:=true) (a:=a77) kr kr q78 gE) <| hoh 1 (fun _ _ h k=>Kz (k:=.u64) (k':=.i64) (a:=a77) (b:=s59) kr gE h k) <| hbr 4 [184,185,186] (hdx 2 (wz [])) <| ?_
      refine hnx 6 (wz [0,1,2,3])
     refine hnx 25 (wz [0,1,2,3])
    refine hdx 1 (wz [0,1,2,3])
   ·refine hdn 0
   refine hbr 4 [191,192] (hdx 35 (wz [])) <| ?_
   refine hbd fun a86 q87=>hop 3 (fun _=>Qq (enc:=eI) (l:=x9.1.Home) (n:=s59) (w:=1) (ob:=3) (ro:=false) (nr:=true) (fl:=true) (a:=a86) kr kr gE q87) <| hop 0 (fun _=>Za (enc:=eI) (l:=x9.1.Home) (n:=s59) (w:=1) (ob:=3) (c:=0) (bx:=false) (ro:=false) (nr:=true) (fl:=true) (a:=a86) kr kr q87 gE) <| hbr 3 [198,199,200] (hdx 27 (wz [])) <| ?_
   refine hop 3 (fun _=>Qq (enc:=eI) (l:=x9.1.Home) (n:=s59) (w:=1) (ob:=3) (ro:=false) (nr:=true) (fl:=true) (a:=a86) kr kr gE q87) <| hop 0 (fun _=>Za (enc:=eI) (l:=x9.1.Home) (n:=s59) (w:=1) (ob:=3) (c:=0) (bx:=false) (ro:=false) (nr:=true) (fl:=true) (a:=a86) kr kr q87 gE) <| hbr 6 [209,210,211] (hdx 16 (wz [])) <| ?_
   refine hop 5 (fun _=>Qq (enc:=eI) (l:=x9.1.Home) (n:=s59) (w:=1) (ob:=3) (ro:=false) (nr:=true) (fl:=true) (a:=a86) kr kr gE q87) <| hop 0 (fun _=>Za (enc:=eI) (l:=x9.1.Home) (n:=s59) (w:=1) (ob:=3) (c:=0) (bx:=false) (ro:=false) (nr:=true) (fl:=true) (a:=a86) kr kr q87 gE) <| hbd fun a92 q93=>hop 0 (fun _=>Qq (enc:=(AV.int .u64)) (l:=x9.1.Cliques) (n:=a86) (w:=1) (ob:=1) (ro:=false) (nr:=true) (fl:=true) (a:=a92) kr kr gE q93) <| hop 0 (fun _=>Za (enc:=(AV.int .u64)) (l:=x9.1.Cliques) (n:=a86) (w:=1) (ob:=1) (c:=0) (bx:=false) (ro:=false) (nr:=true) (fl:=true) (a:=a92) kr kr q93 gE) <| hoh 1 (fun _ _ h k=>Kz (k:=.u64) (k':=.i64) (a:=a92) (b:=s59) kr gE h k) <| hbr 3 [224,225] (hdx 2 (wz [])) <| ?_
   refine hnx 3 (wz [0,1,2,3])
  refine hdx 1 (wz [])
 ·refine hrt 0
 refine hrt 2
end
end Go.Ab
namespace Go.Ab
open Go
theorem Qld {σ ρ:Type} {body:σ→Option (Ql σ ρ)} (I:σ→Prop) (m:σ→Nat) (Q:ρ→Prop)
  (step:∀s,I s→(∃s',body s=some (.next s')∧I s'∧m s' < m s)∨(∃r,body s=some (.done r)∧Q r)) :
  ∀(n:Nat) (s:σ),I s→m s < n→∃r,Qb n body s=some r∧Q r
 | 0,s,_,h=>by omega
 | n+1,s,hI,h=>by
  unfold Qb
  rcases step s hI with ⟨s',h1,h2,h3⟩ | ⟨r,h1,h2⟩
  ·rw [h1]
   exact Qld I m Q step n s' h2 (by omega)
  ·rw [h1]
   exact ⟨r,rfl,h2⟩
theorem V1 {σ ρ:Type} {body:σ→Option (Ql σ ρ)} (I:σ→Prop) (m:σ→Nat) (Q:ρ→Prop)
  (step:∀s,I s→(∃s',body s=some (.next s')∧I s'∧m s' < m s)∨(∃r,body s=some (.done r)∧Q r)) (s:σ) (hI:I s) (hm:m s < 1152921504606846976):∃r,Qb fuel body s=some r∧Q r :=
 Qld I m Q step fuel s hI hm
theorem Qrk {σ ρ:Type} {body:σ→Option (Ql σ ρ)} (f:Nat → σ) (n:Nat) (r:ρ) (step:∀k,k < n→body (f k)=some (.next (f (k+1)))) (done:body (f n)=some (.done r)) (hn:n < 1152921504606846976) :
  Qb fuel body (f 0)=some r:=by
 have key:∀(j N k:Nat),k+j=n→j < N→Qb N body (f k)=some r:=by
  intro j
  induction j with
  | zero =>
   intro N k hk hN
   obtain ⟨N,rfl⟩:∃M,N=M+1:=⟨N - 1,by omega⟩
   have:k=n:=by omega
   subst this
   simp [Qb,done]
  | succ j ih =>
   intro N k hk hN
   obtain ⟨N,rfl⟩:∃M,N=M+1:=⟨N - 1,by omega⟩
   simp only [Qb,step k (by omega)]
   exact ih N (k+1) (by omega) (by omega)
 exact key n fuel 0 (by omega) hn
theorem K9 {σ ρ:Type} {body:σ→Option (Ql σ ρ)} {s0:σ} (f:Nat → σ) (n:Nat) (r:ρ) (h0:f 0=s0) (step:∀k,k < n→body (f k)=some (.next (f (k+1)))) (done:body (f n)=some (.done r)) (hn:n < 1152921504606846976) :
  Qb fuel body s0=some r:=by rw [←h0]; exact Qrk f n r step done hn
theorem w64 {n:Int} (h:-9223372036854775808≤n∧n≤9223372036854775807):zw n=n:=by show IntKind.wrap .i64 n=n; rw [IntKind.wrap_i64]; omega
theorem Zm {α:Type} {l:List α} {k:Nat} (h:k < l.length):lkI l (k:Int)=some l[k]:=by
 unfold lkI
 rw [if_neg (by omega),Int.toNat_natCast,List.getElem?_eq_getElem h]
theorem Qyv {a b:Int} (h:0≤a):Int.tdiv a b=a / b:=Int.tdiv_eq_ediv_of_nonneg h
theorem Qbe {a b:Int} (h:0≤a):Int.tmod a b=a % b:=Int.tmod_eq_emod_of_nonneg h
end Go.Ab
namespace Go.Ab
open Go
set_option maxRecDepth 100000
set_option maxHeartbeats 400000
def msk:Nat → (Nat → Bool)→Nat
 | 0,_=>0
 | n+1,p=>msk n p ||| (if p n then 2^n else 0)
theorem Zl (n:Nat) (p:Nat → Bool) (i:Nat):(msk n p).testBit i=(decide (i < n) && p i):=by
 induction n with
 | zero=>simp [msk]
 | succ n ih =>
  unfold msk
  rw [Nat.testBit_or,ih]
  by_cases h:i=n
  ·subst h
   cases hp:p i <;> simp [hp]
  ·have e:decide (i < n+1)=decide (i < n):=by by_cases h2:i < n <;> simp [h2] <;> omega
   rw [e]
   cases hp:p n
   ·simp
   ·simp only [if_true,Nat.testBit_two_pow]
    have e2:¬ n=i:=fun e=>h e.symm
    simp [e2]
theorem Z2 (n:Nat) (p:Nat → Bool):msk n p < 2^n:=by
 induction n with
 | zero=>simp [msk]
 | succ n ih =>
  unfold msk
  refine Nat.or_lt_two_pow (Nat.lt_of_lt_of_le ih (Nat.pow_le_pow_right (by omega) (by omega))) ?_
  split
  ·exact Nat.pow_lt_pow_right (by omega) (by omega)
  ·exact Nat.two_pow_pos _
theorem Kf {n:Nat} {p:Nat → Bool} {a:Nat} (ha:a < 2^n) (h:∀i,i < n→a.testBit i=p i):a=msk n p:=by
 apply Nat.eq_of_testBit_eq
 intro i
 rw [Zl]
 by_cases hi:i < n
 ·simp [hi,h i hi]
 ·rw [Nat.testBit_lt_two_pow (Nat.lt_of_lt_of_le ha (Nat.pow_le_pow_right (by omega) (by omega)))]; simp [hi]
theorem Yu {n:Nat} {p q:Nat → Bool} (h:∀i,i < n→p i=q i):msk n p=msk n q :=
 Kf (Z2 n p) fun i hi=>by rw [Zl,h i hi]; simp [hi]
theorem Qq9 {n a:Nat} (hn:n≤10) (ha:a < 2^n):a < 1024:=Nat.lt_of_lt_of_le ha (Nat.pow_le_pow_right (n:=2) (by omega) hn)
theorem Qoa {n a:Nat} (hn:n≤10) (ha:a < 2^n):a < 18446744073709551616:=by have:=Qq9 hn ha; omega
theorem Ji {n:Nat} (h:n < 18446744073709551616):zv (n:Int)=(n:Int):=by
 simp [IntKind.wrap,IntKind.bits,IntKind.signed]; omega
theorem V8 {a:Nat} (h:a < 18446744073709551616):(zb (a:Int)).toNat = a:=by
 show (BitVec.ofInt IntKind.u64.bits (a:Int)).toNat = a
 rw [BitVec.ofInt_natCast,BitVec.toNat_ofNat]
 exact Nat.mod_eq_of_lt h
theorem Qll {a k:Nat}:Int.fdiv (a:Int) ((2:Int)^k)=((a / 2^k:Nat):Int):=by
 rw [Int.fdiv_eq_ediv_of_nonneg _ (by exact_mod_cast Nat.zero_le (2^k))]
 simp
theorem Qwd {a j:Nat} (h:a < 18446744073709551616):(zb (a:Int)).getLsbD j=a.testBit j:=by unfold BitVec.getLsbD; rw [V8 h]
theorem Qr9 {v:Nat} (hv:v < 64):zv (1*2^min (Int.toNat (v:Int)) (IntKind.bits .u64))=((2^v:Nat):Int):=by
 have hb:IntKind.bits .u64=64:=rfl
 have e0:min (Int.toNat (v:Int)) (IntKind.bits .u64)=v:=by rw [hb,Int.toNat_natCast]; omega
 have hp:2^v < 18446744073709551616:=Nat.pow_lt_pow_right (n:=64) (by omega) hv
 rw [e0,show (1:Int)*2^v=((2^v:Nat):Int) by simp,Ji hp]
theorem Qmu {v:Nat} (hv:v < 64):2^v < 18446744073709551616:=Nat.pow_lt_pow_right (n:=64) (by omega) hv
theorem Qnl {n:Nat} {p q:Nat → Bool} {a b:Nat} (hn:n≤64) (ha:a < 2^n) (hb:b < 18446744073709551616) (hp:∀i,i < n→a.testBit i=p i) (hq:∀i,i < n→b.testBit i=q i) :
  zv (zb (a:Int) &&& ~~~ zb (b:Int)).toNat = ((msk n fun i=>p i && !q i:Nat):Int):=by
 have ha':a < 18446744073709551616:=Nat.lt_of_lt_of_le ha (Nat.pow_le_pow_right (n:=2) (by omega) hn)
 have h1:(zb (a:Int) &&& ~~~ zb (b:Int)).toNat < 18446744073709551616:=BitVec.isLt _
 rw [Ji h1]
 congr 1
 refine Kf ?_ fun i hi=>?_
 ·refine Nat.lt_of_le_of_lt ?_ ha
  rw [BitVec.toNat_and,V8 ha']
  exact Nat.and_le_left
 ·have:i < 64:=by omega
  have e:(zb (a:Int) &&& ~~~ zb (b:Int)).toNat.testBit i=(zb (a:Int) &&& ~~~ zb (b:Int)).getLsbD i:=rfl
  rw [e,BitVec.getLsbD_and,BitVec.getLsbD_not,Qwd ha',Qwd hb,hp i hi,hq i hi]
  have h64:i < IntKind.bits .u64:=this
  simp [h64]
theorem Qz5 {n:Nat} {p q:Nat → Bool} {a b:Nat} (hn:n≤64) (ha:a < 2^n) (hb:b < 2^n) (hp:∀i,i < n→a.testBit i=p i) (hq:∀i,i < n→b.testBit i=q i) :
  zv (zb (a:Int) ||| zb (b:Int)).toNat = ((msk n fun i=>p i || q i:Nat):Int):=by
 have h64:2^n≤2^64:=Nat.pow_le_pow_right (n:=2) (by omega) hn
 have ha':a < 18446744073709551616:=Nat.lt_of_lt_of_le ha h64
 have hb':b < 18446744073709551616:=Nat.lt_of_lt_of_le hb h64
 rw [BitVec.toNat_or,V8 ha',V8 hb',Ji (Nat.or_lt_two_pow (n:=64) ha' hb')]
 congr 1
 exact Kf (Nat.or_lt_two_pow ha hb) fun i hi=>by rw [Nat.testBit_or,hp i hi,hq i hi]
theorem Q3o {n:Nat} {p q:Nat → Bool} {a b:Nat} (hn:n≤64) (ha:a < 2^n) (hb:b < 18446744073709551616) (hp:∀i,i < n→a.testBit i=p i) (hq:∀i,i < n→b.testBit i=q i) :
  zv (zb (a:Int) &&& zb (b:Int)).toNat = ((msk n fun i=>p i && q i:Nat):Int):=by
 have h64:2^n≤2^64:=Nat.pow_le_pow_right (n:=2) (by omega) hn
 have ha':a < 18446744073709551616:=Nat.lt_of_lt_of_le ha h64
 have hl:a &&& b≤a:=Nat.and_le_left
 rw [BitVec.toNat_and,V8 ha',V8 hb,Ji (by omega)]
 congr 1
 exact Kf (by omega) fun i hi=>by rw [Nat.testBit_and,hp i hi,hq i hi]
theorem Qom (v i:Nat):(2^v).testBit i=decide (v=i):=Nat.testBit_two_pow
theorem Jr {n:Nat} {p:Nat → Bool}:∀i,i < n→(msk n p).testBit i=p i:=fun i hi=>by rw [Zl]; simp [hi]
theorem Qp9 {n v:Nat} {p:Nat → Bool} (hn:n≤10) (hv:v < 64):zv (zb ((msk n p:Nat):Int) &&& ~~~ zb (zv (1*2^min (Int.toNat (v:Int)) (IntKind.bits .u64)))).toNat = ((msk n fun i=>p i && !decide (v=i):Nat):Int):=by
 rw [Qr9 hv]
 exact Qnl (by omega) (Z2 n p) (Qmu hv) Jr fun i _=>Qom v i
theorem Qhu {n v:Nat} {p:Nat → Bool} (hn:n≤10) (hv:v < n):zv (zb ((msk n p:Nat):Int) ||| zb (zv (1*2^min (Int.toNat (v:Int)) (IntKind.bits .u64)))).toNat = ((msk n fun i=>p i || decide (v=i):Nat):Int):=by
 rw [Qr9 (by omega)]
 exact Qz5 (by omega) (Z2 n p) (Nat.pow_lt_pow_right (by omega) hv) Jr fun i _=>Qom v i
theorem Qb8 {a k:Nat} (ha:a < 18446744073709551616) (hk:k < 64) :
  zv (zb (Int.fdiv (a:Int) (2^min (Int.toNat (k:Int)) (IntKind.bits .u64))) &&& zb 1).toNat = ((a.testBit k).toNat : Int):=by
 have hb:IntKind.bits .u64=64:=rfl
 have e0:min (Int.toNat (k:Int)) (IntKind.bits .u64)=k:=by rw [hb,Int.toNat_natCast]; omega
 rw [e0,Qll]
 have h1:a / 2^k < 18446744073709551616:=Nat.lt_of_le_of_lt (Nat.div_le_self _ _) ha
 have e1:(zb ((a / 2^k:Nat):Int) &&& zb 1).toNat = (a / 2^k) % 2:=by
  rw [BitVec.toNat_and,V8 h1,show (zb 1).toNat = 1 from rfl,Nat.and_one_is_mod]
 rw [e1,Ji (by omega)]
 have e2:a.testBit k=((a / 2^k) % 2==1):=by rw [Nat.testBit_eq_decide_div_mod_eq]; rfl
 rw [e2]
 rcases Nat.mod_two_eq_zero_or_one (a / 2^k) with h | h <;> rw [h] <;> rfl
theorem Qt2 (n:Nat):msk n (fun _=>true)=2^n - 1:=(Kf (by have:=Nat.two_pow_pos n; omega) fun i hi=>by rw [Nat.testBit_two_pow_sub_one]; simp [hi]).symm
theorem Q3k {n:Nat} (hn:n≤10):zv ((zv (1*2^min (Int.toNat (n:Int)) (IntKind.bits .u64))) - 1)=((msk n fun _=>true:Nat):Int):=by
 rw [Qr9 (by omega),Qt2]
 have h1:=Qmu (v:=n) (by omega)
 have h2:=Nat.two_pow_pos n
 rw [show ((2^n:Nat):Int) - 1=((2^n - 1:Nat):Int) by omega,Ji (by omega)]
def cnt:Nat → (Nat → Bool)→Nat
 | 0,_=>0
 | n+1,p=>cnt n p+(p n).toNat
def tzN:Nat → (Nat → Bool)→Nat
 | 0,_=>0
 | n+1,p=>if p 0 then 0 else tzN n (fun i=>p (i+1))+1
def isS (x:Option Int) (y:Int):Bool:=match x with | some z=>z==y | none=>false
theorem Qwf {x:Option Int} {y:Int} (h:isS x y=true):x=some y:=by
 cases x with
 | none=>cases h
 | some z=>simp only [isS,beq_iff_eq] at h; rw [h]
theorem Qrc {p:Nat → Bool} {n:Nat} (h:(List.range n).all p=true) {k:Nat} (hk:k < n):p k=true:=List.all_eq_true.1 h k (List.mem_range.2 hk)
theorem Q30:((List.range 1024).all fun R=>Nat.beq R 0 || (isS (Qt (R:Int)) (tzN 10 R.testBit:Int)))=true:=by kernel_rfl
theorem Q1x:((List.range 1024).all fun R=>Nat.beq R 0 || (zv (zb (R:Int) &&& zb (zv ((R:Int) - 1))).toNat == ((msk 10 fun i=>R.testBit i && !Nat.beq (tzN 10 R.testBit) i:Nat):Int)))=true:=by kernel_rfl
theorem Q3l:((List.range 1024).all fun R=>isS (Zb (R:Int)) (cnt 10 R.testBit:Int))=true:=by kernel_rfl
theorem Qdl {n:Nat} {p q:Nat → Bool} (h:∀i,i < n→p i=q i):cnt n p=cnt n q:=by
 induction n with
 | zero=>rfl
 | succ n ih=>simp only [cnt]; rw [ih fun i hi=>h i (by omega),h n (by omega)]
theorem Q1h {n m:Nat} {p:Nat → Bool} (hm:n≤m) (h:∀i,n≤i→i < m→p i=false):cnt m p=cnt n p:=by
 induction m with
 | zero =>
  have:n=0:=by omega
  subst this; rfl
 | succ m ih =>
  by_cases e:n=m+1
  ·subst e; rfl
  ·simp only [cnt]; rw [h m (by omega) (by omega),ih (by omega) fun i h1 h2=>h i h1 (by omega)]; rfl
theorem Qww {n:Nat} (hn:n≤10) (p:Nat → Bool):Zb ((msk n p:Nat):Int)=some (cnt n p:Int):=by
 have h:=Qwf (Qrc Q3l (Qq9 hn (Z2 n p)))
 rw [h]
 congr 2
 rw [Q1h hn fun i h1 h2=>by rw [Zl]; simp; omega]
 exact Qdl Jr
theorem Q2q (n:Nat) (p:Nat → Bool):cnt n p≤n:=by
 induction n with
 | zero=>exact Nat.le_refl _
 | succ n ih =>
  simp only [cnt]; have:(p n).toNat ≤ 1:=by cases p n <;> decide
  omega
theorem Qz4 {n:Nat} {p q:Nat → Bool} (h:∀i,i < n→p i=true→q i=true):cnt n p≤cnt n q:=by
 induction n with
 | zero=>exact Nat.le_refl _
 | succ n ih =>
  simp only [cnt]
  have h1:=ih fun i hi=>h i (by omega)
  have h2:=h n (by omega)
  cases hp:p n with
  | false =>
   have:false.toNat = 0:=rfl
   omega
  | true=>rw [h2 hp]; omega
theorem Q05 {n v:Nat} {p:Nat → Bool} (hv:v < n) (h:p v=true):cnt n (fun i=>p i && !decide (v=i))+1=cnt n p:=by
 induction n with
 | zero=>omega
 | succ n ih =>
  simp only [cnt]
  by_cases e:v=n
  ·subst e
   rw [Qdl (n:=v) (q:=p) fun i hi=>by simp; intro _; omega,h]
   simp
  ·have:=ih (by omega)
   have e2:(p n && !decide (v=n))=p n:=by simp; intro _; exact e
   rw [e2]; omega
theorem Qls:∀(n:Nat) (p:Nat → Bool),(∃i,i < n∧p i=true)→tzN n p < n∧p (tzN n p)=true∧∀i,i < tzN n p→p i=false
 | 0,p,⟨i,hi,_⟩=>by omega
 | n+1,p,⟨i,hi,h⟩=>by
  unfold tzN
  by_cases h0:p 0=true
  ·rw [if_pos h0]; exact ⟨by omega,h0,fun i hi=>by omega⟩
  ·rw [if_neg h0]
   have hi0:i≠0:=fun e=>h0 (e ▸ h)
   obtain ⟨a,b,c⟩:=Qls n (fun i=>p (i+1)) ⟨i - 1,by omega,by rw [show i - 1+1=i by omega]; exact h⟩
   refine ⟨by omega,b,fun j hj=>?_⟩
   cases j with
   | zero=>simpa using h0
   | succ j=>exact c j (by omega)
theorem Q2e {n v:Nat} {p:Nat → Bool} (hv:v < n) (h:p v=true) (hl:∀i,i < v→p i=false):tzN n p=v:=by
 obtain ⟨a,b,c⟩:=Qls n p ⟨v,hv,h⟩
 rcases Nat.lt_trichotomy (tzN n p) v with e | e | e
 ·rw [hl _ e] at b; cases b
 ·exact e
 ·rw [c v e] at h; cases h
theorem Qy9 {n v:Nat} {p:Nat → Bool} (hn:n≤10) (hv:v < n) (h:p v=true) (hl:∀i,i < v→p i=false) :
  (((msk n p:Nat):Int) != 0)=true∧Qt ((msk n p:Nat):Int)=some (v:Int) ∧
  zv (zb ((msk n p:Nat):Int) &&& zb (zv (((msk n p:Nat):Int) - 1))).toNat = ((msk n fun i=>p i && !decide (v=i):Nat):Int):=by
 have hlt:=Z2 n p
 have hR:=Qq9 hn hlt
 have hb:(msk n p).testBit v=true:=by rw [Zl]; simp [hv,h]
 have h0:msk n p≠0:=fun e=>by rw [e] at hb; simp at hb
 have e0:Nat.beq (msk n p) 0=false:=by
  cases e:msk n p with
  | zero=>exact absurd e h0
  | succ k=>rfl
 have etz:tzN 10 (msk n p).testBit=v:=Q2e (by omega) hb fun i hi=>by rw [Zl,hl i hi]; simp
 have h1:=Qrc Q30 hR
 have h2:=Qrc Q1x hR
 simp only [e0,Bool.false_or,etz] at h1 h2
 refine ⟨by simp; omega,Qwf h1,?_⟩
 have h3:zv (zb ((msk n p:Nat):Int) &&& zb (zv (((msk n p:Nat):Int) - 1))).toNat = ((msk 10 fun i=>(msk n p).testBit i && !Nat.beq v i:Nat):Int):=by simpa using h2
 rw [h3]
 congr 1
 apply Nat.eq_of_testBit_eq
 intro j
 rw [Zl,Zl,Zl]
 have e:Nat.beq v j=decide (v=j):=by
  by_cases e:v=j
  ·subst e; simp
  ·rw [decide_eq_false e,Bool.eq_false_iff]; exact fun h=>e (Nat.eq_of_beq_eq_true h)
 rw [e]
 by_cases hj:j < n
 ·simp [hj,show j < 10 by omega]
 ·simp [hj]
abbrev Gr:=Nat → Nat → Bool
def gl (n:Nat) (A:Gr):List Int:=(List.range n).map fun v=>((msk n (A v):Nat):Int)
theorem Z1 (n:Nat) (A:Gr):(gl n A).length=n:=by simp [gl]
theorem Qg3 {n:Nat} {A:Gr} {v:Nat} (hv:v < n):(gl n A)[v]?=some ((msk n (A v):Nat):Int):=by simp [gl,hv]
theorem J8 {n:Nat} {A:Gr} {v:Nat} (hv:v < n):lkI (gl n A) (v:Int)=some ((msk n (A v):Nat):Int):=by
 unfold lkI
 rw [if_neg (by omega),Int.toNat_natCast,Qg3 hv]
theorem gl_congr {n:Nat} {A B:Gr} (h:∀u w,u < n→w < n→A u w=B u w):gl n A=gl n B:=by
 apply List.ext_getElem?
 intro v
 by_cases hv:v < n
 ·rw [Qg3 hv,Qg3 hv,Yu fun w hw=>h v w hv hw]
 ·rw [List.getElem?_eq_none (by rw [Z1]; omega),List.getElem?_eq_none (by rw [Z1]; omega)]
def upd (A:Gr) (v:Nat) (q:Nat → Bool):Gr:=fun u w=>if u=v then q w else A u w
theorem Qx7 {A:Gr} {v u:Nat} {q:Nat → Bool} (h:¬ u=v):upd A v q u=A u:=funext fun w=>if_neg h
theorem Q28 {A:Gr} {v:Nat} {q:Nat → Bool}:upd A v q v=q:=funext fun w=>if_pos rfl
theorem Qer {n:Nat} {A:Gr} {v:Nat} (q:Nat → Bool):(gl n A).set (Int.toNat (v:Int)) ((msk n q:Nat):Int)=gl n (upd A v q):=by
 apply List.ext_getElem?
 intro u
 rw [Int.toNat_natCast,List.getElem?_set,Z1]
 by_cases hu:u < n
 ·rw [Qg3 hu,Qg3 hu]
  by_cases e:v=u
  ·subst e; simp [hu,Q28]
  ·rw [if_neg e,Qx7 fun h=>e h.symm]
 ·rw [List.getElem?_eq_none (by rw [Z1]; omega),List.getElem?_eq_none (by rw [Z1]; omega)]
  simp [hu]
  intro e; omega
structure Vx (n:Nat) (A:Gr):Prop where
 sym:∀u w,A u w=A w u
 irr:∀u,A u u=false
 lt:∀u w,A u w=true→u < n
theorem Ql6 {τ ρ σ:Type} {n:Nat} (hn:n≤10) (mkS:Int→τ→σ) {body:σ→Option (Ql σ ρ)} (I:Nat → τ→Prop) (Q:ρ→Prop) (p:Nat → Bool)
  (step:∀(x:Nat) (t:τ) (R R':Int),x < n→p x=true→I x t→(R != 0)=true→Qt R=some (x:Int) →
   zv (zb R &&& zb (zv (R - 1))).toNat = R' →
   (∃t',body (mkS R t)=some (.next (mkS R' t'))∧I (x+1) t')∨(∃r,body (mkS R t)=some (.done r)∧Q r))
  (skip:∀(x:Nat) (t:τ),x < n→p x=false→I x t→I (x+1) t)
  (done:∀t,I n t→∃r,body (mkS 0 t)=some (.done r)∧Q r) (t0:τ) (h0:I 0 t0) :
  ∃r,Qb fuel body (mkS ((msk n p:Nat):Int) t0)=some r∧Q r:=by
 have key:∀(j N k:Nat) (t:τ),k+j=n→j < N→I k t→∃r,Qb N body (mkS ((msk n fun i=>p i && decide (k≤i):Nat):Int) t)=some r∧Q r:=by
  intro j
  induction j using Nat.strongRecOn with
  | _ j ih =>
   intro N k t hk hN hI
   by_cases hx:∃i,k≤i∧i < n∧p i=true
   ·obtain ⟨x,x1,x2,x3,x4⟩:∃x,k≤x∧x < n∧p x=true∧∀i,k≤i→i < x→p i=false:=by
     have hs:=Qls n (fun i=>p i && decide (k≤i)) (by obtain ⟨i,a,b,c⟩:=hx; exact ⟨i,b,by simp [a,c]⟩)
     refine ⟨_,?_,hs.1,?_,fun i a b=>?_⟩
     ·have:=hs.2.1; simp at this; exact this.2
     ·have:=hs.2.1; simp at this; exact this.1
     ·have:=hs.2.2 i b; simpa [a] using this
    have hIx:I x t:=by
     have:∀d,k+d≤x→I (k+d) t:=by
      intro d
      induction d with
      | zero=>intro _; exact hI
      | succ d ihd=>intro h; exact skip (k+d) t (by omega) (x4 _ (by omega) (by omega)) (ihd (by omega))
     have h:=this (x - k) (by omega)
     rwa [show k+(x - k)=x by omega] at h
    obtain ⟨N,rfl⟩:∃M,N=M+1:=⟨N - 1,by omega⟩
    obtain ⟨a1,a2,a3⟩:=Qy9 (n:=n) (v:=x) (p:=fun i=>p i && decide (k≤i)) hn x2 (by simp [x1,x3]) (fun i hi=>by
     by_cases h:k≤i
     ·rw [x4 i h hi]; rfl
     ·simp [h])
    have e:msk n (fun i=>(p i && decide (k≤i)) && !decide (x=i))=msk n fun i=>p i && decide (x+1≤i):=Yu fun i hi=>by
     by_cases h:x+1≤i
     ·have h2:¬ x=i:=by omega
      have h3:k≤i:=by omega
      simp [h,h2,h3]
     ·by_cases h2:x=i
      ·subst h2; simp
      ·by_cases h3:k≤i
       ·rw [x4 i h3 (by omega)]; simp
       ·simp [h,h3]
    rw [e] at a3
    rcases step x t _ _ x2 x3 hIx a1 a2 a3 with ⟨t',b1,b2⟩ | ⟨r,b1,b2⟩
    ·simp only [Qb,b1]
     exact ih (n - (x+1)) (by omega) N (x+1) t' (by omega) (by omega) b2
    ·simp only [Qb,b1]
     exact ⟨r,rfl,b2⟩
   ·have hno:∀i,k≤i→i < n→p i=false:=fun i a b=>by
     rw [Bool.eq_false_iff]; exact fun h=>hx ⟨i,a,b,h⟩
    have e:msk n (fun i=>p i && decide (k≤i))=0:=by
     have:msk n (fun _=>false)=0:=(Kf (by have:=Nat.two_pow_pos n; omega) fun i _=>by simp).symm
     rw [←this]
     exact Yu fun i hi=>by
      by_cases h:k≤i
      ·rw [hno i h hi]; rfl
      ·simp [h]
    have hIn:I n t:=by
     have:∀d,k+d≤n→I (k+d) t:=by
      intro d
      induction d with
      | zero=>intro _; exact hI
      | succ d ihd=>intro h; exact skip (k+d) t (by omega) (hno _ (by omega) (by omega)) (ihd (by omega))
     have h:=this (n - k) (by omega)
     rwa [show k+(n - k)=n by omega] at h
    obtain ⟨N,rfl⟩:∃M,N=M+1:=⟨N - 1,by omega⟩
    rw [e]
    obtain ⟨r,b1,b2⟩:=done t hIn
    refine ⟨r,?_,b2⟩
    show Qb (N+1) body (mkS 0 t)=_
    simp only [Qb,b1]
 have h:=key n fuel 0 t0 (by omega) (by show n < 1152921504606846976; omega) h0
 have e:msk n (fun i=>p i && decide (0≤i))=msk n p:=Yu fun i _=>by simp
 rwa [e] at h
def elim (A:Gr) (v:Nat):Gr:=fun u w=>(A u w || (A v u && A v w && !decide (u=w))) && !decide (u=v) && !decide (w=v)
theorem Qfy {n:Nat} {A:Gr} (h:Vx n A) (v:Nat):Vx n (elim A v):=by
 refine ⟨fun u w=>?_,fun u=>?_,fun u w h1=>?_⟩
 ·unfold elim
  rw [h.sym u w]
  by_cases e:u=w
  ·subst e; rfl
  ·have e2:¬ w=u:=fun h=>e h.symm
   simp only [decide_eq_false e,decide_eq_false e2]
   cases A v u <;> cases A v w <;> cases A w u <;> cases (decide (u=v)) <;> cases (decide (w=v)) <;> rfl
 ·unfold elim; rw [h.irr]; simp
 ·unfold elim at h1
  simp only [Bool.and_eq_true,Bool.or_eq_true] at h1
  rcases h1.1.1 with h2 | h2
  ·exact h.lt _ _ h2
  ·exact h.lt _ v (by rw [h.sym]; exact h2.1.1)
def Qd0 (n:Nat) (A:Gr) (v a:Nat):List (Nat × Nat):=((List.range n).filter fun b=>decide (a < b) && (A v a && A v b && !A a b)).map fun b=>(a,b)
def Ql2 (n:Nat) (A:Gr) (v:Nat):List (Nat × Nat):=(List.range n).flatMap (Qd0 n A v)
def pI (p:Nat × Nat):Int × Int:=((p.1:Int),(p.2:Int))
theorem Qdz (k:Nat) (p:Nat → Bool):(List.range (k+1)).filter p=(List.range k).filter p++if p k then [k] else []:=by
 rw [List.range_succ,List.filter_append]
 congr 1
 cases h:p k <;> simp [h]
theorem Qmc (k:Nat) (p:Nat → Bool):((List.range k).filter p).length≤k:=by
 have:=List.length_filter_le p (List.range k)
 simpa using this
theorem Zi (k:Nat):(0:Int)≤(k:Int):=Int.natCast_nonneg k
theorem Qs8 {n:Nat} {A:Gr} {L:Nat → Bool} {v:Nat} (hn:n≤10) (hv:v < n) (hL:∀u w,u < n→A u w=true→L u=true) (hA:∀u,u < n→A u v=true→L u=true) :
  Z3 (v:Int) ((msk n L:Nat):Int) (gl n A)=some (((msk n fun i=>L i && !decide (v=i):Nat):Int),gl n fun u w=>A u w && !decide (u=v) && !decide (w=v)):=by
 unfold Z3
 rw [if_pos (Zi v),Qp9 hn (by omega)]
 obtain ⟨r,h1,h2⟩:=Ql6 hn (fun R t=>(R,t)) (body:=Z8 (v:Int)) (fun k t=>t=gl n fun u w=>A u w && !(decide (u < k) && L u && !decide (v=u) && decide (w=v))) (fun r=>r=gl n fun u w=>A u w && !(L u && !decide (v=u) && decide (w=v))) (fun i=>L i && !decide (v=i))
  (fun x t R R' hx hp hI c1 c2 c3=>.inl (by
   subst hI
   refine ⟨_,?_,rfl⟩
   unfold Z8
   simp only [c1,if_true,c2,Option.bind_some,J8 hx,if_pos (Zi v),c3,Qp9 hn (show v < 64 by omega),Qer]
   congr 3
   refine gl_congr fun u w hu hw=>?_
   unfold upd
   simp only [Bool.and_eq_true] at hp
   clear c1 c2 c3
   grind))
  (fun x t hx hp hI=>by
   rw [hI]
   refine gl_congr fun u w hu hw=>?_
   by_cases e:u=x
   ·subst e
    have:(L u && !decide (v=u))=false:=hp
    have e2:decide (u < u+1)=true:=by simp
    rw [e2]
    cases hh:L u
    ·simp
    ·rw [hh] at this; simp at this; simp [this]
   ·have:decide (u < x+1)=decide (u < x):=by by_cases h:u < x <;> simp [h] <;> omega
    rw [this])
  (fun t hI=>⟨t,by unfold Z8; simp,hI.trans (gl_congr fun u w hu hw=>by simp [hu])⟩)
  (gl n A) (gl_congr fun u w _ _=>by simp)
 rw [h1]
 subst h2
 simp only [Option.bind_some,J8 hv]
 have e0:(0:Int)=((msk n fun _=>false:Nat):Int):=by
  have:msk n (fun _=>false)=0:=(Kf (by have:=Nat.two_pow_pos n; omega) fun i _=>by simp).symm
  rw [this]; rfl
 rw [e0,Qer]
 congr 2
 refine gl_congr fun u w hu hw=>?_
 unfold upd
 by_cases e:u=v
 ·subst e; simp
 ·rw [if_neg e]
  grind
theorem Qz2 {a:Nat} (ha:a < 63):zv ((zv (1*2^min (Int.toNat (zw ((a:Int)+1))) (IntKind.bits .u64))) - 1)=((2^(a+1) - 1:Nat):Int):=by
 rw [w64 (by omega),show (a:Int)+1=((a+1:Nat):Int) by omega,Qr9 (by omega)]
 have h1:=Qmu (v:=a+1) (by omega)
 have h2:=Nat.two_pow_pos (a+1)
 rw [show ((2^(a+1):Nat):Int) - 1=((2^(a+1) - 1:Nat):Int) by omega,Ji (by omega)]
theorem Qr8 (n:Nat) (A:Gr) (v:Nat) (k:Nat):((List.range k).flatMap (Qd0 n A v)).length≤k*n:=by
 induction k with
 | zero=>simp
 | succ k ih =>
  rw [List.range_succ,List.flatMap_append,List.length_append,Nat.succ_mul]
  have:(([k]:List Nat).flatMap (Qd0 n A v)).length≤n:=by
   simp only [List.flatMap_cons,List.flatMap_nil,List.append_nil,Qd0,List.length_map]
   exact Qmc n _
  omega
def Ky (O:Gr) (p:Nat → Bool) (a k:Nat):Gr:=fun u w=>O u w || (decide (u=a) && decide (w < k) && p w) || (decide (w=a) && decide (u < k) && p u)
theorem Qu1 {n:Nat} {O:Gr} {p:Nat → Bool} {a:Nat} {f0:List (Nat × Nat)} (hn:n≤10) (ha:a < n) (hp:∀w,p w=true→¬ w=a) (hf:f0.length≤100) :
  Qb fuel (Zd (a:Int)) (((msk n p:Nat):Int),gl n O,f0.map pI)=some (gl n (Ky O p a n),(f0++((List.range n).filter p).map fun b=>(a,b)).map pI):=by
 obtain ⟨r,h1,h2⟩:=Ql6 hn (fun R (t:List Int × List (Int × Int))=>(R,t.1,t.2)) (body:=Zd (a:Int))
  (fun k t=>t=(gl n (Ky O p a k),(f0++((List.range k).filter p).map fun b=>(a,b)).map pI)) (fun r=>r=(gl n (Ky O p a n),(f0++((List.range n).filter p).map fun b=>(a,b)).map pI)) p
  (fun x t R R' hx hpx hI c1 c2 c3=>.inl (by
   subst hI
   refine ⟨_,?_,rfl⟩
   have hxa:=hp x hpx
   have hl:((f0++((List.range x).filter p).map fun b=>(a,b)).map pI++([((a:Int),(x:Int))]:List (Int × Int))).length*16≤140737488355328:=by
    have:=Qmc x p
    simp only [List.length_append,List.length_map,List.length_cons,List.length_nil]
    omega
   unfold Zd
   simp only [c1,if_true,c2,Option.bind_some,if_pos hl,J8 ha,if_pos (Zi x),Qhu hn hx,Qer,J8 hx,if_pos (Zi a),c3]
   have e1:upd (Ky O p a x) a (fun i=>Ky O p a x a i || decide (x=i)) x=Ky O p a x x:=Qx7 hxa
   rw [e1,Qhu hn ha,Qer]
   congr 3
   congr 1
   ·refine gl_congr fun u w hu hw=>?_
    simp only [upd,Ky]
    grind (splits:=30)
   ·rw [Qdz,if_pos hpx]
    simp [pI]))
  (fun x t hx hpx hI=>by
   rw [hI]
   congr 1
   ·refine gl_congr fun u w hu hw=>?_
    simp only [Ky]
    grind
   ·rw [Qdz,hpx]
    simp)
  (fun t hI=>⟨_,by unfold Zd; simp,hI⟩)
  (gl n O,f0.map pI) (by rw [gl_congr (A:=O) (B:=Ky O p a 0) fun u w _ _=>by simp [Ky]]; simp)
 rw [h1,h2]
def Xy (A:Gr) (v k:Nat):Gr:=fun u w=>A u w || (!decide (u=w) && A v u && A v w && (decide (u < k) || decide (w < k)))
theorem Qwm {n:Nat} {A:Gr} {v:Nat} (hn:n≤10) (hG:Vx n A) (hv:v < n) :
  Qb fuel (Ze ((msk n (A v):Nat):Int)) (((msk n (A v):Nat):Int),gl n A,[])=some (gl n (Xy A v n),(Ql2 n A v).map pI):=by
 obtain ⟨r,h1,h2⟩:=Ql6 hn (fun R (t:List Int × List (Int × Int))=>(R,t.1,t.2)) (body:=Ze ((msk n (A v):Nat):Int))
  (fun k t=>t=(gl n (Xy A v k),((List.range k).flatMap (Qd0 n A v)).map pI)) (fun r=>r=(gl n (Xy A v n),(Ql2 n A v).map pI)) (A v)
  (fun x t R R' hx hpx hI c1 c2 c3=>.inl (by
   subst hI
   refine ⟨_,?_,rfl⟩
   unfold Ze
   have hw:(0:Int)≤zw ((x:Int)+1):=by rw [w64 (by omega)]; omega
   simp only [c1,if_true,c2,Option.bind_some,J8 hx,if_pos hw,Qz2 (show x < 63 by omega)]
   rw [Qnl (n:=n) (p:=A v) (q:=Xy A v x x) (by omega) (Z2 n _) (Qoa hn (Z2 n _)) Jr Jr]
   rw [Qnl (n:=n) (p:=fun i=>A v i && !Xy A v x x i) (q:=fun i=>decide (i < x+1)) (by omega) (Z2 n _) (by have:=Qmu (v:=x+1) (by omega); omega) Jr (fun i _=>Nat.testBit_two_pow_sub_one _ _)]
   have ep:(fun i=>(A v i && !Xy A v x x i) && !decide (i < x+1))=fun b=>decide (x < b) && (A v x && A v b && !A x b):=by
    funext i
    simp only [Xy]
    grind
   have hlen:=Qr8 n A v x
   have hnn:x*n≤100:=Nat.le_trans (Nat.mul_le_mul (show x≤10 by omega) hn) (by omega)
   have hh:=Qu1 (n:=n) (O:=Xy A v x) (p:=fun i=>(A v i && !Xy A v x x i) && !decide (i < x+1)) (a:=x) (f0:=(List.range x).flatMap (Qd0 n A v)) hn hx (fun w hw e=>by subst e; simp at hw) (by omega)
   rw [hh]
   simp only [Option.bind_some,c3]
   congr 3
   congr 1
   ·refine gl_congr fun u w hu hw=>?_
    have s1:=hG.sym u w
    have s2:=hG.irr x
    simp only [Ky,Xy]
    have s3:=hG.sym u x
    have s4:=hG.sym w x
    grind
   ·rw [List.range_succ,List.flatMap_append]
    simp only [List.flatMap_cons,List.flatMap_nil,List.append_nil,Qd0]
    rw [ep]))
  (fun x t hx hpx hI=>by
   rw [hI]
   congr 1
   ·refine gl_congr fun u w hu hw=>?_
    simp only [Xy]
    grind
   ·rw [List.range_succ,List.flatMap_append]
    have:(([x]:List Nat).flatMap (Qd0 n A v))=[]:=by
     simp only [List.flatMap_cons,List.flatMap_nil,List.append_nil,Qd0]
     rw [List.filter_eq_nil_iff.2 (fun b _=>by simp [hpx])]; rfl
    rw [this,List.append_nil])
  (fun t hI=>⟨_,by unfold Ze; simp,hI⟩)
  (gl n A,[]) (by rw [gl_congr (A:=A) (B:=Xy A v 0) fun u w _ _=>by simp [Xy]]; rfl)
 rw [h1,h2]
theorem Qoe {n:Nat} {A:Gr} {L:Nat → Bool} {v:Nat} (hn:n≤10) (hG:Vx n A) (hv:v < n) (hL:∀u w,A u w=true→L u=true) :
  Zr (v:Int) ((msk n L:Nat):Int) (gl n A)=some ((Ql2 n A v).map pI,((msk n fun i=>L i && !decide (v=i):Nat):Int),gl n (elim A v)):=by
 unfold Zr
 simp only [J8 hv,Option.bind_some,Qwm hn hG hv]
 have hL2:∀u w,Xy A v n u w=true→L u=true:=fun u w h=>by
  unfold Xy at h
  simp only [Bool.or_eq_true,Bool.and_eq_true] at h
  rcases h with h | h
  ·exact hL u w h
  ·exact hL u v (by rw [hG.sym]; exact h.1.1.2)
 rw [Qs8 hn hv (fun u w _=>hL2 u w) (fun u _=>hL2 u v)]
 simp only [Option.bind_some]
 congr 3
 refine gl_congr fun u w hu hw=>?_
 simp only [Xy,elim]
 grind
theorem Qqw {k:Nat} (h:k < 9223372036854775807):zw ((k:Int)+1)=((k+1:Nat):Int):=by rw [w64 (by omega)]; omega
theorem Jq {τ ρ σ:Type} {n k0:Nat} (hk:k0≤n) (hn:n < 1152921504606846976) (mkS:Int→τ→σ) {body:σ→Option (Ql σ ρ)} (I:Nat → τ→Prop) (Q:ρ→Prop)
  (step:∀(k:Nat) (t:τ),k0≤k→k < n→I k t→(∃t',body (mkS (k:Int) t)=some (.next (mkS (zw ((k:Int)+1)) t'))∧I (k+1) t')∨(∃r,body (mkS (k:Int) t)=some (.done r)∧Q r))
  (done:∀t,I n t→∃r,body (mkS (n:Int) t)=some (.done r)∧Q r) (t0:τ) (h0:I k0 t0):∃r,Qb fuel body (mkS (k0:Int) t0)=some r∧Q r:=by
 have key:∀(j N k:Nat) (t:τ),k+j=n→k0≤k→j < N→I k t→∃r,Qb N body (mkS (k:Int) t)=some r∧Q r:=by
  intro j
  induction j with
  | zero =>
   intro N k t e hk hN hI
   obtain ⟨N,rfl⟩:∃M,N=M+1:=⟨N - 1,by omega⟩
   have:k=n:=by omega
   subst this
   obtain ⟨r,b1,b2⟩:=done t hI
   simp only [Qb,b1]
   exact ⟨r,rfl,b2⟩
  | succ j ih =>
   intro N k t e hk hN hI
   obtain ⟨N,rfl⟩:∃M,N=M+1:=⟨N - 1,by omega⟩
   rcases step k t hk (by omega) hI with ⟨t',b1,b2⟩ | ⟨r,b1,b2⟩
   ·rw [Qqw (by omega)] at b1
    simp only [Qb,b1]
    exact ih N (k+1) t' (by omega) (by omega) (by omega) b2
   ·simp only [Qb,b1]
    exact ⟨r,rfl,b2⟩
 exact key (n - k0) fuel k0 t0 (by omega) (Nat.le_refl _) (by show n - k0 < 1152921504606846976; omega) h0
theorem Vh {τ ρ σ:Type} {n k0:Nat} (hk:k0≤n) (hn:n < 1152921504606846976) (mkS:Int→τ→σ) {body:σ→Option (Ql σ ρ)} (T:Nat → τ) (r:ρ)
  (step:∀(k:Nat),k0≤k→k < n→body (mkS (k:Int) (T k))=some (.next (mkS (zw ((k:Int)+1)) (T (k+1)))))
  (done:body (mkS (n:Int) (T n))=some (.done r)):Qb fuel body (mkS (k0:Int) (T k0))=some r:=by
 obtain ⟨r',h1,h2⟩:=Jq hk hn mkS (body:=body) (fun k t=>t=T k) (fun x=>x=r) (fun k t a b c=>.inl ⟨T (k+1),by rw [c]; exact step k a b,rfl⟩) (fun t h=>⟨r,by rw [h]; exact done,rfl⟩) (T k0) rfl
 rw [h1,h2]
theorem dlt {k n:Nat} (h:k < n):decide ((k:Int) < (n:Int))=true:=decide_eq_true (by omega)
theorem nlt (n:Nat):¬ (decide ((n:Int) < (n:Int))=true):=by simp
theorem Qla {n:Nat} (hn:n≤10) (A:Gr) (v:Nat):(Ql2 n A v).length≤100 :=
 Nat.le_trans (Qr8 n A v n) (Nat.le_trans (Nat.mul_le_mul hn hn) (by omega))
def nI (l:List Nat):List Int:=l.map fun (k:Nat)=>(k:Int)
theorem Qo (l:List Nat):(nI l).length=l.length:=by simp [nI]
theorem Qbb {l:List Nat} {k:Nat} (h:k < l.length):lkI (nI l) (k:Int)=some (l[k]:Int):=by rw [Zm (by rwa [Qo])]; simp [nI]
def seqA (A:Gr) (o:List Nat):Gr:=o.foldl elim A
theorem Qo6 (A:Gr) (o:List Nat) (v:Nat):seqA A (o++[v])=elim (seqA A o) v:=by simp [seqA]
theorem Qf3 {n:Nat}:∀{o:List Nat} {A:Gr},Vx n A→Vx n (seqA A o)
 | [],A,h=>h
 | v::o,A,h=>Qf3 (o:=o) (Qfy h v)
theorem Qyu {A:Gr} {v u w:Nat} (h:elim A v u w=true):¬ u=v∧¬ w=v:=by unfold elim at h; simp at h; exact ⟨h.1.2,h.2⟩
theorem Qxu {A:Gr} {v x:Nat} (hs:∀w,A x w=false) (u:Nat) (hA:∀u w,A u w=A w u):elim A v x u=false:=by
 unfold elim
 rw [hs,hA v x,hs]; simp
theorem Qh3 {n:Nat}:∀{o:List Nat} {A:Gr} {x:Nat},Vx n A→(x∈o∨∀w,A x w=false)→∀w,seqA A o x w=false
 | [],A,x,h,hx,w=>by rcases hx with hx | hx; cases hx; exact hx w
 | v::o,A,x,h,hx,w=>by
  refine Qh3 (o:=o) (Qfy h v) ?_ w
  rcases hx with hx | hx
  ·rcases List.mem_cons.1 hx with e | hx
   ·subst e
    right
    intro w
    rw [Bool.eq_false_iff]
    intro h1
    exact (Qyu h1).1 rfl
   ·exact .inl hx
  ·right
   intro w
   exact Qxu hx w h.sym
def Qaa (n:Nat):Gr→List Nat → List (Nat × Nat)
 | _,[]=>[]
 | A,v::o=>Ql2 n A v++Qaa n (elim A v) o
def widL (n:Nat):Gr→List Nat → Nat
 | _,[]=>0
 | A,v::o=>max (cnt n (A v)) (widL n (elim A v) o)
theorem Qm8 (n:Nat):∀(A:Gr) (o:List Nat) (v:Nat),Qaa n A (o++[v])=Qaa n A o++Ql2 n (seqA A o) v
 | A,[],v=>by simp [Qaa,seqA]
 | A,u::o,v=>by simp only [List.cons_append,Qaa]; rw [Qm8]; simp [seqA]
theorem Qpn (n:Nat):∀(A:Gr) (o:List Nat) (v:Nat),widL n A (o++[v])=max (widL n A o) (cnt n (seqA A o v))
 | A,[],v=>by simp [widL,seqA]
 | A,u::o,v=>by simp only [List.cons_append,widL]; rw [Qpn]; simp only [seqA,List.foldl_cons]; omega
theorem Qo2 {n:Nat} (hn:n≤10):∀(A:Gr) (o:List Nat),(Qaa n A o).length≤100*o.length
 | A,[]=>by simp [Qaa]
 | A,u::o=>by
  have h1:=Qo2 hn (elim A u) o
  have h2:=Qla hn A u
  simp only [Qaa,List.length_append,List.length_cons]; omega
theorem Qt1 {l:List Int} (h:l.length≤1000):Q3 l=some l:=by
 cases l with
 | nil=>rfl
 | cons a l=>unfold Q3 Vl; dsimp only; rw [if_pos (by omega)]
theorem Qst {n:Nat} {A:Gr} {v:Nat} {L:Int} (hn:n≤10) (hv:v < n):Vt (Torder_graph.mk (Torder_neighbours.mk (gl n A)) L) (v:Int)=some (cnt n (A v):Int):=by
 unfold Vt
 simp only [J8 hv,Option.bind_some,Qww hn]
theorem Qyr (a b:Nat):(if (a:Int) > (b:Int) then (a:Int) else (b:Int))=((max b a:Nat):Int):=by split <;> omega
theorem Q0e {n:Nat} {A:Gr} {o:List Nat} (hn:n≤10) (hG:Vx n A) (ho:∀v∈o,v < n) (hl:o.length≤1000):Qc4 (gl n A) (nI o)=some ((Qaa n A o).map pI,(widL n A o:Int)):=by
 unfold Qc4
 rw [Qt1 (by rw [Z1]; omega),Option.bind_some,Z1,if_pos (Zi n),Q3k hn]
 have h:=Vh (n:=o.length) (k0:=0) (by omega) (by omega) (fun i (t:Int × Int × List Int × List (Int × Int))=>(t.1,i,t.2)) (body:=K8 (nI o))
  (fun k=>((widL n A (o.take k):Int),((msk n fun i=>!(o.take k).contains i:Nat):Int),gl n (seqA A (o.take k)),(Qaa n A (o.take k)).map pI)) ((widL n A o:Int),(Qaa n A o).map pI)
  (fun k _ h2=>by
   have hv:=ho _ (List.getElem_mem h2)
   have e:=List.take_succ_eq_append_getElem h2
   have ek:=Qbb h2
   generalize o[k]=v at hv e ek
   have hG':Vx n (seqA A (o.take k)):=Qf3 hG
   have hoff:∀u w,seqA A (o.take k) u w=true→(!(o.take k).contains u)=true:=fun u w h1=>by
    rw [Bool.not_eq_true',Bool.eq_false_iff]
    intro hm
    rw [Qh3 hG (.inl (by simpa using hm))] at h1; cases h1
   have hf:=Qo2 hn A (o.take k)
   have hm:=Qla hn (seqA A (o.take k)) v
   have hlen:((Qaa n A (o.take k)).map pI++(Ql2 n (seqA A (o.take k)) v).map pI).length*16≤140737488355328:=by
    have:(o.take k).length≤1000:=by rw [List.length_take]; omega
    simp only [List.length_append,List.length_map]; omega
   unfold K8
   dsimp only
   rw [Qo,if_pos (dlt h2)]
   simp only [ek,Option.bind_some,Qst hn hv,Qoe hn hG' hv hoff,if_pos hlen,Qyr]
   rw [e,Qpn,Qm8,Qo6]
   congr 4
   congr 1
   ·congr 1
    exact Yu fun i hi=>by
     rw [Bool.eq_iff_iff]
     simp
     grind
   ·rw [List.map_append])
  (by
   unfold K8
   dsimp only
   rw [Qo,if_neg (nlt _),List.take_length])
 simp only [List.take_zero,Qaa,widL,seqA,List.foldl_nil,List.map_nil] at h
 have e:(msk n fun i=>!([]:List Nat).contains i)=msk n fun _=>true:=Yu fun i _=>by simp
 rw [e,show ((0:Nat):Int)=0 from rfl] at h
 rw [h]; rfl
structure Ord (n:Nat) (o:List Nat):Prop where
 len:o.length=n
 lt:∀v∈o,v < n
 nodup:o.Nodup
def okL (n:Nat) (l:List Int):Prop:=(∀x∈l,0≤x∧x < (n:Int))∧l.Nodup
theorem Q2s {n:Nat} {l:List Int} (h:okL n l) (hl:l.length=n):∃o,l=nI o∧Ord n o:=by
 have e:l=nI (l.map Int.toNat):=by
  unfold nI
  rw [List.map_map]
  refine (List.ext_getElem (by simp) fun i h1 h2=>?_)
  have:=h.1 l[i] (List.getElem_mem h1)
  simp; omega
 refine ⟨l.map Int.toNat,e,by simpa using hl,fun v hv=>?_,?_⟩
 ·obtain ⟨x,hx,rfl⟩:=List.mem_map.1 hv
  have:=h.1 x hx; omega
 ·have h2:=h.2
  rw [e] at h2
  unfold nI at h2
  rw [List.Nodup,List.pairwise_map] at h2
  exact h2.imp fun hne he=>hne (by rw [he])
theorem Qtp {n:Nat} {o:List Nat} (h:Ord n o):okL n (nI o):=by
 refine ⟨fun x hx=>?_,?_⟩
 ·unfold nI at hx
  obtain ⟨v,hv,rfl⟩:=List.mem_map.1 hx
  have:=h.lt v hv; omega
 ·unfold nI
  rw [List.Nodup,List.pairwise_map]
  exact h.nodup.imp fun hne he=>hne (by omega)
theorem Qy5 {n:Nat} {l:List Int} {k:Nat} (hk:k < l.length):okL n (l.take (k+1))↔okL n (l.take k)∧(0≤l[k]∧l[k] < (n:Int))∧l[k] ∉ l.take k:=by
 rw [List.take_succ_eq_append_getElem hk]
 unfold okL
 rw [List.nodup_append]
 simp only [List.mem_append,List.mem_singleton]
 constructor
 ·rintro ⟨h1,h2,h3,h4⟩
  exact ⟨⟨fun x hx=>h1 x (.inl hx),h2⟩,h1 _ (.inr rfl),fun h=>h4 _ h _ rfl rfl⟩
 ·rintro ⟨⟨h1,h2⟩,h3,h4⟩
  refine ⟨fun x hx=>?_,h2,by simp,fun a ha b hb e=>?_⟩
  ·rcases hx with hx | hx
   ·exact h1 x hx
   ·rw [hx]; exact h3
  ·subst hb; subst e; exact h4 ha
theorem Qqq {n:Nat} {l:List Int} {k:Nat} (h:¬ okL n (l.take k)):¬ okL n l:=fun h2=>h ⟨fun x hx=>h2.1 x (List.mem_of_mem_take hx),List.Nodup.sublist (List.take_sublist k l) h2.2⟩
theorem Qwx {n:Nat} {g l:List Int} (hn:n≤10) (hg:g.length=n) (hl:l.length≤1000) :
  ∃r,Qb fuel (Zs l g) (0,0)=some r∧((∃u,r=Sum.inl u∧¬ okL n l)∨(∃u,r=Sum.inr u∧okL n l)):=by
 have h:=Jq (n:=l.length) (k0:=0) (by omega) (by omega) (fun i (t:Int)=>(t,i)) (body:=Zs l g) (fun k t=>okL n (l.take k)∧t=((msk n fun i=>(l.take k).contains (i:Int):Nat):Int)) (fun r=>(∃u,r=Sum.inl u∧¬ okL n l)∨(∃u,r=Sum.inr u∧okL n l))
  (fun k t _ h2 hI=>by
   obtain ⟨hok,rfl⟩:=hI
   have hst:=Qy5 (n:=n) h2
   have ek:=Zm h2
   generalize l[k]=x at hst ek
   have bad:¬ okL n (l.take (k+1))→Zs l g (((msk n fun i=>(l.take k).contains (i:Int):Nat):Int),(k:Int))=some (.done (Sum.inl ()))→(∃t',Zs l g (((msk n fun i=>(l.take k).contains (i:Int):Nat):Int),(k:Int))=some (.next (t',zw ((k:Int)+1)))∧okL n (l.take (k+1))∧t'=((msk n fun i=>(l.take (k+1)).contains (i:Int):Nat):Int))∨∃r,Zs l g (((msk n fun i=>(l.take k).contains (i:Int):Nat):Int),(k:Int))=some (.done r)∧((∃u,r=Sum.inl u∧¬ okL n l)∨(∃u,r=Sum.inr u∧okL n l)):=fun h h3=>.inr ⟨_,h3,.inl ⟨(),rfl,Qqq h⟩⟩
   by_cases c1:x < 0
   ·refine bad (fun h=>by have:=(hst.1 h).2.1; omega) ?_
    unfold Zs
    dsimp only
    rw [if_pos (dlt h2),ek,Option.bind_some,if_pos (by simpa using c1)]
   ·by_cases c2:x≥(n:Int)
    ·refine bad (fun h=>by have:=(hst.1 h).2.1; omega) ?_
     unfold Zs
     dsimp only
     rw [if_pos (dlt h2),ek,Option.bind_some,if_neg (by simpa using c1),hg,if_pos (by simpa using c2)]
    ·obtain ⟨v,rfl⟩:∃v:Nat,x=(v:Int):=⟨x.toNat,by omega⟩
     have hv:v < n:=by omega
     have hb:zv (zb (Int.fdiv ((msk n fun i=>(l.take k).contains (i:Int):Nat):Int) (2^min (Int.toNat (v:Int)) (IntKind.bits .u64))) &&& zb 1).toNat = (((l.take k).contains (v:Int)).toNat : Int):=by
      rw [Qb8 (Qoa hn (Z2 n _)) (by omega),Jr v hv]
     by_cases c3:(l.take k).contains (v:Int)=true
     ·refine bad (fun h=>(hst.1 h).2.2 (by simpa using c3)) ?_
      unfold Zs
      dsimp only
      rw [if_pos (dlt h2),ek,Option.bind_some,if_neg (by simpa using c1),hg,if_neg (by simpa using c2),if_pos (Zi v),hb,c3,if_pos (by rfl)]
     ·refine .inl ⟨_,?_,hst.2 ⟨hok,by omega,by simpa using c3⟩,rfl⟩
      unfold Zs
      dsimp only
      rw [if_pos (dlt h2),ek,Option.bind_some,if_neg (by simpa using c1),hg,if_neg (by simpa using c2),if_pos (Zi v),hb,Bool.eq_false_iff.2 c3,if_neg (by decide),if_pos (Zi v),Qhu hn hv]
      congr 3
      congr 1
      refine Yu fun i hi=>?_
      have e:=List.take_succ_eq_append_getElem h2
      have e2:l[k]=(v:Int):=by
       have:=Zm h2
       rw [ek] at this; exact (Option.some.inj this).symm
      rw [e,e2]
      rw [Bool.eq_iff_iff]
      simp
      grind)
  (fun t hI=>⟨_,by unfold Zs; dsimp only; rw [if_neg (nlt _)],.inr ⟨(),rfl,by have:=hI.1; rwa [List.take_length] at this⟩⟩)
  0 ⟨⟨fun x hx=>by simp at hx,by simp⟩,by
   have:(msk n fun i=>([]:List Int).contains (i:Int))=0:=(Kf (by have:=Nat.two_pow_pos n; omega) fun i _=>by simp).symm
   rw [List.take_zero,this]; rfl⟩
 exact h
def Qvv (a:List Nat):Prop:=∀x∈a,x < 18446744073709551616
def okV (a:List Nat) (v:Nat):Prop:=(a.getD v 0) / 2^a.length=0∧(a.getD v 0).testBit v=false∧∀w,w < a.length→(a.getD v 0).testBit w=(a.getD w 0).testBit v
def okG (a:List Nat):Prop:=1≤a.length∧a.length≤10∧∀v,v < a.length→okV a v
theorem Qty {a:List Nat} {v:Nat} (h:v < a.length):lkI (nI a) (v:Int)=some ((a.getD v 0:Nat):Int):=by
 rw [Qbb h]; simp [h]
theorem Qn6 {a:List Nat} (h:Qvv a) {v:Nat} (hv:v < a.length):a.getD v 0 < 18446744073709551616:=by
 have:a.getD v 0=a[v]:=by simp [hv]
 rw [this]; exact h _ (List.getElem_mem hv)
theorem Q0y (x y:Bool):((x.toNat : Int) != (y.toNat : Int))=(x != y):=by cases x <;> cases y <;> rfl
theorem Q09 (x:Bool):((x.toNat : Int)==1)=x:=by cases x <;> rfl
theorem Q29 {a n:Nat} (hn:n≤10):Int.fdiv (a:Int) (2^min (Int.toNat (n:Int)) (IntKind.bits .u64))=((a / 2^n:Nat):Int):=by
 have hb:IntKind.bits .u64=64:=rfl
 rw [hb,Int.toNat_natCast,Nat.min_eq_left (by omega),Qll]
theorem Q3a {q:Nat} (h:¬ q=0):((q:Int) != 0)=true:=by simp; omega
theorem Qxk {a:List Nat} (ha:Qvv a) (hn:a.length≤10) {v:Nat} (hv:v < a.length) :
  ∃r,Qb fuel (Y0 (nI a) (v:Int) ((a.getD v 0:Nat):Int)) 0=some r∧((∃u,r=Sum.inl u∧¬ ∀w,w < a.length→(a.getD v 0).testBit w=(a.getD w 0).testBit v)∨(∃u,r=Sum.inr u∧∀w,w < a.length→(a.getD v 0).testBit w=(a.getD w 0).testBit v)):=by
 exact Jq (n:=a.length) (k0:=0) (by omega) (by omega) (fun i (t:Unit)=>i) (body:=Y0 (nI a) (v:Int) ((a.getD v 0:Nat):Int)) (fun k t=>∀w,w < k→(a.getD v 0).testBit w=(a.getD w 0).testBit v) (fun r=>(∃u,r=Sum.inl u∧¬ ∀w,w < a.length→(a.getD v 0).testBit w=(a.getD w 0).testBit v)∨(∃u,r=Sum.inr u∧∀w,w < a.length→(a.getD v 0).testBit w=(a.getD w 0).testBit v))
  (fun k t _ h2 hI=>by
   have hb:Y0 (nI a) (v:Int) ((a.getD v 0:Nat):Int) (k:Int)=if ((a.getD v 0).testBit k != (a.getD k 0).testBit v)=true then some (.done (Sum.inl ())) else some (.next (zw ((k:Int)+1))):=by
    unfold Y0
    rw [Qo,if_pos (dlt h2),if_pos (Zi k),Qty h2,Option.bind_some,if_pos (Zi v),Qb8 (Qn6 ha hv) (by omega),Qb8 (Qn6 ha h2) (by omega),Q0y]
   by_cases c:(a.getD v 0).testBit k=(a.getD k 0).testBit v
   ·refine .inl ⟨(),?_,fun w hw=>?_⟩
    ·rw [hb,if_neg (by simpa using c)]
    ·rcases Nat.lt_succ_iff_lt_or_eq.1 hw with h | h
     ·exact hI w h
     ·rw [h]; exact c
   ·refine .inr ⟨_,by rw [hb,if_pos (by simpa using c)],.inl ⟨(),rfl,fun h=>c (h k h2)⟩⟩)
  (fun t hI=>⟨_,by unfold Y0; rw [Qo,if_neg (nlt _)],.inr ⟨(),rfl,hI⟩⟩) () (fun w hw=>by omega)
theorem Qvz {a:List Nat} (ha:Qvv a):(Vn (nI a)=some 0∧okG a)∨(Vn (nI a)=some 80∧¬ okG a):=by
 unfold Vn
 rw [Qo]
 by_cases h1:a.length < 1
 ·right
  rw [if_pos (by simp; omega)]
  exact ⟨rfl,fun h=>by have:=h.1; omega⟩
 by_cases h2:a.length > 10
 ·right
  rw [if_neg (by simp; omega),if_pos (by simp; omega)]
  exact ⟨rfl,fun h=>by have:=h.2.1; omega⟩
 rw [if_neg (by simp; omega),if_neg (by simp; omega)]
 obtain ⟨r,e,hr⟩:=Jq (n:=a.length) (k0:=0) (by omega) (by omega) (fun i (t:Unit)=>i) (body:=J7 (nI a)) (fun k t=>∀v,v < k→okV a v) (fun r=>(∃u,r=Sum.inl u∧¬ ∀v,v < a.length→okV a v)∨(∃u,r=Sum.inr u∧∀v,v < a.length→okV a v))
  (fun k t _ h3 hI=>by
   unfold J7
   rw [Qo,if_pos (dlt h3),Qty h3,Option.bind_some,if_pos (Zi _),Q29 (by omega)]
   by_cases c1:(a.getD k 0) / 2^a.length=0
   ·rw [c1,if_neg (by simp),if_pos (Zi k),Qb8 (Qn6 ha h3) (by omega),Q09]
    by_cases c2:(a.getD k 0).testBit k=true
    ·refine .inr ⟨_,by rw [if_pos c2],.inl ⟨(),rfl,fun h=>?_⟩⟩
     have:=(h k h3).2.1
     rw [c2] at this; cases this
    ·rw [if_neg c2]
     obtain ⟨r,e,hr⟩:=Qxk ha (by omega) h3
     rw [e,Option.bind_some]
     rcases hr with ⟨u,rfl,hr⟩ | ⟨u,rfl,hr⟩
     ·exact .inr ⟨_,rfl,.inl ⟨(),rfl,fun h=>hr (h k h3).2.2⟩⟩
     ·refine .inl ⟨(),rfl,fun w hw=>?_⟩
      rcases Nat.lt_succ_iff_lt_or_eq.1 hw with h | h
      ·exact hI w h
      ·rw [h]; exact ⟨c1,by simpa using c2,hr⟩
   ·refine .inr ⟨_,by rw [if_pos (Q3a c1)],.inl ⟨(),rfl,fun h=>c1 (h k h3).1⟩⟩)
  (fun t hI=>⟨_,by unfold J7; rw [Qo,if_neg (nlt _)],.inr ⟨(),rfl,hI⟩⟩) () (fun w hw=>by omega)
 rw [show ((0:Nat):Int)=0 from rfl] at e
 rw [e,Option.bind_some]
 rcases hr with ⟨u,rfl,hr⟩ | ⟨u,rfl,hr⟩
 ·exact .inr ⟨rfl,fun h=>hr h.2.2⟩
 ·exact .inl ⟨rfl,by omega,by omega,hr⟩
theorem Q3i (n:Nat) (A:Gr):gl n A=nI ((List.range n).map fun v=>msk n (A v)):=by unfold gl nI; rw [List.map_map]; rfl
theorem Q1n {n:Nat} (hn:n≤10) (A:Gr):Qvv ((List.range n).map fun v=>msk n (A v)):=fun x hx=>by
 obtain ⟨v,_,rfl⟩:=List.mem_map.1 hx
 exact Qoa hn (Z2 n _)
theorem Qzl {n:Nat} {A:Gr} (h1:1≤n) (hn:n≤10) (hG:Vx n A):okG ((List.range n).map fun v=>msk n (A v)):=by
 have hl:((List.range n).map fun v=>msk n (A v)).length=n:=by simp
 have at':∀v,v < n→((List.range n).map fun v=>msk n (A v)).getD v 0=msk n (A v):=fun v hv=>by simp [hv]
 refine ⟨by omega,by omega,fun v hv=>?_⟩
 rw [hl] at hv
 unfold okV
 rw [hl,at' v hv]
 refine ⟨Nat.div_eq_of_lt (Z2 n _),by rw [Jr v hv,hG.irr],fun w hw=>?_⟩
 rw [at' w hw,Jr w hw,Jr v hv,hG.sym]
theorem Qzo {n:Nat} {A:Gr} (h1:1≤n) (hn:n≤10) (hG:Vx n A):Vn (gl n A)=some 0:=by
 rw [Q3i]
 rcases Qvz (Q1n hn A) with h | h
 ·exact h.1
 ·exact absurd (Qzl h1 hn hG) h.2
theorem Qyz {n:Nat} {A:Gr} {o:List Nat} (h1:1≤n) (hn:n≤10) (hG:Vx n A) (ho:Ord n o):Qb7 (gl n A) (nI o)=some 0:=by
 unfold Qb7
 rw [Qzo h1 hn hG,Option.bind_some,if_neg (by decide),Qo,Z1,ho.len,if_neg (by simp)]
 obtain ⟨r,e,hr⟩:=Qwx hn (Z1 n A) (l:=nI o) (by rw [Qo,ho.len]; omega)
 rw [e,Option.bind_some]
 rcases hr with ⟨u,rfl,hr⟩ | ⟨u,rfl,hr⟩
 ·exact absurd (Qtp ho) hr
 ·rfl
theorem Qyf {n:Nat} {A:Gr} {o:List Nat} (h1:1≤n) (hn:n≤10) (hG:Vx n A) (ho:Ord n o):Qbc (gl n A) (nI o)=some ((widL n A o:Int),0):=by
 have hl:o.length≤1000:=by rw [ho.len]; omega
 unfold Qbc
 rw [Qyz h1 hn hG ho,Option.bind_some,if_neg (by decide),Q0e hn hG ho.lt hl]; rfl
theorem Q06 (n:Nat):List.replicate n (0:Int)=gl n fun _ _=>false:=by
 apply List.ext_getElem?
 intro v
 by_cases hv:v < n
 ·rw [Qg3 hv]
  have:msk n (fun _=>false)=0:=(Kf (by have:=Nat.two_pow_pos n; omega) fun i _=>by simp).symm
  rw [this]; simp [hv]
 ·rw [List.getElem?_eq_none (by simp; omega),List.getElem?_eq_none (by rw [Z1]; omega)]
inductive Via (A:Gr) (R:Nat → Bool):Nat → Nat → Prop
 | one {v u:Nat} (h:A v u=true):Via A R v u
 | step {v x u:Nat} (h:A v x=true) (hx:R x=true) (k:Via A R x u):Via A R v u
theorem Via.trans {A:Gr} {R:Nat → Bool} {u v w:Nat} (h:Via A R u v) (hv:R v=true) (k:Via A R v w):Via A R u w:=by
 induction h with
 | one h=>exact .step h hv k
 | step h hx _ ih=>exact .step h hx (ih hv k)
theorem Via.symm {n:Nat} {A:Gr} {R:Nat → Bool} {u v:Nat} (hG:Vx n A) (h:Via A R u v):Via A R v u:=by
 induction h with
 | one h=>exact .one (by rw [hG.sym]; exact h)
 | step h hx _ ih=>exact ih.trans hx (.one (by rw [hG.sym]; exact h))
theorem Via.mono {A:Gr} {R R':Nat → Bool} {u v:Nat} (h:Via A R u v) (hR:∀x,R x=true→(∃y,A x y=true)→R' x=true):Via A R' u v:=by
 induction h with
 | one h=>exact .one h
 | step h hx k ih =>
  refine .step h (hR _ hx ?_) ih
  cases k with
  | one h=>exact ⟨_,h⟩
  | step h _ _=>exact ⟨_,h⟩
theorem Via.lt {n:Nat} {A:Gr} {R:Nat → Bool} {u v:Nat} (hG:Vx n A) (h:Via A R u v):u < n∧v < n:=by
 induction h with
 | one h=>exact ⟨hG.lt _ _ h,hG.lt _ _ (by rw [hG.sym]; exact h)⟩
 | step h _ _ ih=>exact ⟨hG.lt _ _ h,ih.2⟩
end Go.Ab
