/- What functions compute. No conditions. -/
import Derived.Test.YtokcpkcoahlkjaaProg
import Derived.Test.YtokcpkcoahlkjaaW10
import Derived.KernelRfl
import Derived.Test.YtokcpkcoahlkjaaW12
import Derived.Test.YtokcpkcoahlkjaaEng8
import Derived.IntWalk
set_option linter.all false
namespace Go.Ab
open Go Go.Proofs
set_option maxRecDepth 100000
set_option maxHeartbeats 4000000
noncomputable abbrev Qwk (p0:Qb):AObj:=oX true false 2 (.agg [vI p0.Grain,eL false eTapi_Node p0.Nodes])
noncomputable abbrev Q0d (p2:Int):AObj:=oX true true 1 (vI p2)
noncomputable abbrev Q0b (p3:Tapi_Shift):AObj:=oX true true 4 (.agg [vI p3.Node,vI p3.Row,vI p3.From,vI p3.To])
noncomputable abbrev Q02 (a1:Tapi_Node):AObj:=oX false false 1 (.ref 4 0 ((List.replicate (zt a1.Card) ((0,0,0,0):(Int × Int × Int × Int))).length))
noncomputable abbrev Qzp (a1:Tapi_Node):AObj:=oR true 4 (fun x:(Int × Int × Int × Int)=>AV.agg [vI x.1,vI x.2.1,vI x.2.2.1,vI x.2.2.2]) (List.replicate (zt a1.Card) ((0,0,0,0):(Int × Int × Int × Int)))
noncomputable abbrev Q6y:AObj:=oX false false 1 (.fn (.func 97) [] [.ptr 8 0 0,.ptr 9 0 0,.ptr 10 0 0,.ptr 11 0 0,.ptr 7 0 0])
noncomputable abbrev Q6v:AObj:=oX false false 1 (.fn (.func 73) [] [.ptr 0 0 0,.ptr 2 0 0,.ptr 3 0 0,.ptr 1 0 0,.ptr 5 0 0,.ptr 6 0 0])
noncomputable abbrev Q6h (p1:(List Int)):AObj:=oX true false 1 (z1 p1)
noncomputable abbrev o26_57 (s3:(Int × (List (Int × Int × Int × Int)) × Int × Int × (List Int))):AObj:=oX false false 1 (.ref 12 0 s3.2.2.2.2.length)
noncomputable abbrev o26_58 (s3:(Int × (List (Int × Int × Int × Int)) × Int × Int × (List Int))) (a10:Int) (a12:(Int × Int × Int × Int)) (x8:(Int × Int)):AObj:=oR true 4 (fun x:(Int × Int × Int × Int)=>AV.agg [vI x.1,vI x.2.1,vI x.2.2.1,vI x.2.2.2]) (List.set (List.set s3.2.1 (zt a10) (zw (a12.1+x8.1),a12.2.1,a12.2.2.1,a12.2.2.2)) (zt a10) ((zw (a12.1+x8.1),a12.2.1,a12.2.2.1,a12.2.2.2).1,zw (((zw (a12.1+x8.1),a12.2.1,a12.2.2.1,a12.2.2.2).2.1)+x8.2),(zw (a12.1+x8.1),a12.2.1,a12.2.2.1,a12.2.2.2).2.2.1,(zw (a12.1+x8.1),a12.2.1,a12.2.2.1,a12.2.2.2).2.2.2))
noncomputable abbrev Q0c (s3:(Int × (List (Int × Int × Int × Int)) × Int × Int × (List Int))) (a10:Int) (a12:(Int × Int × Int × Int)) (x8:(Int × Int)):AObj:=oX false false 1 (.ref 4 0 ((List.set (List.set s3.2.1 (zt a10) (zw (a12.1+x8.1),a12.2.1,a12.2.2.1,a12.2.2.2)) (zt a10) ((zw (a12.1+x8.1),a12.2.1,a12.2.2.1,a12.2.2.2).1,zw (((zw (a12.1+x8.1),a12.2.1,a12.2.2.1,a12.2.2.2).2.1)+x8.2),(zw (a12.1+x8.1),a12.2.1,a12.2.2.1,a12.2.2.2).2.2.1,(zw (a12.1+x8.1),a12.2.1,a12.2.2.1,a12.2.2.2).2.2.2)).length))
noncomputable abbrev o26_60 (s18:(Int × (List (Int × Int × Int × Int)) × Int × Int × (List Int))):AObj:=oR true 4 (fun x:(Int × Int × Int × Int)=>AV.agg [vI x.1,vI x.2.1,vI x.2.2.1,vI x.2.2.2]) s18.2.1
noncomputable abbrev o26_61 (x37:((List (Int × Int × Int × Int)) × Int × Int × (List Int))):AObj:=oX true true 1 (vI x37.2.2.1)
noncomputable abbrev Qj8 (s39:(Int × (List (Int × Int × Int × Int)))):AObj:=oX false false 1 (.ref 3 0 s39.2.length)
noncomputable abbrev Qre (s39:(Int × (List (Int × Int × Int × Int)))):AObj:=oR true 4 (fun x:(Int × Int × Int × Int)=>AV.agg [vI x.1,vI x.2.1,vI x.2.2.1,vI x.2.2.2]) s39.2
noncomputable abbrev o26_64 (s39:(Int × (List (Int × Int × Int × Int)))) (a42:(Int × Int × Int × Int)) (x37:((List (Int × Int × Int × Int)) × Int × Int × (List Int))):AObj:=oR true 4 (fun x:(Int × Int × Int × Int)=>AV.agg [vI x.1,vI x.2.1,vI x.2.2.1,vI x.2.2.2]) (List.set s39.2 (zt s39.1) (a42.1,a42.2.1,x37.2.1,a42.2.2.2))
noncomputable abbrev Qux:Nat×AV:=(41,.fn (.func 97) [] [.ptr 8 0 0,.ptr 9 0 0,.ptr 10 0 0,.ptr 11 0 0,.ptr 7 0 0])
noncomputable abbrev l26_66 (a0 a1 a2 a3 a4:AObj) (p0:Qb) (p2:Int) (p3:Tapi_Shift) (p1:(List Int)):List AObj:=[(Qwk p0),(Q0d p2),(Q0b p3),a0,a1,a2,a3,Q6y,a4,Q6v,(Qwk p0),(Q6h p1)]
noncomputable abbrev s26_67 (a0 a1:Nat×AV) (x37:((List (Int × Int × Int × Int)) × Int × Int × (List Int))) (s39:(Int × (List (Int × Int × Int × Int)))):List (Nat×AV):=[(9,.ptr 0 0 0),(10,.ptr 1 0 0),(11,.ptr 2 0 0),(25,vI (zn x37.1)),(26,vI s39.1),(27,vB true),(28,vI s39.1),(12,vI s39.1),a0,(30,vI s39.1),a1,(32,vI s39.1),(33,vI x37.2.1),(34,vI x37.2.2.1),(35,.ptr 3 (zt s39.1) 0),(36,.ptr 3 (zt s39.1) 2)]
noncomputable abbrev s26_68 (s3:(Int × (List (Int × Int × Int × Int)) × Int × Int × (List Int))) (a16:Tapi_Node) (s18:(Int × (List (Int × Int × Int × Int)) × Int × Int × (List Int))):List (Nat×AV):=[(0,vI s3.1),(1,.ptr 8 0 0),(4,.ptr 11 0 0),(5,.ptr 7 0 0),(20,vI a16.Card),(21,vI s18.1)]
noncomputable abbrev Qvs (s3:(Int × (List (Int × Int × Int × Int)) × Int × Int × (List Int))) (a10:Int) (a12:(Int × Int × Int × Int)) (x8:(Int × Int)) (p0:Qb) (p2:Int) (p3:Tapi_Shift) (p1:(List Int)):St:=⟨[],(l26_66 (Q0c s3 a10 a12 x8) (o26_58 s3 a10 a12 x8) (oX true true 1 (vI (zw (s3.2.2.1+x8.1)))) (oX true true 1 (vI (zw (s3.2.2.2.1+x8.2)))) (o26_57 s3) p0 p2 p3 p1)++[oR true 1 eI s3.2.2.2.2],46⟩
noncomputable abbrev Q1l (s3:(Int × (List (Int × Int × Int × Int)) × Int × Int × (List Int))) (a16:Tapi_Node) (s18:(Int × (List (Int × Int × Int × Int)) × Int × Int × (List Int))) (p0:Qb) (p2:Int) (p3:Tapi_Shift) (p1:(List Int)):St:=⟨(s26_68 s3 a16 s18)++[Qux,(42,vI s3.1),(43,vI (zw (s3.1+1)))],(l26_66 (oX false false 1 (.ref 4 0 s18.2.1.length)) (o26_60 s18) (oX true true 1 (vI s18.2.2.1)) (oX true true 1 (vI s18.2.2.2.1)) (oX false false 1 (.ref 12 0 ((List.set s18.2.2.2.2 (zt s3.1) s18.1).length))) p0 p2 p3 p1)++[oR true 1 eI (List.set s18.2.2.2.2 (zt s3.1) s18.1)],46⟩
noncomputable abbrev Qz2 (x36:((List (Int × Int × Int × Int)) × Int × Int × (List Int))) (p0:Qb) (p2:Int) (p3:Tapi_Shift) (p1:(List Int)):St:=⟨[],(l26_66 (oX false false 1 (.ref 4 0 x36.1.length)) (oR true 4 (fun x:(Int × Int × Int × Int)=>AV.agg [vI x.1,vI x.2.1,vI x.2.2.1,vI x.2.2.2]) x36.1) (oX true true 1 (vI x36.2.1)) (oX true true 1 (vI x36.2.2.1)) (oX false false 1 (.ref 12 0 x36.2.2.2.length)) p0 p2 p3 p1)++[oR true 1 eI x36.2.2.2],46⟩
theorem Qd9 (p0:Qb) (p1:(List Int)) (p2:Int) (p3:Tapi_Shift) (x:(List (Int × Int × Int × Int))) (h:Vc p0 p1 p2 p3=some x):Qx Try.prog 36 [.agg [vI p0.Grain,eL false eTapi_Node p0.Nodes],z1 p1,vI p2,.agg [vI p3.Node,vI p3.Row,vI p3.From,vI p3.To]] (.ret (.ref 0 0 x.length) [oR true 4 (fun x:(Int × Int × Int × Int)=>AV.agg [vI x.1,vI x.2.1,vI x.2.2.1,vI x.2.2.2]) x]):=by
 refine Q4o [] Try.func36 rfl (by decide +kernel) rfl ?_
 unfold Vc at h
 refine Qu8 (base':=0) (st':=⟨[(0,.agg [vI p0.Grain,eL false eTapi_Node p0.Nodes]),(1,z1 p1),(2,vI p2),(3,.agg [vI p3.Node,vI p3.Row,vI p3.From,vI p3.To])],[],41⟩) kr kr ?_
 refine Xi (Vz ?_)
 refine sgL false [] [] false gE ?_
 refine sz 3 4 (Ye rfl (Xi (Vz (sz 3 3 ?_))))
 refine Ki h (fun a1 q2 h=>?_)
 refine Qe (enc:=eTapi_Node) (l:=p0.Nodes) (n:=p2) (fl:=false) (w:=3) (a:=a1) kr rfl gE q2 ?_
 refine sz 2 6 ?_
 refine mkL (enc:=(fun x:(Int × Int × Int × Int)=>AV.agg [vI x.1,vI x.2.1,vI x.2.2.1,vI x.2.2.2])) (z:=((0,0,0,0):(Int × Int × Int × Int))) (z0:=.agg [vI 0,vI 0,vI 0,vI 0]) (n:=a1.Card) (m:=a1.Card) (w:=4) (bytes:=32) [] true kr rfl gE kr h (fun h=>?_)
 refine sgL false [] [] false gE ?_
 refine sz 1 9 (Ye rfl (Xi (wg [1,4,6,7,9] [0,1,2,4,3] (rn (Xi (Vz (sz 3 3 ?_)))))))
 refine Qyi (f:=72) (fn:=Try.f72) (as0:=[.agg [vI p0.Grain,eL false eTapi_Node p0.Nodes],z1 p1,.fn (.func 73) [] [.ptr 0 0 0,.ptr 2 0 0,.ptr 3 0 0,.ptr 1 0 0,.ptr 5 0 0,.ptr 6 0 0]]) kr Try.func72 rfl (by decide +kernel) rfl ?_
 refine Qu8 (base':=7) (st':=⟨[(0,.agg [vI p0.Grain,eL false eTapi_Node p0.Nodes]),(1,z1 p1),(2,.fn (.func 73) [] [.ptr 0 0 0,.ptr 2 0 0,.ptr 3 0 0,.ptr 1 0 0,.ptr 5 0 0,.ptr 6 0 0])],[(Qwk p0),(Q0d p2),(Q0b p3),(Q02 a1),(Qzp a1),oX true true 1 (vI 0),oX true true 1 (vI 0)],15⟩) kr kr ?_
 refine Xi (Vz ?_)
 refine sgL false [] [] false gE ?_
 refine sgL false [] [] false gE ?_
 refine sgL false [] [] false gE ?_
 refine Ye rfl (Xi (Vz (sz 2 2 ?_)))
 refine Qr (enc:=eTapi_Node) (l:=p0.Nodes) (fl:=false) kr gE ?_
 refine mkL (enc:=eI) (z:=(0:Int)) (z0:=vI 0) (n:=(zn p0.Nodes)) (m:=(zn p0.Nodes)) (w:=1) (bytes:=8) [] true kr rfl gE kr h (fun h=>?_)
 refine sgL false [] [] false gE ?_
 refine sz 1 6 (Ye rfl (Xi (wg [3,4,5,6] [7,8,9,11,10] (Vz ?_))))
 refine sgL false [] [] false gE ?_
 refine Ye rfl (sq (wg [7] [12,10,9,7,8,11] (Vz ?_)))
 refine sgz 1 1 (S:=⟨[(7,.ptr 7 0 0),(13,.fn (.func 97) [] [.ptr 8 0 0,.ptr 9 0 0,.ptr 10 0 0,.ptr 11 0 0,.ptr 7 0 0])],(l26_66 (Q02 a1) (Qzp a1) (oX true true 1 (vI 0)) (oX true true 1 (vI 0)) (oX false false 1 (.ref 12 0 ((List.replicate (zt (zn p0.Nodes)) (0:Int)).length))) p0 p2 p3 p1)++[oR true 1 eI (List.replicate (zt (zn p0.Nodes)) (0:Int))],15⟩) ?_
 refine Q7r (f:=97) (fn:=Try.f97) (as0:=[vI 0,.ptr 8 0 0,.ptr 9 0 0,.ptr 10 0 0,.ptr 11 0 0,.ptr 7 0 0]) (N:=13) (I:=fun s3=>⟨[(0,vI s3.1),(1,.ptr 8 0 0),(2,.ptr 9 0 0),(3,.ptr 10 0 0),(4,.ptr 11 0 0),(5,.ptr 7 0 0)],(l26_66 (oX false false 1 (.ref 4 0 s3.2.1.length)) (oR true 4 (fun x:(Int × Int × Int × Int)=>AV.agg [vI x.1,vI x.2.1,vI x.2.2.1,vI x.2.2.2]) s3.2.1) (oX true true 1 (vI s3.2.2.1)) (oX true true 1 (vI s3.2.2.2.1)) (o26_57 s3) p0 p2 p3 p1)++[oR true 1 eI s3.2.2.2.2],46⟩) (E:=fun v=>⟨[],(l26_66 (oX false false 1 (.ref 4 0 v.1.length)) (oR true 4 (fun x:(Int × Int × Int × Int)=>AV.agg [vI x.1,vI x.2.1,vI x.2.2.1,vI x.2.2.2]) v.1) (oX true true 1 (vI v.2.1)) (oX true true 1 (vI v.2.2.1)) (oX false false 1 (.ref 12 0 v.2.2.2.length)) p0 p2 p3 p1)++[oR true 1 eI v.2.2.2],46⟩) (F:=(Q8 p0 p3 p2 p1)) (0,(List.replicate (zt a1.Card) ((0,0,0,0):(Int × Int × Int × Int))),0,0,(List.replicate (zt (zn p0.Nodes)) (0:Int))) kr Try.func97 rfl (by decide +kernel) rfl kr rfl h ?_ (fun x37 h=>?_)
 ·intro r4 i5 s3 y38 h
  unfold Q8 at h
  refine Q45 ?_
  refine Xi (sq ?_)
  refine wbz h (fun q7 h=>?_) (fun q7 h=>?_)
  ·refine Xi (wg [1,2] [] (Vz (sz 2 2 ?_)))
   refine Qyi (f:=73) (fn:=Try.f73) (as0:=[.ref 12 0 s3.2.2.2.2.length,.ptr 0 0 0,.ptr 2 0 0,.ptr 3 0 0,.ptr 1 0 0,.ptr 5 0 0,.ptr 6 0 0]) kr Try.func73 rfl (by decide +kernel) rfl ?_
   refine Qu8 (base':=13) (st':=⟨[(0,.ref 12 0 s3.2.2.2.2.length),(1,.ptr 0 0 0),(2,.ptr 2 0 0),(3,.ptr 3 0 0),(4,.ptr 1 0 0),(5,.ptr 5 0 0),(6,.ptr 6 0 0)],(l26_66 (oX false false 1 (.ref 4 0 s3.2.1.length)) (oR true 4 (fun x:(Int × Int × Int × Int)=>AV.agg [vI x.1,vI x.2.1,vI x.2.2.1,vI x.2.2.2]) s3.2.1) (oX true true 1 (vI s3.2.2.1)) (oX true true 1 (vI s3.2.2.2.1)) (o26_57 s3) p0 p2 p3 p1)++[oR true 1 eI s3.2.2.2.2],47⟩) kr kr ?_
   refine Xi (Vz (sz 3 3 ?_))
   refine Qtm (as0:=[.agg [vI p0.Grain,eL false eTapi_Node p0.Nodes],.ref 12 0 s3.2.2.2.2.length,.agg [vI p3.Node,vI p3.Row,vI p3.From,vI p3.To]]) (ids:=[12]) kr Q3q (Q7 (Qde (Q7 rfl (Q7 rfl Ji (by rfl)) (by rfl))) (Q7 (Z3 (w:=1) (bx:=false) (ro:=false) (enc:=eI) (l:=s3.2.2.2.2) (fl:=true) kr) (Q7 (Qde (Q7 rfl (Q7 rfl (Q7 rfl (Q7 rfl Ji (by rfl)) (by rfl)) (by rfl)) (by rfl))) Ji (by rfl)) (by rfl)) (by rfl)) (fun x8 q9=>Qkt p0 s3.2.2.2.2 p3 x8 q9) gF h (fun x8 q9 h=>?_)
   refine sz 5 9 (Ye rfl (Xi (wg [0,3,4,5,6,8,9] [] (rga Q18 (sy 3 3 ?_)))))
   refine Ki h (fun a10 q11 h=>?_)
   refine Q2 (enc:=eI) (l:=s3.2.2.2.2) (n:=p2) (w:=1) (ob:=12) (ro:=false) (nr:=true) (fl:=true) (a:=a10) kr kr gE q11 ?_
   refine Zo (enc:=eI) (l:=s3.2.2.2.2) (n:=p2) (w:=1) (ob:=12) (c:=0) (bx:=false) (ro:=false) (nr:=true) (fl:=true) (a:=a10) kr kr q11 gE ?_
   refine Ki h (fun a12 q13 h=>?_)
   refine Q2 (enc:=(fun x:(Int × Int × Int × Int)=>AV.agg [vI x.1,vI x.2.1,vI x.2.2.1,vI x.2.2.2])) (l:=s3.2.1) (n:=a10) (w:=4) (ob:=4) (ro:=false) (nr:=true) (fl:=true) (a:=a12) kr kr gE q13 ?_
   refine sy 1 7 ?_
   refine Zo (enc:=(fun x:(Int × Int × Int × Int)=>AV.agg [vI x.1,vI x.2.1,vI x.2.2.1,vI x.2.2.2])) (l:=s3.2.1) (n:=a10) (w:=4) (ob:=4) (c:=0) (bx:=false) (ro:=false) (nr:=true) (fl:=true) (a:=a12) kr kr q13 gE ?_
   refine sy 2 10 ?_
   refine Q2 (enc:=(fun x:(Int × Int × Int × Int)=>AV.agg [vI x.1,vI x.2.1,vI x.2.2.1,vI x.2.2.2])) (l:=s3.2.1) (n:=a10) (w:=4) (ob:=4) (ro:=false) (nr:=true) (fl:=true) (a:=a12) kr kr gE q13 ?_
   refine sy 1 12 ?_
   refine Vi (enc:=(fun x:(Int × Int × Int × Int)=>AV.agg [vI x.1,vI x.2.1,vI x.2.2.1,vI x.2.2.2])) (l:=s3.2.1) (n:=a10) (ob:=4) (w:=4) (bx:=false) (nr:=true) (fl:=true) (c:=0) (a:=a12) (a':=(zw (a12.1+x8.1),a12.2.1,a12.2.2.1,a12.2.2.2)) (v:=vI (zw (a12.1+x8.1))) false kr kr q13 kr rfl kr gE kr ?_
   refine Qsf (n:=s3.2.1.length) (m:=(List.set s3.2.1 (zt a10) (zw (a12.1+x8.1),a12.2.1,a12.2.2.1,a12.2.2.2)).length) (S:=fun n15=>⟨[(0,.ref 12 0 s3.2.2.2.2.length),(3,.ptr 3 0 0),(4,.ptr 1 0 0),(5,.ptr 5 0 0),(6,.ptr 6 0 0),(8,vI x8.1),(9,vI x8.2),(17,.ref 4 0 n15),(18,.ref 12 0 s3.2.2.2.2.length),(19,vI p2),(20,.ptr 12 (zt p2) 0),(21,vI a10),(22,.ptr 4 (zt a10) 0),(23,.ptr 4 (zt a10) 0),(24,vI a12.1),(25,vI x8.1),(26,vI (zw (a12.1+x8.1))),(27,.ptr 4 (zt a10) 0),(28,.ptr 4 (zt a10) 0)],(l26_66 (oX false false 1 (.ref 4 0 n15)) (oR true 4 (fun x:(Int × Int × Int × Int)=>AV.agg [vI x.1,vI x.2.1,vI x.2.2.1,vI x.2.2.2]) (List.set s3.2.1 (zt a10) (zw (a12.1+x8.1),a12.2.1,a12.2.2.1,a12.2.2.2))) (oX true true 1 (vI s3.2.2.1)) (oX true true 1 (vI s3.2.2.2.1)) (o26_57 s3) p0 p2 p3 p1)++[oR true 1 eI s3.2.2.2.2],47⟩) (by simp only [List.length_set]) ?_
   refine rgd (Xi (wg [0,3,4,5,6,8,9] [] (rga Q18 (sy 3 3 ?_))))
   refine Q2 (enc:=eI) (l:=s3.2.2.2.2) (n:=p2) (w:=1) (ob:=12) (ro:=false) (nr:=true) (fl:=true) (a:=a10) kr kr gE q11 ?_
   refine Zo (enc:=eI) (l:=s3.2.2.2.2) (n:=p2) (w:=1) (ob:=12) (c:=0) (bx:=false) (ro:=false) (nr:=true) (fl:=true) (a:=a10) kr kr q11 gE ?_
   refine Q2 (enc:=(fun x:(Int × Int × Int × Int)=>AV.agg [vI x.1,vI x.2.1,vI x.2.2.1,vI x.2.2.2])) (l:=(List.set s3.2.1 (zt a10) (zw (a12.1+x8.1),a12.2.1,a12.2.2.1,a12.2.2.2))) (n:=a10) (w:=4) (ob:=4) (ro:=false) (nr:=true) (fl:=true) (a:=(zw (a12.1+x8.1),a12.2.1,a12.2.2.1,a12.2.2.2)) kr kr gE (lkI_set (zw (a12.1+x8.1),a12.2.1,a12.2.2.1,a12.2.2.2) q13) ?_
   refine sy 1 7 ?_
   refine Zo (enc:=(fun x:(Int × Int × Int × Int)=>AV.agg [vI x.1,vI x.2.1,vI x.2.2.1,vI x.2.2.2])) (l:=(List.set s3.2.1 (zt a10) (zw (a12.1+x8.1),a12.2.1,a12.2.2.1,a12.2.2.2))) (n:=a10) (w:=4) (ob:=4) (c:=1) (bx:=false) (ro:=false) (nr:=true) (fl:=true) (a:=(zw (a12.1+x8.1),a12.2.1,a12.2.2.1,a12.2.2.2)) kr kr (lkI_set (zw (a12.1+x8.1),a12.2.1,a12.2.2.1,a12.2.2.2) q13) gE ?_
   refine sy 2 10 ?_
   refine Q2 (enc:=(fun x:(Int × Int × Int × Int)=>AV.agg [vI x.1,vI x.2.1,vI x.2.2.1,vI x.2.2.2])) (l:=(List.set s3.2.1 (zt a10) (zw (a12.1+x8.1),a12.2.1,a12.2.2.1,a12.2.2.2))) (n:=a10) (w:=4) (ob:=4) (ro:=false) (nr:=true) (fl:=true) (a:=(zw (a12.1+x8.1),a12.2.1,a12.2.2.1,a12.2.2.2)) kr kr gE (lkI_set (zw (a12.1+x8.1),a12.2.1,a12.2.2.1,a12.2.2.2) q13) ?_
   refine sy 1 12 ?_
   refine Vi (enc:=(fun x:(Int × Int × Int × Int)=>AV.agg [vI x.1,vI x.2.1,vI x.2.2.1,vI x.2.2.2])) (l:=(List.set s3.2.1 (zt a10) (zw (a12.1+x8.1),a12.2.1,a12.2.2.1,a12.2.2.2))) (n:=a10) (ob:=4) (w:=4) (bx:=false) (nr:=true) (fl:=true) (c:=1) (a:=(zw (a12.1+x8.1),a12.2.1,a12.2.2.1,a12.2.2.2)) (a':=((zw (a12.1+x8.1),a12.2.1,a12.2.2.1,a12.2.2.2).1,zw (((zw (a12.1+x8.1),a12.2.1,a12.2.2.1,a12.2.2.2).2.1)+x8.2),(zw (a12.1+x8.1),a12.2.1,a12.2.2.1,a12.2.2.2).2.2.1,(zw (a12.1+x8.1),a12.2.1,a12.2.2.1,a12.2.2.2).2.2.2)) (v:=vI (zw (((zw (a12.1+x8.1),a12.2.1,a12.2.2.1,a12.2.2.2).2.1)+x8.2))) false kr kr (lkI_set (zw (a12.1+x8.1),a12.2.1,a12.2.2.1,a12.2.2.2) q13) kr rfl kr gE kr ?_
   refine Qsf (n:=(List.set s3.2.1 (zt a10) (zw (a12.1+x8.1),a12.2.1,a12.2.2.1,a12.2.2.2)).length) (m:=(List.set (List.set s3.2.1 (zt a10) (zw (a12.1+x8.1),a12.2.1,a12.2.2.1,a12.2.2.2)) (zt a10) ((zw (a12.1+x8.1),a12.2.1,a12.2.2.1,a12.2.2.2).1,zw (((zw (a12.1+x8.1),a12.2.1,a12.2.2.1,a12.2.2.2).2.1)+x8.2),(zw (a12.1+x8.1),a12.2.1,a12.2.2.1,a12.2.2.2).2.2.1,(zw (a12.1+x8.1),a12.2.1,a12.2.2.1,a12.2.2.2).2.2.2)).length) (S:=fun n14=>⟨[(0,.ref 12 0 s3.2.2.2.2.length),(3,.ptr 3 0 0),(4,.ptr 1 0 0),(5,.ptr 5 0 0),(6,.ptr 6 0 0),(8,vI x8.1),(9,vI x8.2),(29,.ref 4 0 n14),(30,.ref 12 0 s3.2.2.2.2.length),(31,vI p2),(32,.ptr 12 (zt p2) 0),(33,vI a10),(34,.ptr 4 (zt a10) 0),(35,.ptr 4 (zt a10) 1),(36,vI ((zw (a12.1+x8.1),a12.2.1,a12.2.2.1,a12.2.2.2).2.1)),(37,vI x8.2),(38,vI (zw (((zw (a12.1+x8.1),a12.2.1,a12.2.2.1,a12.2.2.2).2.1)+x8.2))),(39,.ptr 4 (zt a10) 0),(40,.ptr 4 (zt a10) 1)],(l26_66 (oX false false 1 (.ref 4 0 n14)) (o26_58 s3 a10 a12 x8) (oX true true 1 (vI s3.2.2.1)) (oX true true 1 (vI s3.2.2.2.1)) (o26_57 s3) p0 p2 p3 p1)++[oR true 1 eI s3.2.2.2.2],47⟩) (by simp only [List.length_set]) ?_
   refine rgd (Xi (wg [5,6,8,9] [] (rn (wg [6,9] [] (rn ?_)))))
   refine ⟨⟨[(1,.ptr 8 0 0),(2,.ptr 9 0 0),(12,.fn (.func 73) [] [.ptr 0 0 0,.ptr 2 0 0,.ptr 3 0 0,.ptr 1 0 0,.ptr 5 0 0,.ptr 6 0 0]),(13,.ref 12 0 s3.2.2.2.2.length),(14,.tup [])],(l26_66 (Q0c s3 a10 a12 x8) (o26_58 s3 a10 a12 x8) (oX true true 1 (vI (zw (s3.2.2.1+x8.1)))) (oX true true 1 (vI (zw (s3.2.2.2.1+x8.2)))) (o26_57 s3) p0 p2 p3 p1)++[oR true 1 eI s3.2.2.2.2],46⟩,by kernel_rfl,?_⟩
   refine Ye rfl ?_
   refine wgc [] [] (Qvs s3 a10 a12 x8 p0 p2 p3 p1) ?_
   refine Qu6 ?_
   cases h
   refine ⟨(Qvs s3 a10 a12 x8 p0 p2 p3 p1),(Zd (live:=[]) (keep:=[]) (st':=(Qvs s3 a10 a12 x8 p0 p2 p3 p1)) (by kernel_rfl)),?_⟩
   exact .inl (by kernel_rfl)
  refine wp_skip (Xi (wg [0,1,3,4,5] [] (Vz (sz 3 3 ?_))))
  refine Ki h (fun a16 q17 h=>?_)
  refine Qe (enc:=eTapi_Node) (l:=p0.Nodes) (n:=s3.1) (fl:=false) (w:=3) (a:=a16) kr rfl gE q17 ?_
  refine sz 3 7 (Ye rfl (Qhn ?_))
  refine wwh h (fun s18=>⟨(s26_68 s3 a16 s18),(l26_66 (oX false false 1 (.ref 4 0 s18.2.1.length)) (o26_60 s18) (oX true true 1 (vI s18.2.2.1)) (oX true true 1 (vI s18.2.2.2.1)) (oX false false 1 (.ref 12 0 s18.2.2.2.2.length)) p0 p2 p3 p1)++[oR true 1 eI s18.2.2.2.2],46⟩) (fun v out=>out=.go (.exit 0) ⟨[],(l26_66 (oX false false 1 (.ref 4 0 v.1.length)) (oR true 4 (fun x:(Int × Int × Int × Int)=>AV.agg [vI x.1,vI x.2.1,vI x.2.2.1,vI x.2.2.2]) v.1) (oX true true 1 (vI v.2.1)) (oX true true 1 (vI v.2.2.1)) (oX false false 1 (.ref 12 0 v.2.2.2.length)) p0 p2 p3 p1)++[oR true 1 eI v.2.2.2],46⟩) (Zd (live:=[0,1,4,5,20,21]) (keep:=[]) kr) ?_ ?_
  ·intro s18 o h
   unfold Jd at h
   refine sq (Xi ?_)
   refine wb [22] h (fun q20 h=>?_) (fun q20 h=>?_)
   ·refine wcT (wp_skip (Xi (Qhn (sq (Xi (Vz (sz 2 2 ?_)))))))
    refine Ki h (fun a21 q22 h=>?_)
    refine Qe (enc:=eI) (l:=p1) (n:=s3.1) (fl:=true) (w:=1) (a:=a21) kr rfl gE q22 ?_
    refine sz 3 6 (rwg [0,1,4,5,20,21,7,29] [] ?_)
    refine rb [29] h (fun q24 h=>?_) (fun q24 h=>?_)
    ·refine sz 7 13 (Ye rfl (wcT (Xi (wg [0,1,4,5,20,21,7] [] (Vz (sz 3 3 ?_))))))
     refine Ki h (fun a25 q26 h=>?_)
     refine Q2 (enc:=eI) (l:=s18.2.2.2.2) (n:=s3.1) (w:=1) (ob:=12) (ro:=false) (nr:=true) (fl:=true) (a:=a25) kr kr gE q26 ?_
     refine Vi (enc:=eI) (l:=s18.2.2.2.2) (n:=s3.1) (ob:=12) (w:=1) (bx:=false) (nr:=true) (fl:=true) (c:=0) (a:=a25) (a':=s18.1) (v:=vI s18.1) false kr kr q26 kr rfl kr gE kr ?_
     refine Qsf (n:=s18.2.2.2.2.length) (m:=(List.set s18.2.2.2.2 (zt s3.1) s18.1).length) (S:=fun n28=>⟨(s26_68 s3 a16 s18)++[(7,vI s18.1),(37,.ref 12 0 n28),(38,vI s3.1),(39,vI s18.1),(40,.ptr 12 (zt s3.1) 0)],(l26_66 (oX false false 1 (.ref 4 0 s18.2.1.length)) (o26_60 s18) (oX true true 1 (vI s18.2.2.1)) (oX true true 1 (vI s18.2.2.2.1)) (oX false false 1 (.ref 12 0 n28)) p0 p2 p3 p1)++[oR true 1 eI (List.set s18.2.2.2.2 (zt s3.1) s18.1)],46⟩) (by simp only [List.length_set]) ?_
     refine Ye rfl (wg [0,1,4,5,20,21] [] (Vz ?_))
     refine sgz 3 3 (S:=(Q1l s3 a16 s18 p0 p2 p3 p1)) ?_
     refine Q2q (f:=97) (fn:=Try.f97) (as0:=[vI (zw (s3.1+1)),.ptr 8 0 0,.ptr 9 0 0,.ptr 10 0 0,.ptr 11 0 0,.ptr 7 0 0]) (zw (s3.1+1),s18.2.1,s18.2.2.1,s18.2.2.2.1,(List.set s18.2.2.2.2 (zt s3.1) s18.1)) kr Try.func97 rfl (by decide +kernel) rfl kr rfl i5 h (fun x27 h=>?_)
     refine ⟨⟨(s26_68 s3 a16 s18)++[Qux,(42,vI s3.1),(43,vI (zw (s3.1+1))),(44,.tup [])],(l26_66 (oX false false 1 (.ref 4 0 x27.1.length)) (oR true 4 (fun x:(Int × Int × Int × Int)=>AV.agg [vI x.1,vI x.2.1,vI x.2.2.1,vI x.2.2.2]) x27.1) (oX true true 1 (vI x27.2.1)) (oX true true 1 (vI x27.2.2.1)) (oX false false 1 (.ref 12 0 x27.2.2.2.length)) p0 p2 p3 p1)++[oR true 1 eI x27.2.2.2],46⟩,by kernel_rfl,?_⟩
     refine Ye rfl (rn ?_)
     cases h
     exact ⟨_,rfl,(Zd (live:=[0,1,4,5,20,21]) (keep:=[]) kr)⟩
    refine sz 2 8 ?_
    refine Qe (enc:=eI) (l:=p1) (n:=s3.1) (fl:=true) (w:=1) (a:=a21) kr rfl gE q22 ?_
    refine sz 4 13 (Ye rfl ?_)
    refine wbz h (fun q30 h=>?_) (fun q30 h=>?_)
    ·refine Xi (wg [0,1,4,5,20,21,7] [] (Vz (sz 3 3 ?_)))
     refine Ki h (fun a31 q32 h=>?_)
     refine Q2 (enc:=eI) (l:=s18.2.2.2.2) (n:=s3.1) (w:=1) (ob:=12) (ro:=false) (nr:=true) (fl:=true) (a:=a31) kr kr gE q32 ?_
     refine Vi (enc:=eI) (l:=s18.2.2.2.2) (n:=s3.1) (ob:=12) (w:=1) (bx:=false) (nr:=true) (fl:=true) (c:=0) (a:=a31) (a':=s18.1) (v:=vI s18.1) false kr kr q32 kr rfl kr gE kr ?_
     refine Qsf (n:=s18.2.2.2.2.length) (m:=(List.set s18.2.2.2.2 (zt s3.1) s18.1).length) (S:=fun n34=>⟨(s26_68 s3 a16 s18)++[(7,vI s18.1),(37,.ref 12 0 n34),(38,vI s3.1),(39,vI s18.1),(40,.ptr 12 (zt s3.1) 0)],(l26_66 (oX false false 1 (.ref 4 0 s18.2.1.length)) (o26_60 s18) (oX true true 1 (vI s18.2.2.1)) (oX true true 1 (vI s18.2.2.2.1)) (oX false false 1 (.ref 12 0 n34)) p0 p2 p3 p1)++[oR true 1 eI (List.set s18.2.2.2.2 (zt s3.1) s18.1)],46⟩) (by simp only [List.length_set]) ?_
     refine Ye rfl (wg [0,1,4,5,20,21] [] (Vz ?_))
     refine sgz 3 3 (S:=(Q1l s3 a16 s18 p0 p2 p3 p1)) ?_
     refine Q2q (f:=97) (fn:=Try.f97) (as0:=[vI (zw (s3.1+1)),.ptr 8 0 0,.ptr 9 0 0,.ptr 10 0 0,.ptr 11 0 0,.ptr 7 0 0]) (zw (s3.1+1),s18.2.1,s18.2.2.1,s18.2.2.2.1,(List.set s18.2.2.2.2 (zt s3.1) s18.1)) kr Try.func97 rfl (by decide +kernel) rfl kr rfl i5 h (fun x33 h=>?_)
     refine ⟨⟨(s26_68 s3 a16 s18)++[Qux,(42,vI s3.1),(43,vI (zw (s3.1+1))),(44,.tup [])],(l26_66 (oX false false 1 (.ref 4 0 x33.1.length)) (oR true 4 (fun x:(Int × Int × Int × Int)=>AV.agg [vI x.1,vI x.2.1,vI x.2.2.1,vI x.2.2.2]) x33.1) (oX true true 1 (vI x33.2.1)) (oX true true 1 (vI x33.2.2.1)) (oX false false 1 (.ref 12 0 x33.2.2.2.length)) p0 p2 p3 p1)++[oR true 1 eI x33.2.2.2],46⟩,by kernel_rfl,?_⟩
     refine Ye rfl (rn ?_)
     cases h
     exact ⟨_,rfl,(Zd (live:=[0,1,4,5,20,21]) (keep:=[]) kr)⟩
    refine wp_skip (wg [0,1,4,5,20,21] [] (rn ?_))
    cases h
    exact ⟨_,rfl,(Zd (live:=[0,1,4,5,20,21]) (keep:=[]) kr)⟩
   refine wcF (wg [] [] ?_)
   refine Qr5 ?_
   cases h
   exact ⟨kr,rfl⟩
  intro x36 h out hx
  subst hx
  cases h
  refine ⟨(Qz2 x36 p0 p2 p3 p1),(Zd (live:=[]) (keep:=[]) (st':=(Qz2 x36 p0 p2 p3 p1)) (by kernel_rfl)),?_⟩
  exact .inr (by kernel_rfl)
 refine ⟨⟨[(7,.ptr 7 0 0),(13,.fn (.func 97) [] [.ptr 8 0 0,.ptr 9 0 0,.ptr 10 0 0,.ptr 11 0 0,.ptr 7 0 0]),(14,.tup [])],(l26_66 (oX false false 1 (.ref 4 0 x37.1.length)) (oR true 4 (fun x:(Int × Int × Int × Int)=>AV.agg [vI x.1,vI x.2.1,vI x.2.2.1,vI x.2.2.2]) x37.1) (oX true true 1 (vI x37.2.1)) (o26_61 x37) (oX false false 1 (.ref 12 0 x37.2.2.2.length)) p0 p2 p3 p1)++[oR true 1 eI x37.2.2.2],15⟩,by kernel_rfl,?_⟩
 refine Ye rfl ?_
 refine ⟨⟨[(1,z1 p1),(4,.ptr 0 0 0),(6,.ptr 1 0 0),(7,.ptr 2 0 0),(9,.ptr 3 0 0),(10,.ptr 5 0 0),(11,.ptr 6 0 0),(20,.agg [vI p0.Grain,eL false eTapi_Node p0.Nodes]),(21,z1 p1),(22,.fn (.func 73) [] [.ptr 0 0 0,.ptr 2 0 0,.ptr 3 0 0,.ptr 1 0 0,.ptr 5 0 0,.ptr 6 0 0]),(23,.tup [])],(l26_66 (oX false false 1 (.ref 4 0 x37.1.length)) (oR true 4 (fun x:(Int × Int × Int × Int)=>AV.agg [vI x.1,vI x.2.1,vI x.2.2.1,vI x.2.2.2]) x37.1) (oX true true 1 (vI x37.2.1)) (o26_61 x37) (oX false false 1 (.ref 12 0 x37.2.2.2.length)) p0 p2 p3 p1)++[oR true 1 eI x37.2.2.2],41⟩,by kernel_rfl,?_⟩
 refine Ye rfl (Xi (Xi (wg [9,10,11] [3,5,6,4] (rn (Qhn ?_)))))
 refine wwh h (fun s39=>⟨[(9,.ptr 0 0 0),(10,.ptr 1 0 0),(11,.ptr 2 0 0),(25,vI (zn x37.1)),(26,vI s39.1)],[(Qj8 s39),oX true true 1 (vI x37.2.1),(o26_61 x37),(Qre s39)],41⟩) (fun v out=>out=.go (.exit 0) ⟨[(9,.ptr 0 0 0)],[oX false false 1 (.ref 1 0 v.length),oR true 4 (fun x:(Int × Int × Int × Int)=>AV.agg [vI x.1,vI x.2.1,vI x.2.2.1,vI x.2.2.2]) v],41⟩) (Zd (live:=[9,10,11,25,26]) (keep:=[0,1,2,3]) kr) ?_ ?_
 ·intro s39 o h
  unfold Y4 at h
  refine sq (Xi ?_)
  refine wb [27] h (fun q41 h=>?_) (fun q41 h=>?_)
  ·refine wcT (wp_skip (Xi (Qhn ?_)))
   refine sqN (S:=⟨[(9,.ptr 0 0 0),(10,.ptr 1 0 0),(11,.ptr 2 0 0),(25,vI (zn x37.1)),(26,vI s39.1),(27,vB true),(28,vI s39.1),(12,vI s39.1)],[(Qj8 s39),oX true true 1 (vI x37.2.1),(o26_61 x37),(Qre s39)],41⟩) ?_
   refine Q2c (p:=8) (q:=9) (ob:=3) (pre:=[0,1,2,3,4,5,6,7]) (post:=[10,11]) (orL Q18) kr ?_
   refine sy 6 8 ?_
   refine Ki h (fun a42 q43 h=>?_)
   refine Q2 (enc:=(fun x:(Int × Int × Int × Int)=>AV.agg [vI x.1,vI x.2.1,vI x.2.2.1,vI x.2.2.2])) (l:=s39.2) (n:=s39.1) (w:=4) (ob:=3) (ro:=false) (nr:=true) (fl:=true) (a:=a42) kr kr gE q43 ?_
   refine sgy 1 10 (S:=⟨(s26_67 (29,.ref 3 0 s39.2.length) (31,.ref 3 0 s39.2.length) x37 s39),[(Qj8 s39),oX true true 1 (vI x37.2.1),(o26_61 x37),(Qre s39)],41⟩) ?_
   refine rgd ?_
   refine ⟨_,⟨(s26_67 (29,.ref 3 0 s39.2.length) (31,.ref 3 0 s39.2.length) x37 s39)++[(37,.ptr 3 (zt s39.1) 0)],[(Qj8 s39),oX true true 1 (vI x37.2.1),(o26_61 x37),(o26_64 s39 a42 x37)],41⟩,rfl,rfl,Q5z (enc:=(fun x:(Int × Int × Int × Int)=>AV.agg [vI x.1,vI x.2.1,vI x.2.2.1,vI x.2.2.2])) (l:=s39.2) (n:=s39.1) (m:=s39.1) (w:=4) (ob:=3) (p:=8) (q:=9) (c:=2) (fl:=true) (a:=a42) (a1:=(a42.1,a42.2.1,x37.2.1,a42.2.2.2)) (b:=a42) (v:=vI x37.2.1) (Sa:=⟨(s26_67 (29,.ref 3 0 s39.2.length) (31,.ref 3 0 s39.2.length) x37 s39),[(Qj8 s39),oX true true 1 (vI x37.2.1),(o26_61 x37),(o26_64 s39 a42 x37)],41⟩) (Sb:=⟨(s26_67 (29,.ref 3 0 s39.2.length) (31,.ref 3 0 s39.2.length) x37 s39)++[(37,.ptr 3 (zt s39.1) 0)],[(Qj8 s39),oX true true 1 (vI x37.2.1),(o26_61 x37),(Qre s39)],41⟩) kr kr q43 q43 kr kr kr kr kr kr kr kr kr kr kr kr kr kr kr kr kr,?_⟩
   refine Qsf (n:=s39.2.length) (m:=(List.set s39.2 (zt s39.1) (a42.1,a42.2.1,x37.2.1,a42.2.2.2)).length) (S:=fun n45=>⟨(s26_67 (29,.ref 3 0 n45) (31,.ref 3 0 n45) x37 s39)++[(37,.ptr 3 (zt s39.1) 0)],[oX false false 1 (.ref 3 0 n45),oX true true 1 (vI x37.2.1),(o26_61 x37),(o26_64 s39 a42 x37)],41⟩) (by simp only [List.length_set]) ?_
   refine sy 1 2 ?_
   refine Vi (enc:=(fun x:(Int × Int × Int × Int)=>AV.agg [vI x.1,vI x.2.1,vI x.2.2.1,vI x.2.2.2])) (l:=(List.set s39.2 (zt s39.1) (a42.1,a42.2.1,x37.2.1,a42.2.2.2))) (n:=s39.1) (ob:=3) (w:=4) (bx:=false) (nr:=true) (fl:=true) (c:=3) (a:=(a42.1,a42.2.1,x37.2.1,a42.2.2.2)) (a':=((a42.1,a42.2.1,x37.2.1,a42.2.2.2).1,(a42.1,a42.2.1,x37.2.1,a42.2.2.2).2.1,(a42.1,a42.2.1,x37.2.1,a42.2.2.2).2.2.1,x37.2.2.1)) (v:=vI x37.2.2.1) false kr kr (lkI_set (a42.1,a42.2.1,x37.2.1,a42.2.2.2) q43) kr rfl kr gE kr ?_
   refine Qsf (n:=(List.set s39.2 (zt s39.1) (a42.1,a42.2.1,x37.2.1,a42.2.2.2)).length) (m:=(List.set (List.set s39.2 (zt s39.1) (a42.1,a42.2.1,x37.2.1,a42.2.2.2)) (zt s39.1) ((a42.1,a42.2.1,x37.2.1,a42.2.2.2).1,(a42.1,a42.2.1,x37.2.1,a42.2.2.2).2.1,(a42.1,a42.2.1,x37.2.1,a42.2.2.2).2.2.1,x37.2.2.1)).length) (S:=fun n44=>⟨(s26_67 (29,.ref 3 0 n44) (31,.ref 3 0 n44) x37 s39)++[(37,.ptr 3 (zt s39.1) 0),(38,.ptr 3 (zt s39.1) 3)],[oX false false 1 (.ref 3 0 n44),oX true true 1 (vI x37.2.1),(o26_61 x37),oR true 4 (fun x:(Int × Int × Int × Int)=>AV.agg [vI x.1,vI x.2.1,vI x.2.2.1,vI x.2.2.2]) (List.set (List.set s39.2 (zt s39.1) (a42.1,a42.2.1,x37.2.1,a42.2.2.2)) (zt s39.1) ((a42.1,a42.2.1,x37.2.1,a42.2.2.2).1,(a42.1,a42.2.1,x37.2.1,a42.2.2.2).2.1,(a42.1,a42.2.1,x37.2.1,a42.2.2.2).2.2.1,x37.2.2.1))],41⟩) (by simp only [List.length_set]) ?_
   refine rgd ?_
   refine ⟨_,rfl,rfl,?_⟩
   refine wg [9,10,11,25,26] [0,1,2,3] (rn ?_)
   cases h
   exact ⟨_,rfl,(Zd (live:=[9,10,11,25,26]) (keep:=[0,1,2,3]) kr)⟩
  refine wcF (wg [9] [0,3] ?_)
  refine Qr5 ?_
  cases h
  exact ⟨kr,rfl⟩
 intro x47 h out hx
 subst hx
 refine sq (wg [8] [1] ?_)
 cases h
 exact Qu6 (show Qc8 _ _ _ _=_ from by kernel_rfl)
section
attribute [local irreducible] RW WP
theorem g_sensitive_Line_ok (p0:Qb) (p1:(List Int)) (p2:Int) (p3:Int) (p4:Tapi_Shift):Ct Try.prog 12 [.agg [vI p0.Grain,eL false eTapi_Node p0.Nodes],z1 p1,vI p2,vI p3,.agg [vI p4.Node,vI p4.Row,vI p4.From,vI p4.To]] (Xw p0 p1 p2 p3 p4) (fun x=>.tup [.agg [vI x.1.1,vI x.1.2.1,vI x.1.2.2.1,vI x.1.2.2.2],vI x.2]) (fun x=>[]):=by
 refine hfn [] Try.func12 <| hop 0 (fun _=>sgL false [] [] false gE) <| hop 8 (fun _=>sgL false [] [] true gE) <| hcl 0 [] (g_sensitive_check_ok p0 p1 p2 p4 [p3]) fun x1 _=>hbr 3 [21] (hrt 6) <| ?_
 refine hcl 5 [] (Qd9 p0 p1 p2 p4) fun x5 _=>hbd fun a7 q8=>hop 1 (fun _=>Q2 (enc:=(fun x:(Int × Int × Int × Int)=>AV.agg [vI x.1,vI x.2.1,vI x.2.2.1,vI x.2.2.2])) (l:=x5) (n:=p3) (w:=4) (ob:=4) (ro:=false) (nr:=true) (fl:=true) (a:=a7) kr kr gE q8) <| hop 0 (fun _=>Zo (enc:=(fun x:(Int × Int × Int × Int)=>AV.agg [vI x.1,vI x.2.1,vI x.2.2.1,vI x.2.2.2])) (l:=x5) (n:=p3) (w:=4) (ob:=4) (c:=0) (bx:=false) (ro:=false) (nr:=true) (fl:=true) (a:=a7) kr kr q8 gE) <| hrt 3
theorem g_ref02_Places_ok (p0:(List Int)) (p1:Int):Ct Try.prog 75 [z1 p0,vI p1] (K4 p0 p1) (fun x=>vB x) (fun x=>[]):=by
 refine hfn [] Try.func75 <| hlp 2 (fun s1=>⟨[(0,z1 p0),(1,vI p1),(5,vI s1)],[],41⟩) (fun x=>match x with | .inl v=>(.ret,⟨[(4,vB false)],[],41⟩) | .inr v=>(.exit 0,⟨[],[],41⟩)) (wz []) (fun s1=>?_) (hsm (fun x17=>?_) (fun x18=>?_))
 ·refine hop 2 (fun _=>Qr (enc:=eI) (l:=p0) (fl:=true) kr gE) <| hbr 1 [9] (?_) ?_
  ·refine hbd fun a4 q5=>hop 4 (fun _=>Qe (enc:=eI) (l:=p0) (n:=s1) (fl:=true) (w:=1) (a:=a4) kr kr gE q5) <| hbr 3 [16,17] (hdx 25 (wz [])) <| ?_
   refine hop 2 (fun _=>Qe (enc:=eI) (l:=p0) (n:=s1) (fl:=true) (w:=1) (a:=a4) kr kr gE q5) <| hbr 5 [23,24,25] (hdx 17 (wz [])) <| ?_
   refine hbr 3 [27,28] (?_) ?_
   ·refine hop 2 (fun _=>Qe (enc:=eI) (l:=p0) (n:=s1) (fl:=true) (w:=1) (a:=a4) kr kr gE q5) <| hbd fun a12 q13=>hop 4 (fun _=>Qe (enc:=eI) (l:=p0) (n:=zw (s1 - 1)) (fl:=true) (w:=1) (a:=a12) kr kr gE q13) <| hbr 4 [38,39,40] (hdx 2 (wz [])) <| ?_
    refine hnx 4 (wz [])
   refine hnx 16 (wz [])
  refine hdx 1 (wz [])
 ·refine hrt 0
 refine hrt 2
theorem Qlq (p0:Int) (p1:Int):Ct Try.prog 98 [.int .u64 p0,vI p1] (Qes p0 p1) (fun x=>vB x) (fun x=>[]):=by
 refine hfn [] Try.func98 <| hoh 4 (fun _ _ h k=>Qvt (k:=.u64) (k':=.u64) (a:=p0) (b:=zv (p1)) kr gE h k) <| hrt 4
theorem g_ref05_Up_ok (p0:(List Int)) (p1:Int):Ct Try.prog 99 [eL true (AV.int .u64) p0,.int .u64 p1] (Qgp p0 p1) (fun x=>.int .u64 x) (fun x=>[]):=by
 refine hfn [] Try.func99 <| hlp 2 (fun s1=>⟨[(0,eL true (AV.int .u64) p0),(1,.int .u64 s1.1),(5,vI s1.2)],[],29⟩) (fun v=>(.exit 0,⟨[(1,.int .u64 v)],[],29⟩)) (wz []) (fun s1=>?_) fun x16=>?_
 ·refine hop 2 (fun _=>Qr (enc:=(AV.int .u64)) (l:=p0) (fl:=true) kr gE) <| hbr 1 [10] (?_) ?_
  ·refine hlp 2 (fun s4=>⟨[(0,eL true (AV.int .u64) p0),(1,.int .u64 s4.1),(5,vI s1.2),(6,vI s4.2)],[],29⟩) (fun v=>(.exit 2,⟨[(0,eL true (AV.int .u64) p0),(1,.int .u64 v),(5,vI s1.2)],[],29⟩)) (wz []) (fun s4=>?_) fun x14=>?_
   ·refine hop 2 (fun _=>Qr (enc:=(AV.int .u64)) (l:=p0) (fl:=true) kr gE) <| hbr 1 [16] (?_) ?_
    ·refine hcl 3 [] (Qlq s4.1 s4.2) fun x7 _=>hbr 0 [21] (hbd fun a11 q12=>hop 4 (fun _=>Qe (enc:=(AV.int .u64)) (l:=p0) (n:=s4.2) (fl:=true) (w:=1) (a:=a11) kr kr gE q12) <| hnx 6 (wz [])) <| ?_
     refine hnx 4 (wz [])
    refine hdx 1 (wz [])
   refine hnx 3 (wz [])
  refine hdx 1 (wz [])
 refine hrt 3
theorem Qmx (p0:(List Int)):Ct Try.prog 76 [eL true (AV.int .u64) p0] (Kb p0) (fun x=>vB x) (fun x=>[]):=by
 refine hfn [] Try.func76 <| hlp 2 (fun s1=>⟨[(0,eL true (AV.int .u64) p0),(3,vI s1)],[],18⟩) (fun x=>match x with | .inl v=>(.ret,⟨[(2,vB false)],[],18⟩) | .inr v=>(.exit 0,⟨[],[],18⟩)) (wz []) (fun s1=>?_) (hsm (fun x13=>?_) (fun x14=>?_))
 ·refine hop 2 (fun _=>Qr (enc:=(AV.int .u64)) (l:=p0) (fl:=true) kr gE) <| hbr 1 [7] (?_) ?_
  ·refine hbd fun a4 q5=>hop 4 (fun _=>Qe (enc:=(AV.int .u64)) (l:=p0) (n:=s1) (fl:=true) (w:=1) (a:=a4) kr kr gE q5) <| hcl 1 [] (g_ref05_Up_ok p0 a4) fun x6 _=>hcl 1 [] (Qlq x6 s1) fun x8 _=>hbr 0 [17] (hdx 2 (wz [])) <| ?_
   refine hnx 4 (wz [])
  refine hdx 1 (wz [])
 ·refine hrt 0
 refine hrt 2
noncomputable abbrev Qvb (p0:Qb):AObj:=oX true false 2 (.agg [vI p0.Grain,eL false eTapi_Node p0.Nodes])
theorem Qkg (p0:Qb):Ct Try.prog 77 [.agg [vI p0.Grain,eL false eTapi_Node p0.Nodes]] (J9 p0) (fun x=>.ref 0 0 x.length) (fun x=>[oR true 1 (AV.int .u64) x]):=by
 refine hfn [] Try.func77 <| hop 0 (fun _=>sgL false [] [] false gE) <| hlp 3 (fun s1=>⟨[(1,.ptr 0 0 0),(3,.ref 1 0 s1.2.length),(4,vI s1.1)],[(Qvb p0),oR true 1 (AV.int .u64) s1.2],43⟩) (fun v=>(.exit 0,⟨[(3,.ref 0 0 v.length)],[oR true 1 (AV.int .u64) v],43⟩)) (wk_trans (Zd (live:=[1,3,4]) (keep:=[0]) gE) (wk_trans (Qbl 3 1 true true gE) (Zd (live:=[1,3,4]) (keep:=[0,1]) kr))) (fun s1=>?_) fun x14=>?_
 ·refine hop 3 (fun _=>Qr (enc:=eTapi_Node) (l:=p0.Nodes) (fl:=false) kr gE) <| hbr 1 [11] (?_) ?_
  ·refine hlp 3 (fun s4=>⟨[(1,.ptr 0 0 0),(3,.ref 1 0 s1.2.length),(4,vI s1.1),(5,.int .u64 s4.1),(6,vI s4.2)],[(Qvb p0),oR true 1 (AV.int .u64) s1.2],43⟩) (fun v=>(.exit 2,⟨[(1,.ptr 0 0 0),(3,.ref 1 0 s1.2.length),(4,vI s1.1),(5,.int .u64 v)],[(Qvb p0),oR true 1 (AV.int .u64) s1.2],43⟩)) (wz [0,1]) (fun s4=>?_) fun x12=>?_
   ·refine hbd fun a5 q6=>hop 4 (fun _=>Qe (enc:=eTapi_Node) (l:=p0.Nodes) (n:=s1.1) (fl:=false) (w:=3) (a:=a5) kr kr gE q6) <| hop 2 (fun _=>Qr (enc:=eI) (l:=a5.Parents) (fl:=true) kr gE) <| hbr 1 [22] (?_) ?_
    ·refine hop 5 (fun _=>Qe (enc:=eTapi_Node) (l:=p0.Nodes) (n:=s1.1) (fl:=false) (w:=3) (a:=a5) kr kr gE q6) <| hbd fun a9 q10=>hop 3 (fun _=>Qe (enc:=eI) (l:=a5.Parents) (n:=s4.2) (fl:=true) (w:=1) (a:=a9) kr kr gE q10) <| hoh 2 (fun _ _ h k=>Qwm (k:=.u64) (k':=.u64) (a:=1) (b:=zv (a9)) kr gE h k) <| hnx 5 (wz [0,1])
    refine hdx 1 (wz [0,1])
   refine hop 2 (fun _=>sgL false [] [] true gE) <| hoh 0 (fun _ _ h k=>Yi (enc:=(AV.int .u64)) (l:=s1.2) (m:=([x12]:(List Int))) (w:=1) (bytes:=8) (ob:=1) (nr:=true) (fl:=true) (nr':=true) (fl':=true) (b:=.ref 2 0 1) (rds:=[2]) false kr kr kr kr gE kr h k) <| hnx 4 (wz [0,3])
  refine hdx 1 (wz [1])
 refine hrt 3
noncomputable abbrev o33_73 (p0:Qb):AObj:=oX true false 2 (.agg [vI p0.Grain,eL false eTapi_Node p0.Nodes])
noncomputable abbrev o33_74 (a36:Tapi_Node):AObj:=oX true false 3 (.agg [vI a36.Card,z1 a36.Parents,z2 a36.Rows])
theorem g_ref05_Right_ok (p0:Qb):Ct Try.prog 37 [.agg [vI p0.Grain,eL false eTapi_Node p0.Nodes]] (J4 p0) (fun x=>vB x) (fun x=>[]):=by
 refine hfn [] Try.func37 <| hop 0 (fun _=>sgL false [] [] false gE) <| hbr 5 [13,14] (hrt 19) <| ?_
 refine hbr 5 [17,18,19] (hrt 14) <| ?_
 refine hop 2 (fun _=>Qr (enc:=eTapi_Node) (l:=p0.Nodes) (fl:=false) kr gE) <| hbr 3 [23,24,25] (hrt 8) <| ?_
 refine hop 2 (fun _=>Qr (enc:=eTapi_Node) (l:=p0.Nodes) (fl:=false) kr gE) <| hbr 2 [29,30] (hrt 3) <| ?_
 refine hlp 3 (fun s9=>⟨[(1,.ptr 0 0 0),(3,vI s9.1),(4,vI s9.2)],[(o33_73 p0)],154⟩) (fun x=>match x with | .inl v=>(.ret,⟨[(2,vB false)],[],154⟩) | .inr v=>(.exit 0,⟨[(1,.ptr 0 0 0),(3,vI v)],[(o33_73 p0)],154⟩)) (wz [0]) (fun s9=>?_) (hsm (fun x23=>?_) (fun x24=>?_))
 ·refine hop 3 (fun _=>Qr (enc:=eTapi_Node) (l:=p0.Nodes) (fl:=false) kr gE) <| hbr 1 [35] (?_) ?_
  ·refine hbd fun a12 q13=>hop 4 (fun _=>Qe (enc:=eTapi_Node) (l:=p0.Nodes) (n:=s9.2) (fl:=false) (w:=3) (a:=a12) kr kr gE q13) <| hop 1 (fun _=>sgL false [] [] false gE) <| hbr 5 [45,46] (hdx 15 (wz [])) <| ?_
   refine hbr 5 [49,50,51] (hdx 10 (wz [])) <| ?_
   refine hop 4 (fun _=>Qr (enc:=eTapi_Node) (l:=p0.Nodes) (fl:=false) kr gE) <| hcl 0 [] (g_ref02_Places_ok a12.Parents (zn p0.Nodes)) fun x18 _=>hbr 2 [58,59] (hdx 2 (wz [])) <| ?_
   refine hnx 9 (wz [0])
  refine hdx 1 (wz [0])
 ·refine hrt 0
 refine hbr 3 [65,66] (hrt 8) <| ?_
 refine hcl 1 [] (Qkg p0) fun x27 _=>hcl 0 [F (AV.int .u64) x27] (Qmx x27) fun x29 _=>hbr 2 [70,71] (hrt 3) <| ?_
 refine hlp 2 (fun s33=>⟨[(1,.ptr 0 0 0),(6,vI s33)],[(o33_73 p0)],154⟩) (fun x=>match x with | .inl v=>(.ret,⟨[(2,vB false)],[],154⟩) | .inr v=>(.exit 2,⟨[],[],154⟩)) (wz [0]) (fun s33=>?_) (hsm (fun x69=>?_) (fun x70=>?_))
 ·refine hop 3 (fun _=>Qr (enc:=eTapi_Node) (l:=p0.Nodes) (fl:=false) kr gE) <| hbr 1 [76] (?_) ?_
  ·refine hbd fun a36 q37=>hop 4 (fun _=>Qe (enc:=eTapi_Node) (l:=p0.Nodes) (n:=s33) (fl:=false) (w:=3) (a:=a36) kr kr gE q37) <| hop 1 (fun _=>sgL false [] [] false gE) <| hop 4 (fun _=>Qr (enc:=z1) (l:=a36.Rows) (fl:=false) kr gE) <| hcl 2 [] (us:=[.agg [vI p0.Grain,eL false eTapi_Node p0.Nodes],vI s33]) (rv:=fun x38=>z1 x38) (ro:=fun x38=>[]) (fun x38 q39=>Qx.froz (Yg p0 s33 x38 q39) (Z3 (w:=1) (bx:=false) (ro:=false) (enc:=eI) (l:=x38) (fl:=true) rfl)) fun x38 _=>hcl 0 [] (Qbd x38) fun x40 _=>hbr 1 [91] (hdx 2 (wz [])) <| ?_
   refine hlp 2 (fun s44=>⟨[(1,.ptr 0 0 0),(6,vI s33),(7,.ptr 1 0 0),(8,vI s44)],[(o33_73 p0),(o33_74 a36)],154⟩) (fun x=>match x with | .inl v=>(.ret,⟨[(2,vB false)],[],154⟩) | .inr v=>(.exit 4,⟨[(1,.ptr 0 0 0),(6,vI s33)],[(o33_73 p0)],154⟩)) (wz [0,1]) (fun s44=>?_) (hsm (fun x66=>?_) (fun x67=>?_))
   ·refine hop 3 (fun _=>Qr (enc:=z1) (l:=a36.Rows) (fl:=false) kr gE) <| hbr 1 [96] (?_) ?_
    ·refine hbd fun a47 q48=>hop 5 (fun _=>Qe (enc:=z1) (l:=a36.Rows) (n:=s44) (fl:=false) (w:=1) (a:=a47) kr kr gE q48) <| hop 1 (fun _=>Qr (enc:=eI) (l:=a47) (fl:=true) kr gE) <| hbr 3 [107] (hdx 2 (wz [])) <| ?_
     refine hlp 3 (fun s51=>⟨[(1,.ptr 0 0 0),(6,vI s33),(7,.ptr 1 0 0),(8,vI s44),(9,vI s51.1),(10,vI s51.2)],[(o33_73 p0),(o33_74 a36)],154⟩) (fun x=>match x with | .inl v=>(.ret,⟨[(2,vB false)],[],154⟩) | .inr v=>(.exit 6,⟨[(1,.ptr 0 0 0),(6,vI s33),(7,.ptr 1 0 0),(8,vI s44),(9,vI v)],[(o33_73 p0),(o33_74 a36)],154⟩)) (wz [0,1]) (fun s51=>?_) (hsm (fun x61=>?_) (fun x62=>?_))
     ·refine hop 4 (fun _=>Qe (enc:=z1) (l:=a36.Rows) (n:=s44) (fl:=false) (w:=1) (a:=a47) kr kr gE q48) <| hop 1 (fun _=>Qr (enc:=eI) (l:=a47) (fl:=true) kr gE) <| hbr 1 [115] (?_) ?_
      ·refine hop 5 (fun _=>Qe (enc:=z1) (l:=a36.Rows) (n:=s44) (fl:=false) (w:=1) (a:=a47) kr kr gE q48) <| hbd fun a54 q55=>hop 2 (fun _=>Qe (enc:=eI) (l:=a47) (n:=s51.2) (fl:=true) (w:=1) (a:=a54) kr kr gE q55) <| hbr 3 [126,127] (hdx 14 (wz [])) <| ?_
       refine hop 3 (fun _=>Qe (enc:=z1) (l:=a36.Rows) (n:=s44) (fl:=false) (w:=1) (a:=a47) kr kr gE q48) <| hop 2 (fun _=>Qe (enc:=eI) (l:=a47) (n:=s51.2) (fl:=true) (w:=1) (a:=a54) kr kr gE q55) <| hbr 5 [138,139] (hdx 2 (wz [])) <| ?_
       refine hop 5 (fun _=>Qe (enc:=z1) (l:=a36.Rows) (n:=s44) (fl:=false) (w:=1) (a:=a47) kr kr gE q48) <| hop 2 (fun _=>Qe (enc:=eI) (l:=a47) (n:=s51.2) (fl:=true) (w:=1) (a:=a54) kr kr gE q55) <| hnx 6 (wz [0,1])
      refine hdx 1 (wz [0,1])
     ·refine hdn 0
     refine hbr 4 [153] (hdx 2 (wz [])) <| ?_
     refine hnx 4 (wz [0,1])
    refine hdx 1 (wz [0])
   ·refine hdn 0
   refine hnx 3 (wz [0])
  refine hdx 1 (wz [])
 ·refine hrt 0
 refine hrt 2
theorem Ql2 (p0:Qb) (p1:(List Int)):Ct Try.prog 38 [.agg [vI p0.Grain,eL false eTapi_Node p0.Nodes],z1 p1] (Jq p0 p1) (fun x=>vB x) (fun x=>[]):=by
 refine hfn [] Try.func38 <| hop 0 (fun _=>sgL false [] [] false gE) <| hop 2 (fun _=>Qr (enc:=eI) (l:=p1) (fl:=true) kr gE) <| hop 2 (fun _=>Qr (enc:=eTapi_Node) (l:=p0.Nodes) (fl:=false) kr gE) <| hbr 1 [11] (hrt 3) <| ?_
 refine hlp 2 (fun s3=>⟨[(1,z1 p1),(2,.ptr 0 0 0),(5,vI s3)],[oX true false 2 (.agg [vI p0.Grain,eL false eTapi_Node p0.Nodes])],36⟩) (fun x=>match x with | .inl v=>(.ret,⟨[(4,vB false)],[],36⟩) | .inr v=>(.exit 0,⟨[],[],36⟩)) (wz [0]) (fun s3=>?_) (hsm (fun x15=>?_) (fun x16=>?_))
 ·refine hop 2 (fun _=>Qr (enc:=eI) (l:=p1) (fl:=true) kr gE) <| hbr 1 [15] (?_) ?_
  ·refine hbd fun a6 q7=>hop 4 (fun _=>Qe (enc:=eI) (l:=p1) (n:=s3) (fl:=true) (w:=1) (a:=a6) kr kr gE q7) <| hbr 3 [22,23] (hdx 14 (wz [])) <| ?_
   refine hop 2 (fun _=>Qe (enc:=eI) (l:=p1) (n:=s3) (fl:=true) (w:=1) (a:=a6) kr kr gE q7) <| hbd fun a10 q11=>hop 4 (fun _=>Qe (enc:=eTapi_Node) (l:=p0.Nodes) (n:=s3) (fl:=false) (w:=3) (a:=a10) kr kr gE q11) <| hbr 4 [34,35] (hdx 2 (wz [])) <| ?_
   refine hnx 4 (wz [0])
  refine hdx 1 (wz [])
 ·refine hrt 0
 refine hrt 2
theorem Qok (p0:Qb) (p1:Tapi_Shift):Ct Try.prog 39 [.agg [vI p0.Grain,eL false eTapi_Node p0.Nodes],.agg [vI p1.Node,vI p1.Row,vI p1.From,vI p1.To]] (Zk p0 p1) (fun x=>vB x) (fun x=>[]):=by
 refine hfn [] Try.func39 <| hop 0 (fun _=>sgL false [] [] false gE) <| hbr 7 [8,9] (hrt 28) <| ?_
 refine hop 4 (fun _=>Qr (enc:=eTapi_Node) (l:=p0.Nodes) (fl:=false) kr gE) <| hbr 3 [15,16,17] (hrt 20) <| ?_
 refine hbr 5 [20,21,22] (hrt 15) <| ?_
 refine hbd fun a7 q8=>hop 6 (fun _=>Qe (enc:=eTapi_Node) (l:=p0.Nodes) (n:=p1.Node) (fl:=false) (w:=3) (a:=a7) kr kr gE q8) <| hop 2 (fun _=>Qr (enc:=z1) (l:=a7.Rows) (fl:=false) kr gE) <| hbr 2 [33,34] (hrt 3) <| ?_
 refine hop 5 (fun _=>Qe (enc:=eTapi_Node) (l:=p0.Nodes) (n:=p1.Node) (fl:=false) (w:=3) (a:=a7) kr kr gE q8) <| hbr 7 [44,45] (?_) ?_
 ·refine hbr 6 [49,50,51] (?_) ?_
  ·refine hbr 5 [54,55,56] (?_) ?_
   ·refine hbr 6 [60,61,62] (hrt 8) <| ?_
    refine hrt 8
   refine hrt 14
  refine hrt 19
 refine hrt 25
end
section
attribute [local irreducible] RW WP
theorem Qoi (p0:Qb) (p1:(List Int)) (p2:Int) (p3:Int) (p4:Tapi_Shift):Ct Try.prog 13 [.agg [vI p0.Grain,eL false eTapi_Node p0.Nodes],z1 p1,vI p2,vI p3,.agg [vI p4.Node,vI p4.Row,vI p4.From,vI p4.To]] (Vn p0 p1 p2 p3 p4) (fun x=>vI x) (fun x=>[]):=by
 refine hfn [] Try.func13 <| hop 0 (fun _=>sgL false [] [] false gE) <| hcl 3 [] (g_ref05_Right_ok p0) fun x1 _=>hbr 1 [13] (hrt 3) <| ?_
 refine hcl 3 [] (Ql2 p0 p1) fun x5 _=>hbr 2 [17,18] (hrt 33) <| ?_
 refine hbr 4 [20,21,22] (hrt 29) <| ?_
 refine hop 3 (fun _=>Qr (enc:=eTapi_Node) (l:=p0.Nodes) (fl:=false) kr gE) <| hbr 3 [27,28,29] (hrt 22) <| ?_
 refine hbr 4 [31,32,33] (hrt 18) <| ?_
 refine hbd fun a15 q16=>hop 4 (fun _=>Qe (enc:=eTapi_Node) (l:=p0.Nodes) (n:=p2) (fl:=false) (w:=3) (a:=a15) kr kr gE q16) <| hbr 5 [41,42,43] (hrt 8) <| ?_
 refine hcl 2 [] (Qok p0 p4) fun x19 _=>hbr 2 [47,48] (hrt 3) <| ?_
 refine hrt 3
theorem Qom (p0:Qb):Ct Try.prog 40 [.agg [vI p0.Grain,eL false eTapi_Node p0.Nodes]] (Qcj p0) (fun x=>vI x) (fun x=>[]):=by
 refine hfn [] Try.func40 <| hop 0 (fun _=>sgL false [] [] false gE) <| hcl 2 [] (g_ref05_Cards_ok p0) fun x1 _=>hcl 0 [F eI x1] (Qbd x1) fun x3 _=>hrt 2
theorem Qoj (p0:(List Int)) (p1:Int):Ct Try.prog 79 [z1 p0,vI p1] (Qfd p0 p1) (fun x=>.ref 0 0 x.length) (fun x=>[oR true 1 eI x]):=by
 refine hfn [] Try.func79 <| hop 2 (fun _=>Qr (enc:=eI) (l:=p0) (fl:=true) kr gE) <| hoh 0 (fun _ _ h k=>mkL (enc:=eI) (z:=(0:Int)) (z0:=vI 0) (n:=(zn p0)) (m:=(zn p0)) (w:=1) (bytes:=8) [] true kr kr gE kr h k) <| hop 2 (fun _=>Qr (enc:=eI) (l:=p0) (fl:=true) kr gE) <| hlp 2 (fun s1=>⟨[(0,z1 p0),(1,vI s1.1),(5,.ref 0 0 s1.2.2.length),(6,vI s1.2.1)],[oR true 1 eI s1.2.2],33⟩) (fun v=>(.exit 0,⟨[(5,.ref 0 0 v.length)],[oR true 1 eI v],33⟩)) (wz [0]) (fun s1=>?_) fun x10=>?_
 ·refine hbr 2 [14] (?_) ?_
  ·refine hbd fun a4 q5=>hop 6 (fun _=>Qe (enc:=eI) (l:=p0) (n:=s1.2.1) (fl:=true) (w:=1) (a:=a4) kr kr gE q5) <| hoh 1 (fun _ _ h k=>Kv (k:=.i64) (a:=s1.1) (b:=a4) kr gE h k) <| hbd fun a6 q7=>hop 0 (fun _=>Q2 (enc:=eI) (l:=s1.2.2) (n:=s1.2.1) (w:=1) (ob:=0) (ro:=false) (nr:=true) (fl:=true) (a:=a6) kr kr gE q7) <| hop 0 (fun _=>Vi (enc:=eI) (l:=s1.2.2) (n:=s1.2.1) (ob:=0) (w:=1) (bx:=false) (nr:=true) (fl:=true) (c:=0) (a:=a6) (a':=Int.tmod s1.1 a4) (v:=vI (Int.tmod s1.1 a4)) false kr kr q7 kr kr kr gE kr) <| hkl 0 [5,17] (ls s1.2.2 (zt s1.2.1) (Int.tmod s1.1 a4)) <| hop 3 (fun _=>Qe (enc:=eI) (l:=p0) (n:=s1.2.1) (fl:=true) (w:=1) (a:=a4) kr kr gE q5) <| hoh 1 (fun _ _ h k=>Qr4 (k:=.i64) (a:=s1.1) (b:=a4) kr gE h k) <| ?_
   refine hnx 4 (wz [0])
  refine hdx 1 (wz [0])
 refine hrt 3
theorem g_ref05_Values_ok (p0:Qb) (p1:Int):Ct Try.prog 41 [.agg [vI p0.Grain,eL false eTapi_Node p0.Nodes],vI p1] (K9 p0 p1) (fun x=>.ref 0 0 x.length) (fun x=>[oR true 1 eI x]):=by
 refine hfn [] Try.func41 <| hop 0 (fun _=>sgL false [] [] false gE) <| hcl 2 [] (g_ref05_Cards_ok p0) fun x1 _=>hcl 1 [F eI x1] (Qoj x1 p1) fun x3 _=>hrt 2
theorem Ql5 (p0:(List Int)) (p1:(List Int)):Ct Try.prog 42 [z1 p0,z1 p1] (V4 p0 p1) (fun x=>vB x) (fun x=>[]):=by
 refine hfn [] Try.func42 <| hlp 2 (fun s1=>⟨[(0,z1 p0),(1,z1 p1),(5,vI s1)],[],28⟩) (fun x=>match x with | .inl v=>(.ret,⟨[(4,vB false)],[],28⟩) | .inr v=>(.exit 0,⟨[],[],28⟩)) (wz []) (fun s1=>?_) (hsm (fun x13=>?_) (fun x14=>?_))
 ·refine hop 2 (fun _=>Qr (enc:=eI) (l:=p0) (fl:=true) kr gE) <| hbr 1 [9] (?_) ?_
  ·refine hbd fun a4 q5=>hop 4 (fun _=>Qe (enc:=eI) (l:=p1) (n:=s1) (fl:=true) (w:=1) (a:=a4) kr kr gE q5) <| hbr 3 [16,17] (?_) ?_
   ·refine hop 2 (fun _=>Qe (enc:=eI) (l:=p1) (n:=s1) (fl:=true) (w:=1) (a:=a4) kr kr gE q5) <| hbd fun a8 q9=>hop 3 (fun _=>Qe (enc:=eI) (l:=p0) (n:=s1) (fl:=true) (w:=1) (a:=a8) kr kr gE q9) <| hbr 3 [26,27] (hdx 2 (wz [])) <| ?_
    refine hnx 4 (wz [])
   refine hnx 14 (wz [])
  refine hdx 1 (wz [])
 ·refine hrt 0
 refine hrt 2
theorem Qhf (p0:(List Int)) (p1:(List Int)):Ct Try.prog 44 [z1 p0,z1 p1] (Qat p0 p1) (fun x=>vI x) (fun x=>[]):=by
 refine hfn [] Try.func44 <| hop 4 (fun _=>Qr (enc:=eI) (l:=p0) (fl:=true) kr gE) <| hlp 2 (fun s1=>⟨[(0,z1 p0),(1,z1 p1),(5,vI s1.1),(6,vI s1.2.1),(7,vI s1.2.2)],[],30⟩) (fun v=>(.exit 0,⟨[(5,vI v)],[],30⟩)) (wz []) (fun s1=>?_) fun x9=>?_
 ·refine hbr 2 [12] (?_) ?_
  ·refine hbd fun a4 q5=>hop 4 (fun _=>Qe (enc:=eI) (l:=p1) (n:=s1.2.2) (fl:=true) (w:=1) (a:=a4) kr kr gE q5) <| hbd fun a6 q7=>hop 8 (fun _=>Qe (enc:=eI) (l:=p0) (n:=s1.2.2) (fl:=true) (w:=1) (a:=a6) kr kr gE q7) <| hnx 6 (wz [])
  refine hdx 1 (wz [])
 refine hrt 3
theorem Qe9 (p0:Qb) (p1:Int) (p2:(List Int)):Ct Try.prog 47 [.agg [vI p0.Grain,eL false eTapi_Node p0.Nodes],vI p1,z1 p2] (Qa3 p0 p1 p2) (fun x=>z1 x) (fun x=>[]):=by
 refine hfn [[.lst true]] Try.func47 <| hop 0 (fun _=>sgL false [] [] false gE) <| hbd fun a1 q2=>hop 5 (fun _=>Qe (enc:=eTapi_Node) (l:=p0.Nodes) (n:=p1) (fl:=false) (w:=3) (a:=a1) kr kr gE q2) <| hcl 4 [] (us:=[.agg [vI p0.Grain,eL false eTapi_Node p0.Nodes],vI p1]) (rv:=fun x3=>z1 x3) (ro:=fun x3=>[]) (fun x3 q4=>Qx.froz (Yg p0 p1 x3 q4) (Z3 (w:=1) (bx:=false) (ro:=false) (enc:=eI) (l:=x3) (fl:=true) rfl)) fun x3 _=>hop 4 (fun _=>Qe (enc:=eTapi_Node) (l:=p0.Nodes) (n:=p1) (fl:=false) (w:=3) (a:=a1) kr kr gE q2) <| hcl 2 [] (us:=[z1 p2,z1 a1.Parents]) (rv:=fun x5=>z1 x5) (ro:=fun x5=>[]) (fun x5 q6=>Qx.froz (g_ref02_At_ok p2 a1.Parents x5 q6) (Z3 (w:=1) (bx:=false) (ro:=false) (enc:=eI) (l:=x5) (fl:=true) rfl)) fun x5 _=>hcl 0 [] (Qhf x3 x5) fun x7 _=>hbd fun a9 q10=>?_
 refine hop 0 (fun _=>Qe (enc:=z1) (l:=a1.Rows) (n:=x7) (fl:=false) (w:=1) (a:=a9) kr kr gE q10) <| hrt 3
theorem Qol (p0:Qb) (p1:Int):Ct Try.prog 43 [.agg [vI p0.Grain,eL false eTapi_Node p0.Nodes],vI p1] (Qci p0 p1) (fun x=>vI x) (fun x=>[]):=by
 refine hfn [] Try.func43 <| hop 0 (fun _=>sgL false [] [] false gE) <| hcl 3 [] (g_ref05_Values_ok p0 p1) fun x1 _=>hlp 3 (fun s3=>⟨[(2,.ptr 0 0 0),(5,z1 x1),(6,vI s3.1),(7,vI s3.2)],[oX true false 2 (.agg [vI p0.Grain,eL false eTapi_Node p0.Nodes])],31⟩) (fun v=>(.exit 0,⟨[(6,vI v)],[],31⟩)) (wk_trans (Zd (live:=[2,5,6,7]) (keep:=[0,1]) gE) (wk_trans (wsn 5 [F eI x1]) (Zd (live:=[2,5,6,7]) (keep:=[0]) kr))) (fun s3=>?_) fun x13=>?_
 ·refine hop 3 (fun _=>Qr (enc:=eTapi_Node) (l:=p0.Nodes) (fl:=false) kr gE) <| hbr 1 [15] (?_) ?_
  ·refine hcl 6 [] (Qe9 p0 s3.2 x1) fun x6 _=>hbd fun a8 q9=>hop 2 (fun _=>Qe (enc:=eI) (l:=x1) (n:=s3.2) (fl:=true) (w:=1) (a:=a8) kr kr gE q9) <| hbd fun a10 q11=>hop 1 (fun _=>Qe (enc:=eI) (l:=x6) (n:=a8) (fl:=true) (w:=1) (a:=a10) kr kr gE q11) <| hnx 6 (wz [0])
  refine hdx 1 (wz [])
 refine hrt 3
noncomputable abbrev Ql8 (p0:Qb):AObj:=oX true false 2 (.agg [vI p0.Grain,eL false eTapi_Node p0.Nodes])
noncomputable abbrev Qmh (p4:Tapi_Shift):AObj:=oX true true 4 (.agg [vI p4.Node,vI p4.Row,vI p4.From,vI p4.To])
noncomputable abbrev Qkd:AObj:=oX true true 4 (.agg [vI 0,vI 0,vI 0,vI 0])
noncomputable abbrev Qm4 (s1:(Int × Int × Int × Int × Int)):AObj:=oX true true 4 (.agg [vI s1.2.1,vI s1.2.2.1,vI s1.2.2.2.1,vI s1.2.2.2.2])
noncomputable abbrev Qmq (p1:(List Int)) (p2 p3:Int) (s1:(Int × Int × Int × Int × Int)):List (Nat×AV):=[(1,z1 p1),(2,vI p2),(3,vI p3),(5,.ptr 0 0 0),(9,.ptr 1 0 0),(10,.ptr 2 0 0),(11,.ptr 3 0 0),(12,vI s1.1)]
theorem Qh7 (p0:Qb) (p1:(List Int)) (p2:Int) (p3:Int) (p4:Tapi_Shift):Ct Try.prog 14 [.agg [vI p0.Grain,eL false eTapi_Node p0.Nodes],z1 p1,vI p2,vI p3,.agg [vI p4.Node,vI p4.Row,vI p4.From,vI p4.To]] (Qbz p0 p1 p2 p3 p4) (fun x=>.agg [vI x.1,vI x.2.1,vI x.2.2.1,vI x.2.2.2]) (fun x=>[]):=by
 refine hfn [] Try.func14 <| hop 0 (fun _=>sgL false [] [] false gE) <| hlp 4 (fun s1=>⟨(Qmq p1 p2 p3 s1),[(Ql8 p0),(Qmh p4),Qkd,(Qm4 s1)],132⟩) (fun v=>(.exit 0,⟨[(10,.ptr 0 0 0),(11,.ptr 1 0 0)],[Qkd,oX true true 4 (.agg [vI v.1,vI v.2.1,vI v.2.2.1,vI v.2.2.2])],132⟩)) (wz [0,1,2,3]) (fun s1=>?_) fun x75=>?_
 ·refine hcl 2 [] (Qom p0) fun x2 _=>hbr 1 [21] (?_) ?_
  ·refine hcl 3 [] (g_ref05_Values_ok p0 s1.1) fun x6 _=>hcl 3 [F eI x6] (Ql5 x6 p1) fun x8 _=>hbr 1 [30] (hwk 1 (wl [1,2,3,5,9,10,11,12] [0,1,2,3]) <| hnx 4 (wz [0,1,2,3])) <| ?_
   refine hcl 3 [] (Qol p0 s1.1) fun x12 _=>hcl 6 [] (us:=[.agg [vI p0.Grain,eL false eTapi_Node p0.Nodes],vI p4.Node]) (rv:=fun x14=>z1 x14) (ro:=fun x14=>[]) (fun x14 q15=>Qx.froz (Yg p0 p4.Node x14 q15) (Z3 (w:=1) (bx:=false) (ro:=false) (enc:=eI) (l:=x14) (fl:=true) rfl)) fun x14 _=>hbd fun a16 q17=>hop 5 (fun _=>Qe (enc:=eTapi_Node) (l:=p0.Nodes) (n:=p4.Node) (fl:=false) (w:=3) (a:=a16) kr kr gE q17) <| hcl 2 [F eI x6] (us:=[z1 x6,z1 a16.Parents]) (rv:=fun x18=>z1 x18) (ro:=fun x18=>[]) (fun x18 q19=>Qx.froz (g_ref02_At_ok x6 a16.Parents x18 q19) (Z3 (w:=1) (bx:=false) (ro:=false) (enc:=eI) (l:=x18) (fl:=true) rfl)) fun x18 _=>hcl 0 [] (Qhf x14 x18) fun x20 _=>hbr 7 [51,52] (?_) ?_
   ·refine hbd fun a24 q25=>hop 3 (fun _=>Q2 (enc:=eI) (l:=x6) (n:=p4.Node) (w:=1) (ob:=4) (ro:=true) (nr:=true) (fl:=true) (a:=a24) kr kr gE q25) <| hop 0 (fun _=>Zo (enc:=eI) (l:=x6) (n:=p4.Node) (w:=1) (ob:=4) (c:=0) (bx:=false) (ro:=true) (nr:=true) (fl:=true) (a:=a24) kr kr q25 gE) <| hbq 4 [60,61] (fun q27=>?_) (fun q27=>?_)
    ·refine hlp 13 (fun s28=>⟨(Qmq p1 p2 p3 s1)++[(13,z1 x6),(14,vI x12),(15,vI s28.1),(17,vI s28.2)],[(Ql8 p0),(Qmh p4),Qkd,(Qm4 s1)],132⟩) (fun v=>(.exit 2,⟨(Qmq p1 p2 p3 s1)++[(13,z1 x6),(14,vI x12),(15,vI v)],[(Ql8 p0),(Qmh p4),Qkd,(Qm4 s1)],132⟩)) (wk_trans (Zd (live:=[1,2,3,5,9,10,11,12,13,14,15,17]) (keep:=[0,1,2,3,4]) gE) (wk_trans (wsn 13 [F eI x6]) (Zd (live:=[1,2,3,5,9,10,11,12,13,14,15,17]) (keep:=[0,1,2,3]) kr))) (fun s28=>?_) fun x40=>?_
     ·refine hop 3 (fun _=>Qr (enc:=eTapi_Node) (l:=p0.Nodes) (fl:=false) kr gE) <| hbr 1 [76] (?_) ?_
      ·refine hbr 5 [82] (?_) ?_
       ·refine hcl 6 [] (Qe9 p0 s28.2 x6) fun x33 _=>hbd fun a35 q36=>hop 2 (fun _=>Qe (enc:=eI) (l:=x6) (n:=s28.2) (fl:=true) (w:=1) (a:=a35) kr kr gE q36) <| hbd fun a37 q38=>hop 1 (fun _=>Qe (enc:=eI) (l:=x33) (n:=a35) (fl:=true) (w:=1) (a:=a37) kr kr gE q38) <| hnx 6 (wz [0,1,2,3])
       refine hnx 4 (wz [0,1,2,3])
      refine hdx 1 (wz [0,1,2,3])
     refine hop 4 (fun _=>Qe (enc:=eI) (l:=x6) (n:=p4.Node) (fl:=true) (w:=1) (a:=a24) kr kr gE q25) <| hkb 4 [102] q27 <| hbd fun a42 q43=>hop 18 (fun _=>Qe (enc:=eI) (l:=x6) (n:=p2) (fl:=true) (w:=1) (a:=a42) kr kr gE q43) <| hbr 3 [120] (hnx 16 (wz [0,1,2,3])) <| ?_
     refine hnx 4 (wz [0,1,2,3])
    refine hop 3 (fun _=>Q2 (enc:=eI) (l:=x6) (n:=p4.Node) (w:=1) (ob:=4) (ro:=true) (nr:=true) (fl:=true) (a:=a24) kr kr gE q25) <| hop 0 (fun _=>Zo (enc:=eI) (l:=x6) (n:=p4.Node) (w:=1) (ob:=4) (c:=0) (bx:=false) (ro:=true) (nr:=true) (fl:=true) (a:=a24) kr kr q25 gE) <| hbr 5 [69,70,71] (?_) ?_
    ·refine hlp 3 (fun s48=>⟨(Qmq p1 p2 p3 s1)++[(13,z1 x6),(14,vI x12),(15,vI s48.1),(17,vI s48.2)],[(Ql8 p0),(Qmh p4),Qkd,(Qm4 s1)],132⟩) (fun v=>(.exit 2,⟨(Qmq p1 p2 p3 s1)++[(13,z1 x6),(14,vI x12),(15,vI v)],[(Ql8 p0),(Qmh p4),Qkd,(Qm4 s1)],132⟩)) (wk_trans (Zd (live:=[1,2,3,5,9,10,11,12,13,14,15,17]) (keep:=[0,1,2,3,4]) gE) (wk_trans (wsn 13 [F eI x6]) (Zd (live:=[1,2,3,5,9,10,11,12,13,14,15,17]) (keep:=[0,1,2,3]) kr))) (fun s48=>?_) fun x60=>?_
     ·refine hop 3 (fun _=>Qr (enc:=eTapi_Node) (l:=p0.Nodes) (fl:=false) kr gE) <| hbr 1 [76] (?_) ?_
      ·refine hbr 5 [82] (?_) ?_
       ·refine hcl 6 [] (Qe9 p0 s48.2 x6) fun x53 _=>hbd fun a55 q56=>hop 2 (fun _=>Qe (enc:=eI) (l:=x6) (n:=s48.2) (fl:=true) (w:=1) (a:=a55) kr kr gE q56) <| hbd fun a57 q58=>hop 1 (fun _=>Qe (enc:=eI) (l:=x53) (n:=a55) (fl:=true) (w:=1) (a:=a57) kr kr gE q58) <| hnx 6 (wz [0,1,2,3])
       refine hnx 4 (wz [0,1,2,3])
      refine hdx 1 (wz [0,1,2,3])
     refine hop 4 (fun _=>Qe (enc:=eI) (l:=x6) (n:=p4.Node) (fl:=true) (w:=1) (a:=a24) kr kr gE q25) <| hkb 4 [102] q27 <| hbd fun a62 q63=>hop 15 (fun _=>Qe (enc:=eI) (l:=x6) (n:=p2) (fl:=true) (w:=1) (a:=a62) kr kr gE q63) <| hbr 3 [120] (hnx 16 (wz [0,1,2,3])) <| ?_
     refine hnx 4 (wz [0,1,2,3])
    refine hbd fun a66 q67=>hop 15 (fun _=>Q2 (enc:=eI) (l:=x6) (n:=p2) (w:=1) (ob:=4) (ro:=true) (nr:=true) (fl:=true) (a:=a66) kr kr gE q67) <| hop 0 (fun _=>Zo (enc:=eI) (l:=x6) (n:=p2) (w:=1) (ob:=4) (c:=0) (bx:=false) (ro:=true) (nr:=true) (fl:=true) (a:=a66) kr kr q67 gE) <| hbr 2 [120] (hnx 16 (wz [0,1,2,3])) <| ?_
    refine hnx 4 (wz [0,1,2,3])
   refine hbd fun a70 q71=>hop 34 (fun _=>Q2 (enc:=eI) (l:=x6) (n:=p2) (w:=1) (ob:=4) (ro:=true) (nr:=true) (fl:=true) (a:=a70) kr kr gE q71) <| hop 0 (fun _=>Zo (enc:=eI) (l:=x6) (n:=p2) (w:=1) (ob:=4) (c:=0) (bx:=false) (ro:=true) (nr:=true) (fl:=true) (a:=a70) kr kr q71 gE) <| hbr 2 [120] (hnx 16 (wz [0,1,2,3])) <| ?_
   refine hnx 4 (wz [0,1,2,3])
  refine hdx 1 (wz [2,3])
 refine hrt 3
theorem g_ref01_digits_ok (p0:Int):Ct Try.prog 66 [vI p0] (Xk p0) (fun x=>.ref 0 0 x.length) (fun x=>[oR true 1 eI x]):=by
 refine hfn [] Try.func66 <| hlp 2 (fun s1=>⟨[(0,vI s1.1),(3,.ref 0 0 s1.2.length)],[oR true 1 eI s1.2],19⟩) (fun v=>(.exit 0,⟨[(3,.ref 0 0 v.length)],[oR true 1 eI v],19⟩)) (wk_trans (Zd (live:=[0,3]) (keep:=[]) gE) (wk_trans (Qbl 3 1 true true gE) (Zd (live:=[0,3]) (keep:=[0]) kr))) (fun s1=>?_) fun x5=>?_
 ·refine hbr 2 [6] (?_) ?_
  ·refine hop 9 (fun _=>sgL false [] [] true gE) <| hoh 0 (fun _ _ h k=>Yi (enc:=eI) (l:=s1.2) (m:=([(if (zw (0 - (Int.tmod s1.1 10000))) > (Int.tmod s1.1 10000) then (zw (0 - (Int.tmod s1.1 10000))) else (Int.tmod s1.1 10000))]:(List Int))) (w:=1) (bytes:=8) (ob:=0) (nr:=true) (fl:=true) (nr':=true) (fl':=true) (b:=.ref 1 0 1) (rds:=[1]) false kr kr kr kr gE kr h k) <| hnx 4 (wz [2])
  refine hdx 1 (wz [0])
 refine hrt 3
theorem Kj (p0:(List Int)) (p1:(List Int)):Ct Try.prog 64 [z1 p0,z1 p1] (Y6 p0 p1) (fun x=>vI x) (fun x=>[]):=by
 refine hfn [] Try.func64 <| hop 2 (fun _=>Qr (enc:=eI) (l:=p0) (fl:=true) kr gE) <| hop 1 (fun _=>Qr (enc:=eI) (l:=p1) (fl:=true) kr gE) <| hbr 1 [10] (?_) ?_
 ·refine hop 2 (fun _=>Qr (enc:=eI) (l:=p0) (fl:=true) kr gE) <| hop 1 (fun _=>Qr (enc:=eI) (l:=p1) (fl:=true) kr gE) <| hbr 1 [15] (hrt 3) <| ?_
  refine hrt 3
 refine hop 2 (fun _=>Qr (enc:=eI) (l:=p0) (fl:=true) kr gE) <| hlp 2 (fun s5=>⟨[(0,z1 p0),(1,z1 p1),(5,vI s5)],[],41⟩) (fun x=>match x with | .inl v=>(.ret,⟨[(4,vI v)],[],41⟩) | .inr v=>(.exit 0,⟨[],[],41⟩)) (wz []) (fun s5=>?_) (hsm (fun x17=>?_) (fun x18=>?_))
 ·refine hbr 2 [20] (?_) ?_
  ·refine hbd fun a8 q9=>hop 4 (fun _=>Qe (enc:=eI) (l:=p0) (n:=s5) (fl:=true) (w:=1) (a:=a8) kr kr gE q9) <| hbd fun a10 q11=>hop 3 (fun _=>Qe (enc:=eI) (l:=p1) (n:=s5) (fl:=true) (w:=1) (a:=a10) kr kr gE q11) <| hbr 2 [31] (?_) ?_
   ·refine hop 4 (fun _=>Qe (enc:=eI) (l:=p0) (n:=s5) (fl:=true) (w:=1) (a:=a8) kr kr gE q9) <| hop 3 (fun _=>Qe (enc:=eI) (l:=p1) (n:=s5) (fl:=true) (w:=1) (a:=a10) kr kr gE q11) <| hbr 2 [40] (hdx 2 (wz [])) <| ?_
    refine hdx 2 (wz [])
   refine hnx 4 (wz [])
  refine hdx 1 (wz [])
 ·refine hrt 0
 refine hrt 2
theorem g_ref01_cut_ok (p0:(List Int)):Ct Try.prog 92 [z1 p0] (Jh p0) (fun x=>z1 x) (fun x=>[]):=by
 refine hfn [[.lst true]] Try.func92 <| hlp 1 (fun s1=>⟨[(0,z1 s1)],[],21⟩) (fun v=>(.exit 0,⟨[(0,z1 v)],[],21⟩)) (wz []) (fun s1=>?_) fun x9=>?_
 ·refine hop 1 (fun _=>Qr (enc:=eI) (l:=s1) (fl:=true) kr gE) <| hbr 2 [5,6] (?_) ?_
  ·refine hop 2 (fun _=>Qr (enc:=eI) (l:=s1) (fl:=true) kr gE) <| hbd fun a4 q5=>hop 1 (fun _=>Qe (enc:=eI) (l:=s1) (n:=zw ((zn s1) - 1)) (fl:=true) (w:=1) (a:=a4) kr kr gE q5) <| hbr 3 [13,14] (?_) ?_
   ·refine hop 3 (fun _=>Qr (enc:=eI) (l:=s1) (fl:=true) kr gE) <| hoh 1 (fun _ _ h k=>Qu4 (enc:=eI) (l:=s1) (fl:=true) (lo:=none) (hi:=(some (vI (zw ((zn s1) - 1))))) (a:=0) (b:=zw ((zn s1) - 1)) (w:=1) kr (fun _=>rfl) kr kr gE h k) <| hnx 1 (wz [])
   refine hdx 1 (wz [])
  refine hdx 9 (wz [])
 refine hrt 3
theorem g_ref01_times_ok (p0:(List Int)) (p1:(List Int)):Ct Try.prog 67 [z1 p0,z1 p1] (Ve p0 p1) (fun x=>z1 x) (fun x=>[]):=by
 refine hfn [[.lst true]] Try.func67 <| hop 2 (fun _=>Qr (enc:=eI) (l:=p0) (fl:=true) kr gE) <| hop 1 (fun _=>Qr (enc:=eI) (l:=p1) (fl:=true) kr gE) <| hoh 1 (fun _ _ h k=>mkL (enc:=eI) (z:=(0:Int)) (z0:=vI 0) (n:=zw ((zn p0)+(zn p1))) (m:=zw ((zn p0)+(zn p1))) (w:=1) (bytes:=8) [] true kr kr gE kr h k) <| hlp 2 (fun s1=>⟨[(0,z1 p0),(1,z1 p1),(5,.ref 0 0 s1.2.length),(6,vI s1.1)],[oR true 1 eI s1.2],65⟩) (fun v=>(.exit 0,⟨[(5,.ref 0 0 v.length)],[oR true 1 eI v],65⟩)) (wz [0]) (fun s1=>?_) fun x28=>?_
 ·refine hop 2 (fun _=>Qr (enc:=eI) (l:=p0) (fl:=true) kr gE) <| hbr 1 [18] (?_) ?_
  ·refine hlp 3 (fun s4=>⟨[(0,z1 p0),(1,z1 p1),(5,.ref 0 0 s4.2.2.length),(6,vI s1.1),(7,vI s4.1),(8,vI s4.2.1)],[oR true 1 eI s4.2.2],65⟩) (fun v=>(.exit 2,⟨[(0,z1 p0),(1,z1 p1),(5,.ref 0 0 v.length),(6,vI s1.1)],[oR true 1 eI v],65⟩)) (wz [0]) (fun s4=>?_) fun x26=>?_
   ·refine hop 2 (fun _=>Qr (enc:=eI) (l:=p1) (fl:=true) kr gE) <| hbq 2 [24,25] (fun q6=>?_) (fun q6=>?_)
    ·refine hbd fun a7 q8=>hop 9 (fun _=>Q2 (enc:=eI) (l:=s4.2.2) (n:=zw (s1.1+s4.2.1)) (w:=1) (ob:=0) (ro:=false) (nr:=true) (fl:=true) (a:=a7) kr kr gE q8) <| hop 0 (fun _=>Zo (enc:=eI) (l:=s4.2.2) (n:=zw (s1.1+s4.2.1)) (w:=1) (ob:=0) (c:=0) (bx:=false) (ro:=false) (nr:=true) (fl:=true) (a:=a7) kr kr q8 gE) <| hop 4 (fun _=>Qr (enc:=eI) (l:=p1) (fl:=true) kr gE) <| hkb 1 [42] q6 <| hbd fun a10 q11=>hop 5 (fun _=>Qe (enc:=eI) (l:=p0) (n:=s1.1) (fl:=true) (w:=1) (a:=a10) kr kr gE q11) <| hbd fun a12 q13=>hop 3 (fun _=>Qe (enc:=eI) (l:=p1) (n:=s4.2.1) (fl:=true) (w:=1) (a:=a12) kr kr gE q13) <| ?_
     refine hop 10 (fun _=>Q2 (enc:=eI) (l:=s4.2.2) (n:=zw (s1.1+s4.2.1)) (w:=1) (ob:=0) (ro:=false) (nr:=true) (fl:=true) (a:=a7) kr kr gE q8) <| hbd fun a14 q15=>hop 0 (fun _=>Vi (enc:=eI) (l:=s4.2.2) (n:=(zw (s1.1+s4.2.1))) (ob:=0) (w:=1) (bx:=false) (nr:=true) (fl:=true) (c:=0) (a:=a14) (a':=Int.tmod (zw ((zw (s4.1+a7))+(zw (a10*a12)))) 10000) (v:=vI (Int.tmod (zw ((zw (s4.1+a7))+(zw (a10*a12)))) 10000)) false kr kr q15 kr kr kr gE kr) <| hkl 0 [5,32,54] (ls s4.2.2 (zt (zw (s1.1+s4.2.1))) (Int.tmod (zw ((zw (s4.1+a7))+(zw (a10*a12)))) 10000)) <| hnx 6 (wz [0])
    refine hbr 3 [27,28] (?_) ?_
    ·refine hbd fun a19 q20=>hop 6 (fun _=>Q2 (enc:=eI) (l:=s4.2.2) (n:=zw (s1.1+s4.2.1)) (w:=1) (ob:=0) (ro:=false) (nr:=true) (fl:=true) (a:=a19) kr kr gE q20) <| hop 0 (fun _=>Zo (enc:=eI) (l:=s4.2.2) (n:=zw (s1.1+s4.2.1)) (w:=1) (ob:=0) (c:=0) (bx:=false) (ro:=false) (nr:=true) (fl:=true) (a:=a19) kr kr q20 gE) <| hop 4 (fun _=>Qr (enc:=eI) (l:=p1) (fl:=true) kr gE) <| hkb 1 [42] q6 <| hop 7 (fun _=>Q2 (enc:=eI) (l:=s4.2.2) (n:=zw (s1.1+s4.2.1)) (w:=1) (ob:=0) (ro:=false) (nr:=true) (fl:=true) (a:=a19) kr kr gE q20) <| hbd fun a22 q23=>hop 0 (fun _=>Vi (enc:=eI) (l:=s4.2.2) (n:=(zw (s1.1+s4.2.1))) (ob:=0) (w:=1) (bx:=false) (nr:=true) (fl:=true) (c:=0) (a:=a22) (a':=Int.tmod (zw (s4.1+a19)) 10000) (v:=vI (Int.tmod (zw (s4.1+a19)) 10000)) false kr kr q23 kr kr kr gE kr) <| hkl 0 [5,32,54] (ls s4.2.2 (zt (zw (s1.1+s4.2.1))) (Int.tmod (zw (s4.1+a19)) 10000)) <| ?_
     refine hnx 6 (wz [0])
    refine hdx 1 (wz [0])
   refine hnx 3 (wz [0])
  refine hdx 1 (wz [0])
 refine hcl 1 [F eI x28] (g_ref01_cut_ok x28) fun x29 _=>hrt 2
theorem Qpo (p0:(List Int)) (p1:(List Int)):Ct Try.prog 106 [z1 p0,z1 p1] (Qc5 p0 p1) (fun x=>z1 x) (fun x=>[]):=by
 refine hfn [[.lst true]] Try.func106 <| hlp 4 (fun s1=>⟨[(0,z1 p0),(1,z1 p1),(5,.ref 0 0 s1.2.2.length),(6,vI s1.1),(7,vI s1.2.1)],[oR true 1 eI s1.2.2],41⟩) (fun v=>(.exit 0,⟨[(5,.ref 0 0 v.length)],[oR true 1 eI v],41⟩)) (wk_trans (Zd (live:=[0,1,5,6,7]) (keep:=[]) gE) (wk_trans (Qbl 5 1 true true gE) (Zd (live:=[0,1,5,6,7]) (keep:=[0]) kr))) (fun s1=>?_) fun x15=>?_
 ·refine hop 2 (fun _=>Qr (enc:=eI) (l:=p0) (fl:=true) kr gE) <| hbr 1 [12] (?_) ?_
  ·refine hbd fun a4 q5=>hop 3 (fun _=>Qe (enc:=eI) (l:=p0) (n:=s1.2.1) (fl:=true) (w:=1) (a:=a4) kr kr gE q5) <| hop 6 (fun _=>Qr (enc:=eI) (l:=p1) (fl:=true) kr gE) <| hbr 1 [24] (?_) ?_
   ·refine hbd fun a8 q9=>hop 4 (fun _=>Qe (enc:=eI) (l:=p1) (n:=s1.2.1) (fl:=true) (w:=1) (a:=a8) kr kr gE q9) <| hbr 6 [32] (?_) ?_
    ·refine hop 7 (fun _=>sgL false [] [] true gE) <| hoh 0 (fun _ _ h k=>Yi (enc:=eI) (l:=s1.2.2) (m:=([zw ((zw ((zw (a4 - s1.1)) - a8))+10000)]:(List Int))) (w:=1) (bytes:=8) (ob:=0) (nr:=true) (fl:=true) (nr':=true) (fl':=true) (b:=.ref 1 0 1) (rds:=[1]) false kr kr kr kr gE kr h k) <| hnx 4 (wz [2])
    refine hop 3 (fun _=>sgL false [] [] true gE) <| hoh 0 (fun _ _ h k=>Yi (enc:=eI) (l:=s1.2.2) (m:=([zw ((zw (a4 - s1.1)) - a8)]:(List Int))) (w:=1) (bytes:=8) (ob:=0) (nr:=true) (fl:=true) (nr':=true) (fl':=true) (b:=.ref 1 0 1) (rds:=[1]) false kr kr kr kr gE kr h k) <| hnx 4 (wz [2])
   refine hbr 4 [32] (?_) ?_
   ·refine hop 7 (fun _=>sgL false [] [] true gE) <| hoh 0 (fun _ _ h k=>Yi (enc:=eI) (l:=s1.2.2) (m:=([zw ((zw (a4 - s1.1))+10000)]:(List Int))) (w:=1) (bytes:=8) (ob:=0) (nr:=true) (fl:=true) (nr':=true) (fl':=true) (b:=.ref 1 0 1) (rds:=[1]) false kr kr kr kr gE kr h k) <| hnx 4 (wz [2])
   refine hop 3 (fun _=>sgL false [] [] true gE) <| hoh 0 (fun _ _ h k=>Yi (enc:=eI) (l:=s1.2.2) (m:=([zw (a4 - s1.1)]:(List Int))) (w:=1) (bytes:=8) (ob:=0) (nr:=true) (fl:=true) (nr':=true) (fl':=true) (b:=.ref 1 0 1) (rds:=[1]) false kr kr kr kr gE kr h k) <| hnx 4 (wz [2])
  refine hdx 1 (wz [0])
 refine hcl 1 [F eI x15] (g_ref01_cut_ok x15) fun x16 _=>hrt 2
theorem g_ref01_divide_ok (p0:(List Int)) (p1:(List Int)):Ct Try.prog 91 [z1 p0,z1 p1] (Jl p0 p1) (fun x=>.tup [z1 x.1,z1 x.2]) (fun x=>[]):=by
 refine hfn [[.lst true],[.lst true]] Try.func91 <| hop 3 (fun _=>Qr (enc:=eI) (l:=p1) (fl:=true) kr gE) <| hop 3 (fun _=>Qr (enc:=eI) (l:=p0) (fl:=true) kr gE) <| hbr 2 [22] (?_) ?_
 ·refine hoh 3 (fun _ _ h k=>Qiz (enc:=eI) (m:=p0) (w:=1) (bytes:=8) (nr':=true) (fl':=true) (a:=.emp) (b:=z1 p0) (rds:=[]) false kr (.inr rfl) (Ka (fun _=>rfl)) kr gE kr h k) <| hwk 2 (wl [4,5] [0]) <| hwk 0 (wsn 5 [F eI p0]) <| hrt 1
 refine hop 2 (fun _=>Qr (enc:=eI) (l:=p0) (fl:=true) kr gE) <| hoh 2 (fun _ _ h k=>mkL (enc:=eI) (z:=(0:Int)) (z0:=vI 0) (n:=zw ((zn p0) - (zw ((zn p1) - 1)))) (m:=zw ((zn p0) - (zw ((zn p1) - 1)))) (w:=1) (bytes:=8) [] true kr kr gE kr h k) <| hop 4 (fun _=>Qr (enc:=eI) (l:=p0) (fl:=true) kr gE) <| hoh 2 (fun _ _ h k=>Qu4 (enc:=eI) (l:=p0) (fl:=true) (lo:=(some (vI (zw ((zn p0) - (zw ((zn p1) - 1))))))) (hi:=none) (a:=zw ((zn p0) - (zw ((zn p1) - 1)))) (b:=(zn p0)) (w:=1) kr (fun _=>rfl) kr kr gE h k) <| hoh 0 (fun _ _ h k=>Qiz (enc:=eI) (m:=(sub p0 (zw ((zn p0) - (zw ((zn p1) - 1)))) (zn p0))) (w:=1) (bytes:=8) (nr':=true) (fl':=true) (a:=.emp) (b:=z1 (sub p0 (zw ((zn p0) - (zw ((zn p1) - 1)))) (zn p0))) (rds:=[]) false kr (.inr rfl) (Ka (fun _=>rfl)) kr gE kr h k) <| hlp 5 (fun s3=>⟨[(0,z1 p0),(1,z1 p1),(6,vI (zw ((zn p1) - 1))),(7,.ref 0 0 s3.2.2.length),(8,z1 s3.1),(9,vI s3.2.1)],[oR true 1 eI s3.2.2],124⟩) (fun v=>(.exit 0,⟨[(7,.ref 0 0 v.2.length),(8,z1 v.1)],[oR true 1 eI v.2],124⟩)) (wk_trans (Zd (live:=[0,1,6,7,8,9]) (keep:=[0,1]) gE) (wk_trans (wsn 8 [F eI (sub p0 (zw ((zn p0) - (zw ((zn p1) - 1)))) (zn p0))]) (Zd (live:=[0,1,6,7,8,9]) (keep:=[0]) kr))) (fun s3=>?_) fun x48=>?_
 ·refine hbr 2 [43] (?_) ?_
  ·refine hbd fun a6 q7=>hop 3 (fun _=>Qe (enc:=eI) (l:=p0) (n:=s3.2.1) (fl:=true) (w:=1) (a:=a6) kr kr gE q7) <| hop 1 (fun _=>sgL false [] [] true gE) <| hoh 1 (fun _ _ h k=>Yi (enc:=eI) (l:=([a6]:(List Int))) (m:=s3.1) (w:=1) (bytes:=8) (ob:=1) (nr:=true) (fl:=true) (nr':=true) (fl':=true) (b:=z1 s3.1) (rds:=[]) false kr kr (Ka (fun _=>rfl)) kr gE kr h k) <| hcl 0 [F eI (([a6]:(List Int))++s3.1)] (g_ref01_cut_ok (([a6]:(List Int))++s3.1)) fun x8 _=>hlp 6 (fun s10=>⟨[(0,z1 p0),(1,z1 p1),(6,vI (zw ((zn p1) - 1))),(7,.ref 0 0 s3.2.2.length),(8,z1 x8),(9,vI s3.2.1),(10,vI s10.1),(11,vI s10.2.1),(12,vI s10.2.2)],[oR true 1 eI s3.2.2],124⟩) (fun v=>(.exit 2,⟨[(0,z1 p0),(1,z1 p1),(6,vI (zw ((zn p1) - 1))),(7,.ref 0 0 s3.2.2.length),(8,z1 x8),(9,vI s3.2.1),(10,vI v.1),(11,vI v.2)],[oR true 1 eI s3.2.2],124⟩)) (wz [0]) (fun s10=>?_) fun x26=>?_
   ·refine hbr 5 [60] (?_) ?_
    ·refine hop 6 (fun _=>Qr (enc:=eI) (l:=x8) (fl:=true) kr gE) <| hbr 1 [68] (?_) ?_
     ·refine hbd fun a15 q16=>hop 4 (fun _=>Qe (enc:=eI) (l:=x8) (n:=s10.2.2) (fl:=true) (w:=1) (a:=a15) kr kr gE q16) <| hbr 6 [77] (hbd fun a19 q20=>hop 5 (fun _=>Qe (enc:=eI) (l:=p1) (n:=s10.2.2) (fl:=true) (w:=1) (a:=a19) kr kr gE q20) <| hnx 6 (wz [0])) <| ?_
      refine hnx 4 (wz [0])
     refine hbr 4 [77] (hbd fun a23 q24=>hop 5 (fun _=>Qe (enc:=eI) (l:=p1) (n:=s10.2.2) (fl:=true) (w:=1) (a:=a23) kr kr gE q24) <| hnx 6 (wz [0])) <| ?_
     refine hnx 4 (wz [0])
    refine hdx 1 (wz [0])
   refine hoh 4 (fun _ _ h k=>Qr4 (k:=.i64) (a:=x26.2) (b:=zw (x26.1+1)) kr gE h k) <| hoh 2 (fun _ _ h k=>Qr4 (k:=.i64) (a:=x26.2) (b:=x26.1) kr gE h k) <| hlp 2 (fun s27=>⟨[(0,z1 p0),(1,z1 p1),(6,vI (zw ((zn p1) - 1))),(7,.ref 0 0 s3.2.2.length),(8,z1 x8),(9,vI s3.2.1),(13,vI s27.1),(14,vI s27.2)],[oR true 1 eI s3.2.2],124⟩) (fun v=>(.exit 4,⟨[(0,z1 p0),(1,z1 p1),(6,vI (zw ((zn p1) - 1))),(7,.ref 0 0 s3.2.2.length),(8,z1 x8),(9,vI s3.2.1),(13,vI v)],[oR true 1 eI s3.2.2],124⟩)) (wz [0]) (fun s27=>?_) fun x37=>?_
   ·refine hbr 3 [94] (?_) ?_
    ·refine hop 9 (fun _=>sgL false [] [] true gE) <| hcl 0 [] (g_ref01_times_ok p1 [zw (Int.tdiv (zw ((zw (s27.1+s27.2))+1)) 2)]) fun x30 _=>hcl 1 [] (Kj x30 x8) fun x32 _=>hbr 1 [106] (hnx 3 (wz [0])) <| ?_
     refine hnx 4 (wz [0])
    refine hdx 1 (wz [0])
   refine hbd fun a38 q39=>hop 3 (fun _=>Q2 (enc:=eI) (l:=s3.2.2) (n:=s3.2.1) (w:=1) (ob:=0) (ro:=false) (nr:=true) (fl:=true) (a:=a38) kr kr gE q39) <| hop 0 (fun _=>Vi (enc:=eI) (l:=s3.2.2) (n:=s3.2.1) (ob:=0) (w:=1) (bx:=false) (nr:=true) (fl:=true) (c:=0) (a:=a38) (a':=x37) (v:=vI x37) false kr kr q39 kr kr kr gE kr) <| hkl 0 [7,110] (ls s3.2.2 (zt s3.2.1) x37) <| hop 3 (fun _=>sgL false [] [] true gE) <| hcl 0 [] (g_ref01_cut_ok [x37]) fun x40 _=>hcl 0 [] (g_ref01_times_ok p1 x40) fun x42 _=>hcl 0 [] (Qpo x8 x42) fun x44 _=>hnx 4 (wz [0])
  refine hdx 1 (wz [0])
 refine hcl 1 [F eI x48.2] (g_ref01_cut_ok x48.2) fun x49 _=>hrt 4
theorem g_ref01_gcd_ok (p0:(List Int)) (p1:(List Int)):Ct Try.prog 65 [z1 p0,z1 p1] (Qfm p0 p1) (fun x=>z1 x) (fun x=>[]):=by
 refine hfn [[.lst true]] Try.func65 <| hlp 1 (fun s1=>⟨[(0,z1 s1.1),(1,z1 s1.2)],[],19⟩) (fun v=>(.exit 0,⟨[(0,z1 v)],[],19⟩)) (wz []) (fun s1=>?_) fun x7=>?_
 ·refine hop 1 (fun _=>Qr (enc:=eI) (l:=s1.2) (fl:=true) kr gE) <| hbr 1 [9] (hcl 3 [] (g_ref01_divide_ok s1.1 s1.2) fun x4 _=>hnx 9 (wz [])) <| ?_
  refine hdx 1 (wz [])
 refine hrt 3
theorem Qhy (p0:(List Int)):Ct Try.prog 100 [z1 p0] (Qas p0) (fun x=>.tup [vI x.1,vB x.2]) (fun x=>[]):=by
 refine hfn [] Try.func100 <| hcl 3 [] (g_ref01_digits_ok 4611686018427387903) fun x1 _=>hcl 0 [F eI x1] (Kj p0 x1) fun x3 _=>hbr 1 [9] (hrt 4) <| ?_
 refine hop 3 (fun _=>Qr (enc:=eI) (l:=p0) (fl:=true) kr gE) <| hlp 2 (fun s7=>⟨[(0,z1 p0),(4,vI s7.1),(5,vI s7.2)],[],25⟩) (fun v=>(.exit 0,⟨[(4,vI v)],[],25⟩)) (wz []) (fun s7=>?_) fun x13=>?_
 ·refine hbr 2 [14] (hbd fun a10 q11=>hop 5 (fun _=>Qe (enc:=eI) (l:=p0) (n:=s7.2) (fl:=true) (w:=1) (a:=a10) kr kr gE q11) <| hnx 6 (wz [])) <| ?_
  refine hdx 1 (wz [])
 refine hrt 4
theorem Qrf (p0:Bool) (p1:(List Int)) (p2:(List Int)):Ct Try.prog 80 [vB p0,z1 p1,z1 p2] (Qet p0 p1 p2) (fun x=>.tup [.agg [vI x.1.N,vI x.1.D],vB x.2]) (fun x=>[]):=by
 refine hfn [] Try.func80 <| hcl 4 [] (g_ref01_gcd_ok p1 p2) fun x1 _=>hcl 3 [] (g_ref01_divide_ok p1 x1) fun x3 _=>hcl 6 [] (g_ref01_divide_ok p2 x1) fun x5 _=>hcl 5 [] (Qhy x3.1) fun x7 _=>hcl 6 [] (Qhy x5.1) fun x9 _=>hbr 8 [39,40] (hrt 8) <| ?_
 refine hbr 3 [42,43] (hrt 5) <| ?_
 refine hbr 2 [0,45] (hrt 10) <| ?_
 refine hrt 7
theorem g_ref01_Make_ok (p0:Int) (p1:Int):Ct Try.prog 48 [vI p0,vI p1] (Qd7 p0 p1) (fun x=>.tup [.agg [vI x.1.N,vI x.1.D],vB x.2]) (fun x=>[]):=by
 refine hfn [] Try.func48 <| hcl 8 [] (g_ref01_digits_ok p0) fun x1 _=>hcl 1 [] (g_ref01_digits_ok p1) fun x3 _=>hcl 0 [F eI x1,F eI x3] (Qrf (!((decide (p0 < 0))==(decide (p1 < 0)))) x1 x3) fun x5 _=>hrt 5
theorem Qc7 (p0:Int) (p1:Int):Ct Try.prog 15 [vI p0,vI p1] (Qao p0 p1) (fun x=>.agg [vI x.N,vI x.D]) (fun x=>[]):=by
 refine hfn [] Try.func15 <| hcl 3 [] (g_ref01_Make_ok p0 p1) fun x1 _=>hrt 9
theorem Qhp (p0:Int) (p1:Int):Ct Try.prog 84 [.int .u64 p0,.int .u64 p1] (Qav p0 p1) (fun x=>.int .u64 x) (fun x=>[]):=by
 refine hfn [] Try.func84 <| hlp 1 (fun s1=>⟨[(0,.int .u64 s1.1),(1,.int .u64 s1.2)],[],12⟩) (fun v=>(.exit 0,⟨[(0,.int .u64 v)],[],12⟩)) (wz []) (fun s1=>?_) fun x5=>?_
 ·refine hbr 2 [6] (hoh 5 (fun _ _ h k=>Kv (k:=.u64) (a:=s1.1) (b:=s1.2) kr gE h k) <| hnx 2 (wz [])) <| ?_
  refine hdx 1 (wz [])
 refine hrt 3
theorem g_frac_size_ok (p0:Int):Ct Try.prog 85 [vI p0] (Yz p0) (fun x=>.int .u64 x) (fun x=>[]):=by
 refine hfn [] Try.func85 <| hbr 3 [4] (hrt 6) <| ?_
 refine hrt 5
theorem g_frac_Check_ok (p0:Tapi_Q):Ct Try.prog 81 [.agg [vI p0.N,vI p0.D]] (K3 p0) (fun x=>vI x) (fun x=>[]):=by
 refine hfn [] Try.func81 <| hbr 6 [5,6] (hrt 17) <| ?_
 refine hbr 5 [9,10,11] (hrt 12) <| ?_
 refine hbr 5 [14,15,16] (hrt 7) <| ?_
 refine hbr 4 [19,20] (hrt 3) <| ?_
 refine hcl 4 [] (g_frac_size_ok p0.N) fun x9 _=>hcl 3 [] (Qhp x9 (zv (p0.D))) fun x11 _=>hbr 1 [28] (hrt 3) <| ?_
 refine hrt 3
theorem Qbf (p0:Tapi_Q):Ct Try.prog 49 [.agg [vI p0.N,vI p0.D]] (Kr p0) (fun x=>vI x) (fun x=>[]):=by
 refine hfn [] Try.func49 <| hcl 3 [] (g_frac_Check_ok p0) fun x1 _=>hbr 3 [7] (hrt 4) <| ?_
 refine hbr 5 [11,12] (hrt 12) <| ?_
 refine hbr 5 [15,16,17] (hrt 7) <| ?_
 refine hbr 4 [20,21] (hrt 3) <| ?_
 refine hrt 3
theorem Qa7 (p0:Qb) (p1:Tapi_Shift):Ct Try.prog 50 [.agg [vI p0.Grain,eL false eTapi_Node p0.Nodes],.agg [vI p1.Node,vI p1.Row,vI p1.From,vI p1.To]] (Xy p0 p1) (fun x=>.tup [vI x.1,vI x.2]) (fun x=>[]):=by
 refine hfn [] Try.func50 <| hop 0 (fun _=>sgL false [] [] false gE) <| hbd fun a1 q2=>hop 8 (fun _=>Qe (enc:=eTapi_Node) (l:=p0.Nodes) (n:=p1.Node) (fl:=false) (w:=3) (a:=a1) kr kr gE q2) <| hbd fun a3 q4=>hop 4 (fun _=>Qe (enc:=z1) (l:=a1.Rows) (n:=p1.Row) (fl:=false) (w:=1) (a:=a3) kr kr gE q4) <| hbd fun a5 q6=>hop 6 (fun _=>Qe (enc:=eI) (l:=a3) (n:=p1.To) (fl:=true) (w:=1) (a:=a5) kr kr gE q6) <| hbd fun a7 q8=>?_
 refine hop 5 (fun _=>Qe (enc:=eI) (l:=a3) (n:=p1.From) (fl:=true) (w:=1) (a:=a7) kr kr gE q8) <| hrt 4
theorem g_frac_fit_ok (p0:Bool) (p1:(Int × Int)) (p2:(Int × Int)):Ct Try.prog 86 [vB p0,.agg [.int .u64 p1.1,.int .u64 p1.2],.agg [.int .u64 p2.1,.int .u64 p2.2]] (Qlf p0 p1 p2) (fun x=>.agg [vI x.N,vI x.D]) (fun x=>[]):=by
 refine hfn [] Try.func86 <| hbr 7 [9,10] (hnn) <| ?_
 refine hbr 5 [13,14,15] (hnn) <| ?_
 refine hbr 5 [18,19,20] (hnn) <| ?_
 refine hbr 4 [23,24] (hnn) <| ?_
 refine hbr 2 [0,27] (hrt 11) <| ?_
 refine hrt 10
theorem Ql3 (c0:Int) (c1:Int):Ct Try.prog 83 [.fz [vI c0],.fz [vI c1]] (Qdl c0 c1) (fun x=>.agg [vI x.N,vI x.D]) (fun x=>[]):=by
 refine hfn [] Try.func83 <| hcl 3 [] (g_frac_size_ok c0) fun x1 _=>hcl 1 [] (g_frac_size_ok c1) fun x3 _=>hcl 0 [] (Qhp x1 x3) fun x5 _=>hcl 8 [] (g_frac_size_ok c0) fun x7 _=>hoh 1 (fun _ _ h k=>Qr4 (k:=.u64) (a:=x7) (b:=x5) kr gE h k) <| hcl 2 [] (g_frac_size_ok c1) fun x9 _=>hoh 1 (fun _ _ h k=>Qr4 (k:=.u64) (a:=x9) (b:=x5) kr gE h k) <| hcl 1 [] (g_frac_fit_ok (!((decide (c0 < 0))==(decide (c1 < 0)))) (0,zv (Int.tdiv x7 x5)) (0,zv (Int.tdiv x9 x5))) fun x11 _=>?_
 refine hrt 2
theorem Qfb (p0:Int) (p1:Int):Ct Try.prog 51 [vI p0,vI p1] (Qay p0 p1) (fun x=>.tup [.agg [vI x.1.N,vI x.1.D],vI x.2]) (fun x=>[]):=by
 refine hfn [] Try.func51 <| hbr 6 [7] (hrt 5) <| ?_
 refine hcl 2 [] (us:=[.fn (.func 83) [] [.fz [vI p0],.fz [vI p1]]]) (rv:=fun x3=>.tup [.agg [vI x3.N,vI x3.D],vI 0]) (ro:=fun x3=>[]) (fun x3 q4=>Q10 Q24 Try.func83 rfl (by decide +kernel) (Ql3 p0 p1 x3 q4)) fun x3 _=>hrt 5
theorem g_sensitive_At_ok (p0:Qb) (p1:(List Int)) (p2:Int) (p3:Int) (p4:Tapi_Shift) (p5:Tapi_Q):Ct Try.prog 16 [.agg [vI p0.Grain,eL false eTapi_Node p0.Nodes],z1 p1,vI p2,vI p3,.agg [vI p4.Node,vI p4.Row,vI p4.From,vI p4.To],.agg [vI p5.N,vI p5.D]] (K0 p0 p1 p2 p3 p4 p5) (fun x=>.tup [.agg [vI x.1.N,vI x.1.D],vI x.2]) (fun x=>[]):=by
 refine hfn [] Try.func16 <| hop 0 (fun _=>sgL false [] [] false gE) <| hcl 9 [] (g_sensitive_Line_ok p0 p1 p2 p3 p4) fun x1 _=>hbr 8 [30] (hrt 6) <| ?_
 refine hcl 2 [] (Qbf p5) fun x5 _=>hbr 3 [36] (hrt 6) <| ?_
 refine hcl 3 [] (Qa7 p0 p4) fun x9 _=>hbr 13 [51,52] (hrt 13) <| ?_
 refine hbr 8 [59,60] (hrt 5) <| ?_
 refine hbr 15 [74] (hrt 5) <| ?_
 refine hcl 13 [] (Qfb (zw ((zw (x1.1.1*p5.D))+(zw (x1.1.2.1*p5.N)))) (zw ((zw (x1.1.2.2.1*p5.D))+(zw (x1.1.2.2.2*p5.N))))) fun x17 _=>hrt 5
theorem Qcp (p0:Tapi_Q) (p1:Tapi_Q):Ct Try.prog 30 [.agg [vI p0.N,vI p0.D],.agg [vI p1.N,vI p1.D]] (Kw p0 p1) (fun x=>vI x) (fun x=>[]):=by
 refine hfn [] Try.func30 <| hcl 6 [] (us:=[vI p0.N]) (rv:=fun x1=>z1 x1) (ro:=fun x1=>[]) (fun x1 q2=>Qx.froz (g_ref01_digits_ok p0.N x1 q2) (Z3 (w:=1) (bx:=false) (ro:=false) (enc:=eI) (l:=x1) (fl:=true) rfl)) fun x1 _=>hcl 2 [] (us:=[vI p1.D]) (rv:=fun x3=>z1 x3) (ro:=fun x3=>[]) (fun x3 q4=>Qx.froz (g_ref01_digits_ok p1.D x3 q4) (Z3 (w:=1) (bx:=false) (ro:=false) (enc:=eI) (l:=x3) (fl:=true) rfl)) fun x3 _=>hcl 0 [] (g_ref01_times_ok x1 x3) fun x5 _=>hcl 2 [] (us:=[vI p1.N]) (rv:=fun x7=>z1 x7) (ro:=fun x7=>[]) (fun x7 q8=>Qx.froz (g_ref01_digits_ok p1.N x7 q8) (Z3 (w:=1) (bx:=false) (ro:=false) (enc:=eI) (l:=x7) (fl:=true) rfl)) fun x7 _=>hcl 2 [] (us:=[vI p0.D]) (rv:=fun x9=>z1 x9) (ro:=fun x9=>[]) (fun x9 q10=>Qx.froz (g_ref01_digits_ok p0.D x9 q10) (Z3 (w:=1) (bx:=false) (ro:=false) (enc:=eI) (l:=x9) (fl:=true) rfl)) fun x9 _=>hcl 0 [] (g_ref01_times_ok x7 x9) fun x11 _=>hbq 6 [24,25] (fun q14=>?_) (fun q14=>?_)
 ·refine hbr 5 [28,29,21] (hcl 3 [] (Kj x11 x5) fun x17 _=>hrt 2) <| ?_
  refine hkb 5 [36,33] q14 <| hrt 3
 refine hkb 10 [36,33] q14 <| hbr 5 [40,37] (hrt 3) <| ?_
 refine hcl 3 [] (Kj x5 x11) fun x23 _=>hrt 2
theorem Qpl (p0:Qb) (p1:Tapi_Shift):Ct Try.prog 52 [.agg [vI p0.Grain,eL false eTapi_Node p0.Nodes],.agg [vI p1.Node,vI p1.Row,vI p1.From,vI p1.To]] (Qf6 p0 p1) (fun x=>.tup [vI x.1,vI x.2]) (fun x=>[]):=by
 refine hfn [] Try.func52 <| hop 0 (fun _=>sgL false [] [] false gE) <| hbd fun a1 q2=>hop 8 (fun _=>Qe (enc:=eTapi_Node) (l:=p0.Nodes) (n:=p1.Node) (fl:=false) (w:=3) (a:=a1) kr kr gE q2) <| hbd fun a3 q4=>hop 4 (fun _=>Qe (enc:=z1) (l:=a1.Rows) (n:=p1.Row) (fl:=false) (w:=1) (a:=a3) kr kr gE q4) <| hbd fun a5 q6=>hop 6 (fun _=>Qe (enc:=eI) (l:=a3) (n:=p1.To) (fl:=true) (w:=1) (a:=a5) kr kr gE q6) <| hbd fun a7 q8=>?_
 refine hop 5 (fun _=>Qe (enc:=eI) (l:=a3) (n:=p1.From) (fl:=true) (w:=1) (a:=a7) kr kr gE q8) <| hrt 4
theorem g_law24_rain_ok  : Ct Try.prog 31 [] (Qca) (fun x=>.agg [vI x.Grain,.ref 0 0 x.Nodes.length]) (fun x=>[oR false 3 eTapi_Node x.Nodes]):=by
 refine hfn [] Try.func31 <| hop 0 (fun _=>sgL false [] [] false gE) <| hop 0 (fun _=>sgL false [] [] true gE) <| hbs 0 [.lst true] false [] <| hop 1 (fun _=>sgL false [] [] true gE) <| hop 0 (fun _=>sgL false [] [] true gE) <| hop 0 (fun _=>sgL false [] [] true gE) <| hbs 0 [.lst true] false [] <| hbs 1 [.keep,.lst true,.lst false] false [] <| ?_
 refine hrt 3
theorem Qf2 (p0:Int) (p1:Int) (p2:Int):Ct Try.prog 53 [vI p0,vI p1,vI p2] (Qgn p0 p1 p2) (fun x=>vB x) (fun x=>[]):=by
 refine hfn [] Try.func53 <| hcl 1 [] (g_law24_rain_ok ) fun x1 _=>hop 0 (fun _=>sgL false [] [] true gE) <| hcl 3 [F eTapi_Node x1.Nodes] (g_sensitive_At_ok x1 [-1,1] 0 1 (Tapi_Shift.mk 0 0 0 1) (Tapi_Q.mk p0 1)) fun x3 _=>hbr 9 [19,20] (hrt 8) <| ?_
 refine hrt 8
theorem g_math_bits_Mul64_ok (p0:Int) (p1:Int):Ct Try.prog 115 [.int .u64 p0,.int .u64 p1] (Kz p0 p1) (fun x=>.tup [.int .u64 x.1,.int .u64 x.2]) (fun x=>[]):=by
 refine hfn [] Try.func115 <| hrt 51
theorem Qii (p0:Int) (p1:Int):Ct Try.prog 104 [.int .u64 p0,.int .u64 p1] (Qei p0 p1) (fun x=>.agg [.int .u64 x.1,.int .u64 x.2]) (fun x=>[]):=by
 refine hfn [] Try.func104 <| hcl 3 [] (g_math_bits_Mul64_ok p0 p1) fun x1 _=>hrt 10
theorem Qrx (p0:(Int × Int)) (p1:(Int × Int)):Ct Try.prog 105 [.agg [.int .u64 p0.1,.int .u64 p0.2],.agg [.int .u64 p1.1,.int .u64 p1.2]] (Qfi p0 p1) (fun x=>vB x) (fun x=>[]):=by
 refine hfn [] Try.func105 <| hbr 9 [9,10] (hrt 15) <| ?_
 refine hbr 6 [15,16] (hrt 9) <| ?_
 refine hrt 9
theorem g_frac_Cmp_1_ok (p0:Tapi_Q) (p1:Tapi_Q):Ct Try.prog 103 [.agg [vI p0.N,vI p0.D],.agg [vI p1.N,vI p1.D]] (Qeh p0 p1) (fun x=>vI x) (fun x=>[]):=by
 refine hfn [] Try.func103 <| hcl 6 [] (g_frac_size_ok p0.N) fun x1 _=>hcl 3 [] (Qii x1 (zv (p1.D))) fun x3 _=>hcl 2 [] (g_frac_size_ok p1.N) fun x5 _=>hcl 3 [] (Qii x5 (zv (p0.D))) fun x7 _=>hbr 12 [28,21] (?_) ?_
 ·refine hbr 4 [24,31] (hrt 3) <| ?_
  refine hrt 3
 refine hbr 5 [35,32] (hrt 3) <| ?_
 refine hcl 4 [] (Qrx (x3.1,x3.2) (x7.1,x7.2)) fun x15 _=>hbr 5 [43,36] (hrt 3) <| ?_
 refine hrt 3
theorem Qh1 (c0:Int) (c1:Int) (c2:Int) (c3:Int):Ct Try.prog 114 [.fz [.fn (.func 103) [] []],.fz [vI c0,vI c1],.fz [vI c2,vI c3]] (Qam c0 c1 c2 c3) (fun x=>vI x) (fun x=>[]):=by
 refine hfn [] Try.func114 <| hcl 4 [] (g_frac_Cmp_1_ok (Tapi_Q.mk c0 c1) (Tapi_Q.mk c2 c3)) fun x1 _=>hrt 2
theorem g_frac_Cmp_ok (p0:Tapi_Q) (p1:Tapi_Q):Ct Try.prog 89 [.agg [vI p0.N,vI p0.D],.agg [vI p1.N,vI p1.D]] (Qk3 p0 p1) (fun x=>.tup [vI x.1,vI x.2]) (fun x=>[]):=by
 refine hfn [] Try.func89 <| hil 6 Try.func102 <| hop 2 (fun _=>sgL false [] [] false gE) <| hcl 3 [] (g_frac_Check_ok p0) fun x1 _=>hbr 2 [11,12] (hrt 15) <| ?_
 refine hcl 1 [] (g_frac_Check_ok p1) fun x5 _=>hbr 2 [15,16] (hrt 11) <| ?_
 refine hcl 2 [] (us:=[.fn (.func 114) [] [.fz [.fn (.func 103) [] []],.fz [vI p0.N,vI p0.D],.fz [vI p1.N,vI p1.D]]]) (rv:=fun x9=>.tup [vI x9,vI 0]) (ro:=fun x9=>[]) (fun x9 q10=>Qz6 Q1s Try.func114 rfl (by decide +kernel) (Qh1 p0.N p0.D p1.N p1.D x9 q10)) fun x9 _=>hrt 10
theorem g_sensitive_less_ok (p0:Tapi_Q) (p1:Tapi_Q):Ct Try.prog 60 [.agg [vI p0.N,vI p0.D],.agg [vI p1.N,vI p1.D]] (Yo p0 p1) (fun x=>vB x) (fun x=>[]):=by
 refine hfn [] Try.func60 <| hcl 5 [] (g_frac_Cmp_ok p0 p1) fun x1 _=>hrt 9
theorem Qjc (p0:Tapi_Q) (p1:Int) (p2:Int):Ct Try.prog 56 [.agg [vI p0.N,vI p0.D],vI p1,vI p2] (Qex p0 p1 p2) (fun x=>vB x) (fun x=>[]):=by
 refine hfn [] Try.func56 <| hcl 5 [] (g_sensitive_less_ok p0 (Tapi_Q.mk p1 1)) fun x1 _=>hbr 2 [11,12] (hcl 3 [] (g_sensitive_less_ok (Tapi_Q.mk p2 1) p0) fun x5 _=>hrt 4) <| ?_
 refine hrt 8
theorem Qh0 (p0:(Int × Int × Int × Int)) (p1:Tapi_Q) (p2:Int) (p3:Int):Ct Try.prog 57 [.agg [vI p0.1,vI p0.2.1,vI p0.2.2.1,vI p0.2.2.2],.agg [vI p1.N,vI p1.D],vI p2,vI p3] (Qej p0 p1 p2 p3) (fun x=>vB x) (fun x=>[]):=by
 refine hfn [] Try.func57 <| hbr 7 [11,12] (?_) ?_
 ·refine hbr 4 [15,16] (hrt 3) <| ?_
  refine hbr 5 [19,20] (?_) ?_
  ·refine hbr 5 [24,25] (hrt 18) <| ?_
   refine hbr 6 [29,30,31] (hrt 12) <| ?_
   refine hrt 3
  refine hrt 14
 refine hbr 9 [19,20] (?_) ?_
 ·refine hbr 5 [24,25] (hrt 18) <| ?_
  refine hbr 6 [29,30,31] (hrt 12) <| ?_
  refine hrt 3
 refine hrt 14
theorem Qg7 (p0:Qb) (p1:(List Int)) (p2:Int) (p3:Int) (p4:Tapi_Shift) (p5:Tapi_Q):Ct Try.prog 21 [.agg [vI p0.Grain,eL false eTapi_Node p0.Nodes],z1 p1,vI p2,vI p3,.agg [vI p4.Node,vI p4.Row,vI p4.From,vI p4.To],.agg [vI p5.N,vI p5.D]] (Qd3 p0 p1 p2 p3 p4 p5) (fun x=>.tup [.agg [vI x.1.N,vI x.1.D],vI x.2]) (fun x=>[]):=by
 refine hfn [] Try.func21 <| hop 0 (fun _=>sgL false [] [] false gE) <| hcl 9 [] (g_sensitive_Line_ok p0 p1 p2 p3 p4) fun x1 _=>hbr 8 [32] (hrt 6) <| ?_
 refine hcl 2 [] (Qbf p5) fun x5 _=>hbr 3 [38] (hrt 6) <| ?_
 refine hbr 5 [43,44] (hrt 11) <| ?_
 refine hbr 6 [49,50] (hrt 5) <| ?_
 refine hcl 3 [] (Qa7 p0 p4) fun x13 _=>hbr 31 [81] (?_) ?_
 ·refine hbr 4 [83,84] (hrt 14) <| ?_
  refine hbr 5 [87,88,89] (hrt 9) <| ?_
  refine hbr 4 [92,93] (hrt 5) <| ?_
  refine hrt 5
 refine hcl 3 [] (Qfb (zw ((zw (x1.1.2.2.1*p5.N)) - (zw (x1.1.1*p5.D)))) (zw ((zw (x1.1.2.1*p5.D)) - (zw (x1.1.2.2.2*p5.N))))) fun x23 _=>hbr 8 [103] (hrt 6) <| ?_
 refine hcl 4 [] (Qjc x23.1 x13.1 x13.2) fun x27 _=>hbr 2 [110,111] (hrt 12) <| ?_
 refine hcl 4 [] (Qh0 (x1.1.1,x1.1.2.1,x1.1.2.2.1,x1.1.2.2.2) x23.1 x13.1 x13.2) fun x31 _=>hbr 2 [117,118] (hrt 5) <| ?_
 refine hrt 5
theorem g_law24_threshold_ok (p0:(List Int)) (p1:Tapi_Shift) (p2:Tapi_Q) (p3:Tapi_Q) (p4:Int):Ct Try.prog 54 [z1 p0,.agg [vI p1.Node,vI p1.Row,vI p1.From,vI p1.To],.agg [vI p2.N,vI p2.D],.agg [vI p3.N,vI p3.D],vI p4] (Vd p0 p1 p2 p3 p4) (fun x=>vB x) (fun x=>[]):=by
 refine hfn [] Try.func54 <| hcl 5 [] (us:=[]) (rv:=fun x1=>.agg [vI x1.Grain,eL false eTapi_Node x1.Nodes]) (ro:=fun x1=>[]) (fun x1 q2=>Qx.froz (g_law24_rain_ok  x1 q2) (Qde (Q7 rfl (Q7 (Z3 (w:=3) (bx:=false) (ro:=false) (enc:=eTapi_Node) (l:=x1.Nodes) (fl:=false) rfl) Ji (by rfl)) (by rfl)))) fun x1 _=>hcl 3 [] (Qg7 x1 p0 0 1 p1 p2) fun x3 _=>hbr 10 [23,24] (hrt 6) <| ?_
 refine hrt 6
noncomputable abbrev Qqo:AObj:=oX true true 2 (.agg [vI 0,vI 0])
noncomputable abbrev Qqh (x5:(List (Int × Int × Int × Int))):AObj:=oR true 4 (fun x:(Int × Int × Int × Int)=>AV.agg [vI x.1,vI x.2.1,vI x.2.2.1,vI x.2.2.2]) x5
noncomputable abbrev Q1g:AObj:=.loop 91 [(8,.ptr 0 0 0),(9,.ptr 1 0 0),(71,.fn (.func 88) [] [.ptr 2 0 0,.ptr 3 0 0])] [72,73] (cA Try.f23 [true,true,true,true,true,true,true,true,false,true,true]) (cB Try.f23 [true,true,true,true,true,true,true,true,false,true,true]) .ready none
theorem g_sensitive_Stay_ok (p0:Qb) (p1:(List Int)) (p2:Int) (p3:Tapi_Shift):Ct Try.prog 23 [.agg [vI p0.Grain,eL false eTapi_Node p0.Nodes],z1 p1,vI p2,.agg [vI p3.Node,vI p3.Row,vI p3.From,vI p3.To]] (Xd p0 p1 p2 p3) (fun x=>.tup [.agg [vI x.1.N,vI x.1.D],.agg [vI x.2.1.N,vI x.2.1.D],vI x.2.2]) (fun x=>[]):=by
 refine hfn [] Try.func23 <| hop 0 (fun _=>sgL false [] [] false gE) <| hcl 8 [] (us:=[.agg [vI p0.Grain,eL false eTapi_Node p0.Nodes],z1 p1,vI p2,.agg [vI p3.Node,vI p3.Row,vI p3.From,vI p3.To],.nils]) (rv:=fun x1=>vI x1) (ro:=fun x1=>[]) (fun x1 q2=>Qx.args [[.keep,.keep],[.keep],[.keep],[.keep,.keep,.keep,.keep],[.lst true]] (g_sensitive_check_ok p0 p1 p2 p3 [] x1 q2)) fun x1 _=>hbr 3 [26] (hrt 8) <| ?_
 refine hcl 5 [] (Qd9 p0 p1 p2 p3) fun x5 _=>hbd fun a7 q8=>hop 2 (fun _=>Q2 (enc:=(fun x:(Int × Int × Int × Int)=>AV.agg [vI x.1,vI x.2.1,vI x.2.2.1,vI x.2.2.2])) (l:=x5) (n:=0) (w:=4) (ob:=4) (ro:=false) (nr:=true) (fl:=true) (a:=a7) kr kr gE q8) <| hop 1 (fun _=>Zo (enc:=(fun x:(Int × Int × Int × Int)=>AV.agg [vI x.1,vI x.2.1,vI x.2.2.1,vI x.2.2.2])) (l:=x5) (n:=0) (w:=4) (ob:=4) (c:=2) (bx:=false) (ro:=false) (nr:=true) (fl:=true) (a:=a7) kr kr q8 gE) <| hbr 1 [39] (hrt 7) <| ?_
 refine hlp 5 (fun s11=>⟨[(4,.ptr 0 0 0),(7,.ptr 1 0 0),(8,.ptr 2 0 0),(9,.ptr 3 0 0),(12,.ref 4 0 x5.length),(13,vI s11.1),(42,.ref 4 0 x5.length),(43,vI (zn x5)),(44,vI s11.2)],[oX true false 2 (.agg [vI p0.Grain,eL false eTapi_Node p0.Nodes]),oX true true 4 (.agg [vI p3.Node,vI p3.Row,vI p3.From,vI p3.To]),Qqo,Qqo,(Qqh x5)],91⟩) (fun v=>(.exit 0,⟨[(4,.ptr 0 0 0),(7,.ptr 1 0 0),(8,.ptr 2 0 0),(9,.ptr 3 0 0),(12,.ref 4 0 x5.length),(13,vI v)],[oX true false 2 (.agg [vI p0.Grain,eL false eTapi_Node p0.Nodes]),oX true true 4 (.agg [vI p3.Node,vI p3.Row,vI p3.From,vI p3.To]),Qqo,Qqo,(Qqh x5)],91⟩)) (wz [0,1,2,3,4]) (fun s11=>?_) fun x21=>?_
 ·refine hbr 1 [45] (?_) ?_
  ·refine hbd fun a14 q15=>hop 2 (fun _=>Q2 (enc:=(fun x:(Int × Int × Int × Int)=>AV.agg [vI x.1,vI x.2.1,vI x.2.2.1,vI x.2.2.2])) (l:=x5) (n:=s11.2) (w:=4) (ob:=4) (ro:=false) (nr:=true) (fl:=true) (a:=a14) kr kr gE q15) <| hop 0 (fun _=>Zo (enc:=(fun x:(Int × Int × Int × Int)=>AV.agg [vI x.1,vI x.2.1,vI x.2.2.1,vI x.2.2.2])) (l:=x5) (n:=s11.2) (w:=4) (ob:=4) (c:=0) (bx:=false) (ro:=false) (nr:=true) (fl:=true) (a:=a14) kr kr q15 gE) <| hbd fun a16 q17=>hop 8 (fun _=>Q2 (enc:=(fun x:(Int × Int × Int × Int)=>AV.agg [vI x.1,vI x.2.1,vI x.2.2.1,vI x.2.2.2])) (l:=x5) (n:=s11.1) (w:=4) (ob:=4) (ro:=false) (nr:=true) (fl:=true) (a:=a16) kr kr gE q17) <| hop 1 (fun _=>Zo (enc:=(fun x:(Int × Int × Int × Int)=>AV.agg [vI x.1,vI x.2.1,vI x.2.2.1,vI x.2.2.2])) (l:=x5) (n:=s11.1) (w:=4) (ob:=4) (c:=0) (bx:=false) (ro:=false) (nr:=true) (fl:=true) (a:=a16) kr kr q17 gE) <| hbr 1 [56] (hnx 5 (wz [0,1,2,3,4])) <| ?_
   refine hnx 3 (wz [0,1,2,3,4])
  refine hdx 1 (wz [0,1,2,3,4])
 refine hcl 2 [] (Qa7 p0 p3) fun x22 _=>hil 13 Try.func59 <| hop 0 (fun _=>sgL false [] [] false gE) <| hwk 4 (wl [4] [5,6]) <| hwk 1 (wl [8,9,71] [2,3,5,6,4]) <| hrg 0 Try.func88 <| hlp 3 (fun s24=>⟨[(0,.yld 5),(1,.ptr 2 0 0),(2,.ptr 3 0 0),(10,.ref 4 0 x5.length),(11,vI (zn x5)),(12,vI s24.1)],[oX true true 2 (.agg [vI s24.2.1,vI s24.2.2.1]),oX true true 2 (.agg [vI s24.2.2.2.1,vI s24.2.2.2.2]),oX false false 1 (.ref 4 0 x5.length),oX true true 1 (vI x21),(Qqh x5),Q1g],50⟩) (fun v=>(.exit 0,⟨[],[oX true true 2 (.agg [vI v.1,vI v.2.1]),oX true true 2 (.agg [vI v.2.2.1,vI v.2.2.2]),oX false false 1 (.ref 4 0 x5.length),oX true true 1 (vI x21),(Qqh x5),Q1g],50⟩)) (wz []) (fun s24=>?_) fun x48=>?_
 ·refine hbr 1 [13] (?_) ?_
  ·refine hbd fun a27 q28=>hop 1 (fun _=>Q2 (enc:=(fun x:(Int × Int × Int × Int)=>AV.agg [vI x.1,vI x.2.1,vI x.2.2.1,vI x.2.2.2])) (l:=x5) (n:=s24.1) (w:=4) (ob:=4) (ro:=false) (nr:=true) (fl:=true) (a:=a27) kr kr gE q28) <| hop 0 (fun _=>Zo (enc:=(fun x:(Int × Int × Int × Int)=>AV.agg [vI x.1,vI x.2.1,vI x.2.2.1,vI x.2.2.2])) (l:=x5) (n:=s24.1) (w:=4) (ob:=4) (c:=0) (bx:=false) (ro:=false) (nr:=true) (fl:=true) (a:=a27) kr kr q28 gE) <| hbd fun a29 q30=>hop 5 (fun _=>Q2 (enc:=(fun x:(Int × Int × Int × Int)=>AV.agg [vI x.1,vI x.2.1,vI x.2.2.1,vI x.2.2.2])) (l:=x5) (n:=x21) (w:=4) (ob:=4) (ro:=false) (nr:=true) (fl:=true) (a:=a29) kr kr gE q30) <| hop 1 (fun _=>Zo (enc:=(fun x:(Int × Int × Int × Int)=>AV.agg [vI x.1,vI x.2.1,vI x.2.2.1,vI x.2.2.2])) (l:=x5) (n:=x21) (w:=4) (ob:=4) (c:=0) (bx:=false) (ro:=false) (nr:=true) (fl:=true) (a:=a29) kr kr q30 gE) <| hop 7 (fun _=>Q2 (enc:=(fun x:(Int × Int × Int × Int)=>AV.agg [vI x.1,vI x.2.1,vI x.2.2.1,vI x.2.2.2])) (l:=x5) (n:=x21) (w:=4) (ob:=4) (ro:=false) (nr:=true) (fl:=true) (a:=a29) kr kr gE q30) <| hop 1 (fun _=>Zo (enc:=(fun x:(Int × Int × Int × Int)=>AV.agg [vI x.1,vI x.2.1,vI x.2.2.1,vI x.2.2.2])) (l:=x5) (n:=x21) (w:=4) (ob:=4) (c:=1) (bx:=false) (ro:=false) (nr:=true) (fl:=true) (a:=a29) kr kr q30 gE) <| hbr 6 [33] (hwk 1 (wl [0,1,2,10,11,12] []) <| hnx 3 (wz [])) <| ?_
   refine hcl 4 [] (Qfb (zw (0 - (zw (a29.1 - a27.1)))) (zw (a29.2.1 - a27.2.1))) fun x33 _=>hbr 8 [42] (hwk 1 (wl [0,1,2,10,11,12] []) <| hnx 3 (wz [])) <| ?_
   refine hyl 5 <| hbr 5 [72,18,74,75] (?_) ?_
   ·refine hcl 2 [] (g_sensitive_less_ok x33.1 (Tapi_Q.mk s24.2.2.2.1 s24.2.2.2.2)) fun x39 _=>hbr 1 [78,79] (hnx 15 (wz [])) <| ?_
    refine hnx 13 (wz [])
   refine hcl 10 [] (g_sensitive_less_ok (Tapi_Q.mk s24.2.1 s24.2.2.1) x33.1) fun x43 _=>hbr 1 [86,87] (hnx 7 (wz [])) <| ?_
   refine hnx 5 (wz [])
  refine hdx 1 (wz [])
 refine hrt 7
theorem g_law24_stay_ok (p0:(List Int)) (p1:Int) (p2:Int):Ct Try.prog 55 [z1 p0,vI p1,vI p2] (Qg8 p0 p1 p2) (fun x=>vB x) (fun x=>[]):=by
 refine hfn [] Try.func55 <| hcl 1 [] (g_law24_rain_ok ) fun x1 _=>hcl 2 [F eTapi_Node x1.Nodes] (g_sensitive_Stay_ok x1 p0 0 (Tapi_Shift.mk 0 0 0 1)) fun x3 _=>hbr 12 [19,20] (?_) ?_
 ·refine hbr 6 [24,25,26] (hrt 7) <| ?_
  refine hrt 7
 refine hrt 13
end
section
attribute [local irreducible] RW WP
theorem Qo5  : Ct Try.prog 20 [] (Qf7) (fun x=>vB x) (fun x=>[]):=by
 refine hfn [] Try.func20 <| hcl 1 [] (g_law24_rain_ok ) fun x1 _=>hop 0 (fun _=>sgL false [] [] true gE) <| hop 0 (fun _=>sgL false [] [] false gE) <| hcl 11 [F eTapi_Node x1.Nodes] (g_sensitive_Line_ok x1 [-1,1] 0 1 (Tapi_Shift.mk 0 0 0 1)) fun x3 _=>hcl 9 [F eTapi_Node x1.Nodes] (g_sensitive_Line_ok x1 [-1,1] 0 1 (Tapi_Shift.mk 1 1 1 0)) fun x5 _=>hcl 10 [F eTapi_Node x1.Nodes] (g_sensitive_At_ok x1 [-1,1] 0 1 (Tapi_Shift.mk 0 0 0 1) (Tapi_Q.mk 8 1)) fun x7 _=>hop 7 (fun _=>sgL false [] [] true gE) <| hcl 1 [F eTapi_Node x1.Nodes] (g_sensitive_Line_ok x1 [2,0] 0 1 (Tapi_Shift.mk 0 0 0 1)) fun x9 _=>?_
 refine hcl 9 [F eTapi_Node x1.Nodes] (g_sensitive_Line_ok x1 [-1,1] 2 0 (Tapi_Shift.mk 0 0 0 1)) fun x11 _=>hcl 9 [F eTapi_Node x1.Nodes] (g_sensitive_Line_ok x1 [-1,1] 0 1 (Tapi_Shift.mk 0 0 0 0)) fun x13 _=>hcl 10 [F eTapi_Node x1.Nodes] (g_sensitive_At_ok x1 [-1,1] 0 1 (Tapi_Shift.mk 0 0 0 1) (Tapi_Q.mk 2 4)) fun x15 _=>hcl 10 [F eTapi_Node x1.Nodes] (g_sensitive_At_ok x1 [-1,1] 0 1 (Tapi_Shift.mk 0 0 0 1) (Tapi_Q.mk 1 2000)) fun x17 _=>hbr 13 [89,90] (?_) ?_
 ·refine hbr 4 [92,93,94] (?_) ?_
  ·refine hbr 5 [97,98,99] (?_) ?_
   ·refine hbr 4 [101,102,103] (?_) ?_
    ·refine hbr 4 [105,106,107] (?_) ?_
     ·refine hbr 4 [109,110,111] (?_) ?_
      ·refine hbr 4 [113,114,115] (?_) ?_
       ·refine hbr 4 [117,118,119] (?_) ?_
        ·refine hbr 4 [121,122,123] (?_) ?_
         ·refine hbr 4 [125,126,127] (?_) ?_
          ·refine hcl 0 [] (Qf2 0 12 19) fun x39 _=>hbr 2 [128,129,130] (?_) ?_
           ·refine hcl 0 [] (Qf2 1 8 11) fun x43 _=>hbr 2 [131,132,133] (?_) ?_
            ·refine hcl 0 [] (Qf2 7 1 1) fun x47 _=>hbr 4 [134,135,22,136,137] (?_) ?_
             ·refine hcl 4 [] (g_law24_threshold_ok [-1,1] (Tapi_Shift.mk 0 0 0 1) (Tapi_Q.mk 1 2) (Tapi_Q.mk (-1) 1) 0) fun x51 _=>hbr 2 [142,143,144] (?_) ?_
              ·refine hcl 1 [] (g_law24_stay_ok [-1,1] (-1) 7) fun x55 _=>hbr 2 [146,147,148] (?_) ?_
               ·refine hop 0 (fun _=>sgL false [] [] true gE) <| hcl 0 [] (g_law24_stay_ok [-1,-1] (-3) 2) fun x59 _=>hbr 4 [22,150,151,152,153] (?_) ?_
                ·refine hcl 4 [] (g_law24_threshold_ok [-1,1] (Tapi_Shift.mk 0 0 0 1) (Tapi_Q.mk 0 1) (Tapi_Q.mk (-3) 1) 0) fun x63 _=>hbr 2 [158,159,160] (?_) ?_
                 ·refine hcl 4 [] (g_law24_threshold_ok [-1,1] (Tapi_Shift.mk 1 1 1 0) (Tapi_Q.mk 1 2) (Tapi_Q.mk 10 3) 0) fun x67 _=>hbr 2 [165,166,167] (?_) ?_
                  ·refine hop 0 (fun _=>sgL false [] [] true gE) <| hcl 3 [] (g_law24_threshold_ok [1,1] (Tapi_Shift.mk 0 0 0 1) (Tapi_Q.mk 1 1) (Tapi_Q.mk 0 0) 4) fun x71 _=>hbr 2 [172,173,174] (hcl 4 [] (g_law24_threshold_ok [-1,1] (Tapi_Shift.mk 1 1 1 0) (Tapi_Q.mk 3 4) (Tapi_Q.mk 0 0) 4) fun x75 _=>hrt 3) <| ?_
                   refine hrt 8
                  refine hrt 15
                 refine hrt 22
                refine hrt 29
               refine hrt 35
              refine hrt 39
             refine hrt 46
            refine hrt 51
           refine hrt 54
          refine hrt 57
         refine hrt 61
        refine hrt 65
       refine hrt 69
      refine hrt 73
     refine hrt 77
    refine hrt 81
   refine hrt 85
  refine hrt 90
 refine hrt 94
noncomputable abbrev Qkj:AObj:=oX true true 2 (.agg [vI 0,vI 0])
noncomputable abbrev Qz7 (p0:Qb) (p3:Tapi_Shift):List AObj:=[oX true false 2 (.agg [vI p0.Grain,eL false eTapi_Node p0.Nodes]),oX true true 4 (.agg [vI p3.Node,vI p3.Row,vI p3.From,vI p3.To]),Qkj,Qkj]
theorem Qq0 (p0:Qb) (p1:(List Int)) (p2:Int) (p3:Tapi_Shift):Ct Try.prog 24 [.agg [vI p0.Grain,eL false eTapi_Node p0.Nodes],z1 p1,vI p2,.agg [vI p3.Node,vI p3.Row,vI p3.From,vI p3.To]] (Qel p0 p1 p2 p3) (fun x=>.tup [.agg [vI x.1.N,vI x.1.D],.agg [vI x.2.N,vI x.2.D]]) (fun x=>[]):=by
 refine hfn [] Try.func24 <| hop 0 (fun _=>sgL false [] [] false gE) <| hlp 6 (fun s1=>⟨[(1,z1 p1),(2,vI p2),(4,.ptr 0 0 0),(7,.ptr 1 0 0),(8,.ptr 2 0 0),(9,.ptr 3 0 0),(10,.ref 4 0 s1.2.2.length),(11,vI s1.1),(12,vI s1.2.1)],(Qz7 p0 p3)++[oR true 4 (fun x:(Int × Int × Int × Int)=>AV.agg [vI x.1,vI x.2.1,vI x.2.2.1,vI x.2.2.2]) s1.2.2],114⟩) (fun v=>(.exit 0,⟨[(4,.ptr 0 0 0),(7,.ptr 1 0 0),(8,.ptr 2 0 0),(9,.ptr 3 0 0),(10,.ref 4 0 v.2.length),(11,vI v.1)],(Qz7 p0 p3)++[oR true 4 (fun x:(Int × Int × Int × Int)=>AV.agg [vI x.1,vI x.2.1,vI x.2.2.1,vI x.2.2.2]) v.2],114⟩)) (wk_trans (Zd (live:=[1,2,4,7,8,9,10,11,12]) (keep:=[0,1,2,3]) gE) (wk_trans (Qbl 10 4 true true gE) (Zd (live:=[1,2,4,7,8,9,10,11,12]) (keep:=[0,1,2,3,4]) kr))) (fun s1=>?_) fun x13=>?_
 ·refine hbd fun a2 q3=>hop 4 (fun _=>Qe (enc:=eTapi_Node) (l:=p0.Nodes) (n:=p2) (fl:=false) (w:=3) (a:=a2) kr kr gE q3) <| hbr 3 [30] (?_) ?_
  ·refine hcl 6 [] (Qh7 p0 p1 p2 s1.2.1 p3) fun x6 _=>hop 4 (fun _=>sgL false [] [] true gE) <| hoh 0 (fun _ _ h k=>Yi (enc:=(fun x:(Int × Int × Int × Int)=>AV.agg [vI x.1,vI x.2.1,vI x.2.2.1,vI x.2.2.2])) (l:=s1.2.2) (m:=([(x6.1,x6.2.1,x6.2.2.1,x6.2.2.2)]:(List (Int × Int × Int × Int)))) (w:=4) (bytes:=32) (ob:=4) (nr:=true) (fl:=true) (nr':=true) (fl':=true) (b:=.ref 6 0 1) (rds:=[6]) false kr kr kr kr gE kr h k) <| hbd fun a8 q9=>hop 6 (fun _=>Q2 (enc:=(fun x:(Int × Int × Int × Int)=>AV.agg [vI x.1,vI x.2.1,vI x.2.2.1,vI x.2.2.2])) (l:=(s1.2.2++([(x6.1,x6.2.1,x6.2.2.1,x6.2.2.2)]:(List (Int × Int × Int × Int))))) (n:=s1.1) (w:=4) (ob:=7) (ro:=false) (nr:=true) (fl:=true) (a:=a8) kr kr gE q9) <| hop 1 (fun _=>Zo (enc:=(fun x:(Int × Int × Int × Int)=>AV.agg [vI x.1,vI x.2.1,vI x.2.2.1,vI x.2.2.2])) (l:=(s1.2.2++([(x6.1,x6.2.1,x6.2.2.1,x6.2.2.2)]:(List (Int × Int × Int × Int))))) (n:=s1.1) (w:=4) (ob:=7) (c:=0) (bx:=false) (ro:=false) (nr:=true) (fl:=true) (a:=a8) kr kr q9 gE) <| hbr 1 [50] (hnx 6 (wz [0,1,2,3,7])) <| ?_
   refine hnx 4 (wz [0,1,2,3,7])
  refine hdx 1 (wz [0,1,2,3,4])
 refine hcl 2 [] (Qpl p0 p3) fun x14 _=>hlp 14 (fun s16=>⟨[(8,.ptr 0 0 0),(9,.ptr 1 0 0),(10,.ref 2 0 x13.2.length),(11,vI x13.1),(16,.ptr 3 0 0),(17,.ptr 4 0 0),(18,vI s16.1)],[Qkj,Qkj,oR true 4 (fun x:(Int × Int × Int × Int)=>AV.agg [vI x.1,vI x.2.1,vI x.2.2.1,vI x.2.2.2]) x13.2,oX true true 2 (.agg [vI s16.2.1,vI s16.2.2.1]),oX true true 2 (.agg [vI s16.2.2.2.1,vI s16.2.2.2.2])],114⟩) (fun v=>(.exit 2,⟨[(8,.ptr 0 0 0),(9,.ptr 1 0 0),(16,.ptr 2 0 0),(17,.ptr 3 0 0)],[Qkj,Qkj,oX true true 2 (.agg [vI v.1,vI v.2.1]),oX true true 2 (.agg [vI v.2.2.1,vI v.2.2.2])],114⟩)) (wz [2,3,4,5,6]) (fun s16=>?_) fun x56=>?_
 ·refine hbr 4 [65] (?_) ?_
  ·refine hbd fun a19 q20=>hop 4 (fun _=>Q2 (enc:=(fun x:(Int × Int × Int × Int)=>AV.agg [vI x.1,vI x.2.1,vI x.2.2.1,vI x.2.2.2])) (l:=x13.2) (n:=x13.1) (w:=4) (ob:=2) (ro:=false) (nr:=true) (fl:=true) (a:=a19) kr kr gE q20) <| hop 1 (fun _=>Zo (enc:=(fun x:(Int × Int × Int × Int)=>AV.agg [vI x.1,vI x.2.1,vI x.2.2.1,vI x.2.2.2])) (l:=x13.2) (n:=x13.1) (w:=4) (ob:=2) (c:=0) (bx:=false) (ro:=false) (nr:=true) (fl:=true) (a:=a19) kr kr q20 gE) <| hbd fun a21 q22=>hop 2 (fun _=>Q2 (enc:=(fun x:(Int × Int × Int × Int)=>AV.agg [vI x.1,vI x.2.1,vI x.2.2.1,vI x.2.2.2])) (l:=x13.2) (n:=s16.1) (w:=4) (ob:=2) (ro:=false) (nr:=true) (fl:=true) (a:=a21) kr kr gE q22) <| hop 1 (fun _=>Zo (enc:=(fun x:(Int × Int × Int × Int)=>AV.agg [vI x.1,vI x.2.1,vI x.2.2.1,vI x.2.2.2])) (l:=x13.2) (n:=s16.1) (w:=4) (ob:=2) (c:=0) (bx:=false) (ro:=false) (nr:=true) (fl:=true) (a:=a21) kr kr q22 gE) <| hop 3 (fun _=>Q2 (enc:=(fun x:(Int × Int × Int × Int)=>AV.agg [vI x.1,vI x.2.1,vI x.2.2.1,vI x.2.2.2])) (l:=x13.2) (n:=x13.1) (w:=4) (ob:=2) (ro:=false) (nr:=true) (fl:=true) (a:=a19) kr kr gE q20) <| hop 1 (fun _=>Zo (enc:=(fun x:(Int × Int × Int × Int)=>AV.agg [vI x.1,vI x.2.1,vI x.2.2.1,vI x.2.2.2])) (l:=x13.2) (n:=x13.1) (w:=4) (ob:=2) (c:=1) (bx:=false) (ro:=false) (nr:=true) (fl:=true) (a:=a19) kr kr q20 gE) <| hop 2 (fun _=>Q2 (enc:=(fun x:(Int × Int × Int × Int)=>AV.agg [vI x.1,vI x.2.1,vI x.2.2.1,vI x.2.2.2])) (l:=x13.2) (n:=s16.1) (w:=4) (ob:=2) (ro:=false) (nr:=true) (fl:=true) (a:=a21) kr kr gE q22) <| ?_
   refine hop 1 (fun _=>Zo (enc:=(fun x:(Int × Int × Int × Int)=>AV.agg [vI x.1,vI x.2.1,vI x.2.2.1,vI x.2.2.2])) (l:=x13.2) (n:=s16.1) (w:=4) (ob:=2) (c:=1) (bx:=false) (ro:=false) (nr:=true) (fl:=true) (a:=a21) kr kr q22 gE) <| hbr 5 [91] (?_) ?_
   ·refine hcl 4 [] (Qc7 (zw (0 - (zw (a19.1 - a21.1)))) (zw (a19.2.1 - a21.2.1))) fun x25 _=>hcl 4 [] (Qcp x25 (Tapi_Q.mk s16.2.1 s16.2.2.1)) fun x27 _=>hbr 1 [99] (?_) ?_
    ·refine hbr 5 [102] (?_) ?_
     ·refine hcl 4 [] (Qc7 (zw (0 - (zw (a19.1 - a21.1)))) (zw (a19.2.1 - a21.2.1))) fun x33 _=>hcl 4 [] (Qcp x33 (Tapi_Q.mk s16.2.2.2.1 s16.2.2.2.2)) fun x35 _=>hbr 1 [110] (hnx 6 (wz [0,1,2,3,4])) <| ?_
      refine hnx 4 (wz [0,1,2,3,4])
     refine hnx 4 (wz [0,1,2,3,4])
    refine hbr 3 [102] (?_) ?_
    ·refine hcl 4 [] (Qc7 (zw (0 - (zw (a19.1 - a21.1)))) (zw (a19.2.1 - a21.2.1))) fun x41 _=>hcl 4 [] (Qcp x41 (Tapi_Q.mk s16.2.2.2.1 s16.2.2.2.2)) fun x43 _=>hbr 1 [110] (hnx 6 (wz [0,1,2,3,4])) <| ?_
     refine hnx 4 (wz [0,1,2,3,4])
    refine hnx 4 (wz [0,1,2,3,4])
   refine hbr 3 [102] (?_) ?_
   ·refine hcl 4 [] (Qc7 (zw (0 - (zw (a19.1 - a21.1)))) (zw (a19.2.1 - a21.2.1))) fun x49 _=>hcl 4 [] (Qcp x49 (Tapi_Q.mk s16.2.2.2.1 s16.2.2.2.2)) fun x51 _=>hbr 1 [110] (hnx 6 (wz [0,1,2,3,4])) <| ?_
    refine hnx 4 (wz [0,1,2,3,4])
   refine hnx 4 (wz [0,1,2,3,4])
  refine hdx 1 (wz [0,1,3,4])
 refine hrt 6
theorem g_law24_SensitiveStays_ok (p0:Tharuspexlaw24_Story):Ct Try.prog 5 [.agg [.int .u8 p0.N.Grain,eL false eTharuspexref05_Piece p0.N.Nodes,eL true (AV.int .u8) p0.N.Order,.int .u8 p0.C.What,.int .u8 p0.C.At,.int .u8 p0.C.Row,vI p0.C.N,.int .u8 p0.K.Which,.int .u8 p0.K.V.1,.int .u8 p0.K.V.2.1,.int .u8 p0.K.V.2.2.1,.int .u8 p0.K.V.2.2.2.1,.int .u8 p0.K.V.2.2.2.2.1,.int .u8 p0.K.V.2.2.2.2.2.1,.int .u8 p0.K.V.2.2.2.2.2.2.1,.int .u8 p0.K.V.2.2.2.2.2.2.2,.int .u8 p0.D.V,.int .u8 p0.D.Value,.int .u8 p0.D.Node,.int .u8 p0.D.Row,.int .u8 p0.D.From,.int .u8 p0.D.To,z1 p0.Raw,vI p0.V,vI p0.Value,vI p0.S.Node,vI p0.S.Row,vI p0.S.From,vI p0.S.To]] (Kx p0) (fun x=>vB x) (fun x=>[]):=by
 refine hfn [] Try.func5 <| hop 0 (fun _=>sgL false [] [] false gE) <| hcl 2 [] (g_law24_Story_asks_ok (Tharuspexlaw24_Story.mk p0.N p0.C (Tharuspexref05_Known.mk p0.K.Which (p0.K.V.1,p0.K.V.2.1,p0.K.V.2.2.1,p0.K.V.2.2.2.1,p0.K.V.2.2.2.2.1,p0.K.V.2.2.2.2.2.1,p0.K.V.2.2.2.2.2.2.1,p0.K.V.2.2.2.2.2.2.2)) p0.D p0.Raw p0.V p0.Value p0.S)) fun x1 _=>hlp 1 (fun s3=>⟨[(13,.agg [vI x1.1.n.Grain,eL false eTapi_Node x1.1.n.Nodes,z1 x1.1.e,vI x1.1.v,vI x1.1.value,vI x1.1.s.Node,vI x1.1.s.Row,vI x1.1.s.From,vI x1.1.s.To,vI x1.2.1.n.Grain,eL false eTapi_Node x1.2.1.n.Nodes,z1 x1.2.1.e,vI x1.2.1.v,vI x1.2.1.value,vI x1.2.1.s.Node,vI x1.2.1.s.Row,vI x1.2.1.s.From,vI x1.2.1.s.To,vI x1.2.2.1.n.Grain,eL false eTapi_Node x1.2.2.1.n.Nodes,z1 x1.2.2.1.e,vI x1.2.2.1.v,vI x1.2.2.1.value,vI x1.2.2.1.s.Node,vI x1.2.2.1.s.Row,vI x1.2.2.1.s.From,vI x1.2.2.1.s.To,vI x1.2.2.2.1.n.Grain,eL false eTapi_Node x1.2.2.2.1.n.Nodes,z1 x1.2.2.2.1.e,vI x1.2.2.2.1.v,vI x1.2.2.2.1.value,vI x1.2.2.2.1.s.Node,vI x1.2.2.2.1.s.Row,vI x1.2.2.2.1.s.From,vI x1.2.2.2.1.s.To,vI x1.2.2.2.2.n.Grain,eL false eTapi_Node x1.2.2.2.2.n.Nodes,z1 x1.2.2.2.2.e,vI x1.2.2.2.2.v,vI x1.2.2.2.2.value,vI x1.2.2.2.2.s.Node,vI x1.2.2.2.2.s.Row,vI x1.2.2.2.2.s.From,vI x1.2.2.2.2.s.To]),(14,vI s3)],[],80⟩) (fun x=>match x with | .inl v=>(.ret,⟨[(2,vB false)],[],80⟩) | .inr v=>(.exit 0,⟨[],[],80⟩)) (wz []) (fun s3=>?_) (hsm (fun x39=>?_) (fun x40=>?_))
 ·refine hbr 1 [15] (?_) ?_
  ·refine hbd fun a6 q7=>hop 1 (fun _=>Q7y (enc:=Ql1) (l:=([x1.1,x1.2.1,x1.2.2.1,x1.2.2.2.1,x1.2.2.2.2]:(List Qi))) (n:=s3) (a:=a6) (w:=9) (g:=true) (v:=.agg [vI a6.n.Grain,eL false eTapi_Node a6.n.Nodes,z1 a6.e,vI a6.v,vI a6.value,vI a6.s.Node,vI a6.s.Row,vI a6.s.From,vI a6.s.To]) kr (fun _=>rfl) kr q7 kr gE) <| hop 0 (fun _=>sgL false [] [] false gE) <| hcl 9 [] (g_sensitive_Stay_ok a6.n a6.e a6.v a6.s) fun x8 _=>hcl 17 [] (Qoi a6.n a6.e a6.v 0 a6.s) fun x10 _=>hbr 5 [40] (?_) ?_
   ·refine hcl 9 [] (Qh7 a6.n a6.e a6.v 0 a6.s) fun x14 _=>hbr 5 [52] (?_) ?_
    ·refine hbr 6 [67,68] (hdx 11 (wz [])) <| ?_
     refine hbr 5 [71,72,73] (hdx 6 (wz [])) <| ?_
     refine hbr 4 [76,77] (hdx 2 (wz [])) <| ?_
     refine hnx 3 (wz [])
    refine hcl 9 [] (Qq0 a6.n a6.e a6.v a6.s) fun x24 _=>hbr 9 [67,68] (hdx 11 (wz [])) <| ?_
    refine hbr 5 [71,72,73] (hdx 6 (wz [])) <| ?_
    refine hbr 4 [76,77] (hdx 2 (wz [])) <| ?_
    refine hnx 3 (wz [])
   refine hbr 5 [67,68] (hdx 11 (wz [])) <| ?_
   refine hbr 5 [71,72,73] (hdx 6 (wz [])) <| ?_
   refine hbr 4 [76,77] (hdx 2 (wz [])) <| ?_
   refine hnx 3 (wz [])
  refine hdx 1 (wz [])
 ·refine hrt 0
 refine hcl 0 [] (Qo5 ) fun x41 _=>hrt 2
end
end Go.Ab
namespace Go.Ab
open Go
theorem Qiy {σ ρ:Type} {body:σ→Option (Qm σ ρ)} (I:σ→Prop) (m:σ→Nat) (Q:ρ→Prop)
  (step:∀s,I s→(∃s',body s=some (.next s')∧I s'∧m s' < m s)∨(∃r,body s=some (.done r)∧Q r)) :
  ∀(n:Nat) (s:σ),I s→m s < n→∃r,Qd n body s=some r∧Q r
 | 0,s,_,h=>by omega
 | n+1,s,hI,h=>by
  unfold Qd
  rcases step s hI with ⟨s',h1,h2,h3⟩ | ⟨r,h1,h2⟩
  ·rw [h1]
   exact Qiy I m Q step n s' h2 (by omega)
  ·rw [h1]
   exact ⟨r,rfl,h2⟩
theorem Qbh {σ ρ:Type} {body:σ→Option (Qm σ ρ)} (I:σ→Prop) (m:σ→Nat) (r:ρ)
  (step:∀s,I s→(∃s',body s=some (.next s')∧I s'∧m s' < m s)∨body s=some (.done r)) (s:σ) (hI:I s) (hm:m s < 1152921504606846976):Qd fuel body s=some r:=by
 obtain ⟨r',h1,h2⟩:=Qiy I m (fun x=>x=r) (fun s hs=>(step s hs).imp id fun h=>⟨r,h,rfl⟩) fuel s hI hm
 rw [h1,h2]
theorem Zy {σ ρ:Type} {body:σ→Option (Qm σ ρ)} (I:σ→Prop) (m:σ→Nat) (Q:ρ→Prop)
  (step:∀s,I s→(∃s',body s=some (.next s')∧I s'∧m s' < m s)∨(∃r,body s=some (.done r)∧Q r)) (s:σ) (hI:I s) (hm:m s < 1152921504606846976):∃r,Qd fuel body s=some r∧Q r :=
 Qiy I m Q step fuel s hI hm
theorem Qus {σ ρ:Type} {body:σ→Option (Qm σ ρ)} (f:Nat → σ) (n:Nat) (r:ρ) (step:∀k,k < n→body (f k)=some (.next (f (k+1)))) (done:body (f n)=some (.done r)) (hn:n < 1152921504606846976) :
  Qd fuel body (f 0)=some r:=by
 have key:∀(j N k:Nat),k+j=n→j < N→Qd N body (f k)=some r:=by
  intro j
  induction j with
  | zero =>
   intro N k hk hN
   obtain ⟨N,rfl⟩:∃M,N=M+1:=⟨N - 1,by omega⟩
   have:k=n:=by omega
   subst this
   simp [Qd,done]
  | succ j ih =>
   intro N k hk hN
   obtain ⟨N,rfl⟩:∃M,N=M+1:=⟨N - 1,by omega⟩
   simp only [Qd,step k (by omega)]
   exact ih N (k+1) (by omega) (by omega)
 exact key n fuel 0 (by omega) hn
theorem Qz {σ ρ:Type} {body:σ→Option (Qm σ ρ)} {s0:σ} (f:Nat → σ) (n:Nat) (r:ρ) (h0:f 0=s0) (step:∀k,k < n→body (f k)=some (.next (f (k+1)))) (done:body (f n)=some (.done r)) (hn:n < 1152921504606846976) :
  Qd fuel body s0=some r:=by rw [←h0]; exact Qus f n r step done hn
theorem w64 {n:Int} (h:-9223372036854775808≤n∧n≤9223372036854775807):zw n=n:=by show IntKind.wrap .i64 n=n; rw [IntKind.wrap_i64]; omega
theorem Qs {α:Type} {l:List α} {k:Nat} (h:k < l.length):lkI l (k:Int)=some l[k]:=by
 unfold lkI
 rw [if_neg (by omega),Int.toNat_natCast,List.getElem?_eq_getElem h]
theorem Jr {a b:Int} (h:0≤a):Int.tdiv a b=a / b:=Int.tdiv_eq_ediv_of_nonneg h
theorem Ya {a b:Int} (h:0≤a):Int.tmod a b=a % b:=Int.tmod_eq_emod_of_nonneg h
def dgs (n:Nat):List Int:=if h:n=0 then [] else ((n % 10000:Nat):Int)::dgs (n / 10000)
termination_by n
decreasing_by omega
def Qg:List Int→Nat
 | []=>0
 | x::l=>x.toNat + 10000*Qg l
def Xa (l:List Int):Prop:=∀x∈l,0≤x∧x < 10000
theorem X9:dgs 0=[]:=by rw [dgs]; simp
theorem Qdy {n:Nat} (h:n≠0):dgs n=((n % 10000:Nat):Int)::dgs (n / 10000):=by rw [dgs]; simp [h]
theorem Zp (n:Nat):Qg (dgs n)=n:=by
 induction n using Nat.strongRecOn with
 | _ n ih =>
  by_cases h:n=0
  ·subst h; rw [X9]; rfl
  ·rw [Qdy h]
   simp only [Qg]
   rw [ih (n / 10000) (by omega)]
   omega
theorem Z0 (n:Nat):Xa (dgs n):=by
 induction n using Nat.strongRecOn with
 | _ n ih =>
  by_cases h:n=0
  ·subst h; rw [X9]; intro x hx; cases hx
  ·rw [Qdy h]
   intro x hx
   rcases List.mem_cons.1 hx with rfl | hx
   ·omega
   ·exact ih (n / 10000) (by omega) x hx
theorem Qgd {n:Nat}:dgs n=[]↔n=0:=by
 constructor
 ·intro h
  have:=Zp n
  rw [h] at this; exact this.symm
 ·intro h; subst h; exact X9
theorem Qfy {x:Int} {l:List Int}:Xa (x::l)↔(0≤x∧x < 10000)∧Xa l:=by simp [Xa]
theorem Qkl:Xa []:=fun x h=>by cases h
theorem Qop {a b:List Int}:Xa (a++b)↔Xa a∧Xa b:=by
 constructor
 ·exact fun h=>⟨fun x hx=>h x (List.mem_append_left _ hx),fun x hx=>h x (List.mem_append_right _ hx)⟩
 ·rintro ⟨h1,h2⟩ x hx
  rcases List.mem_append.1 hx with h | h
  ·exact h1 x h
  ·exact h2 x h
theorem Qix (a b:List Int):Qg (a++b)=Qg a+10000^a.length*Qg b:=by
 induction a with
 | nil=>simp [Qg]
 | cons x a ih =>
  simp only [List.cons_append,Qg,ih,List.length_cons,Nat.pow_succ]
  rw [Nat.mul_add,Nat.add_assoc,←Nat.mul_assoc,Nat.mul_comm 10000 (10000^a.length)]
theorem K7 {l:List Int} (h:Xa l):Qg l < 10000^l.length:=by
 induction l with
 | nil=>simp [Qg]
 | cons x l ih =>
  rw [Qfy] at h
  have:=ih h.2
  simp only [Qg,List.length_cons,Nat.pow_succ]
  omega
def Qeg (l:List Int):Prop:=l.getLast?≠some 0
theorem Qut {l:List Int} (h:Xa l) (hn:Qeg l):dgs (Qg l)=l:=by
 induction l with
 | nil=>exact X9
 | cons x l ih =>
  rw [Qfy] at h
  have hn':Qeg l:=by
   unfold Qeg at *
   cases l with
   | nil=>simp
   | cons y l=>simpa [List.getLast?_cons_cons] using hn
  have hne:Qg (x::l)≠0:=by
   simp only [Qg]
   intro h0
   have hx:x=0:=by omega
   have hl:Qg l=0:=by omega
   have:=ih h.2 hn'
   rw [hl,X9] at this
   subst this
   subst hx
   simp [Qeg] at hn
  rw [Qdy hne]
  simp only [Qg] at *
  rw [show (x.toNat + 10000*Qg l) / 10000=Qg l by omega,ih h.2 hn']
  congr 1
  omega
theorem Qvw (n:Nat):Qeg (dgs n):=by
 induction n using Nat.strongRecOn with
 | _ n ih =>
  by_cases h:n=0
  ·subst h; rw [X9]; simp [Qeg]
  ·rw [Qdy h]
   have:=ih (n / 10000) (by omega)
   unfold Qeg at *
   cases hd:dgs (n / 10000) with
   | nil =>
    rw [Qgd] at hd
    intro h1
    simp only [List.getLast?_singleton,Option.some.injEq] at h1
    omega
   | cons y l =>
    rw [hd] at this
    simpa [List.getLast?_cons_cons] using this
theorem Xj {n K:Nat} (h:n < 10000^K):(dgs n).length≤K:=by
 induction K generalizing n with
 | zero=>simp at h; subst h; rw [X9]; simp
 | succ K ih =>
  by_cases h0:n=0
  ·subst h0; rw [X9]; simp
  ·rw [Qdy h0]
   simp only [List.length_cons]
   have:=ih (n:=n / 10000) (by rw [Nat.pow_succ] at h; omega)
   omega
theorem Qhr (n:Nat):n < 10000^(dgs n).length:=by
 have:=K7 (Z0 n)
 rwa [Zp] at this
theorem Qz4 {n:Nat} (h:n≠0):10000^((dgs n).length - 1)≤n:=by
 induction n using Nat.strongRecOn with
 | _ n ih =>
  rw [Qdy h]
  simp only [List.length_cons,Nat.add_sub_cancel]
  by_cases h0:n / 10000=0
  ·rw [h0,X9]; simp; omega
  ·have h1:=ih (n / 10000) (by omega) h0
   have:(dgs (n / 10000)).length≠0:=by rw [Ne,List.length_eq_zero_iff,Qgd]; exact h0
   obtain ⟨k,hk⟩:∃k,(dgs (n / 10000)).length=k+1:=⟨(dgs (n / 10000)).length - 1,by omega⟩
   rw [hk] at h1 ⊢
   simp only [Nat.add_sub_cancel] at h1
   rw [Nat.pow_succ]
   omega
theorem Qai {l:List Int} (h:Xa l) {k:Nat} (hk:k < l.length):0≤l[k]∧l[k] < 10000:=h _ (List.getElem_mem hk)
theorem Qcl {l:List Int} {k:Nat} (hk:k < l.length):Qg (l.take (k+1))=Qg (l.take k)+10000^k*l[k].toNat := by
 rw [List.take_succ_eq_append_getElem hk,Qix]
 simp [Qg,Nat.min_eq_left (Nat.le_of_lt hk)]
theorem Qbx {l:List Int} {k:Nat} (hk:k < l.length):Qg (l.drop k)=l[k].toNat + 10000*Qg (l.drop (k+1)):=by
 rw [List.drop_eq_getElem_cons hk]; rfl
theorem Qib {l:List Int} (h:Xa l) (k:Nat):Xa (l.take k):=fun x hx=>h x (List.mem_of_mem_take hx)
theorem Qbw {l:List Int} (h:Xa l) (k:Nat):Xa (l.drop k):=fun x hx=>h x (List.mem_of_mem_drop hx)
end Go.Ab
namespace Go.Ab
open Go
set_option maxRecDepth 100000
set_option maxHeartbeats 400000
def msk:Nat → (Nat → Bool)→Nat
 | 0,_=>0
 | n+1,p=>msk n p ||| (if p n then 2^n else 0)
theorem Q47 (n:Nat) (p:Nat → Bool) (i:Nat):(msk n p).testBit i=(decide (i < n) && p i):=by
 induction n with
 | zero=>simp [msk]
 | succ n ih =>
  unfold msk
  rw [Nat.testBit_or,ih]
  by_cases h:i=n
  ·subst h
   cases hp:p i <;> simp [hp]
  ·have e:decide (i < n+1)=decide (i < n):=by by_cases h2:i < n <;> simp [h2] <;> omega
   rw [e]
   cases hp:p n
   ·simp
   ·simp only [if_true,Nat.testBit_two_pow]
    have e2:¬ n=i:=fun e=>h e.symm
    simp [e2]
theorem Yu {n:Nat} (h:n < 18446744073709551616):zv (n:Int)=(n:Int):=by
 simp [IntKind.wrap,IntKind.bits,IntKind.signed]; omega
theorem Qd6 {a:Nat} (h:a < 18446744073709551616):(zb (a:Int)).toNat = a:=by
 show (BitVec.ofInt IntKind.u64.bits (a:Int)).toNat = a
 rw [BitVec.ofInt_natCast,BitVec.toNat_ofNat]
 exact Nat.mod_eq_of_lt h
theorem Q3w {a k:Nat}:Int.fdiv (a:Int) ((2:Int)^k)=((a / 2^k:Nat):Int):=by
 rw [Int.fdiv_eq_ediv_of_nonneg _ (by exact_mod_cast Nat.zero_le (2^k))]
 simp
theorem Qyt {a k:Nat} (ha:a < 18446744073709551616) (hk:k < 64) :
  zv (zb (Int.fdiv (a:Int) (2^min (Int.toNat (k:Int)) (IntKind.bits .u64))) &&& zb 1).toNat = ((a.testBit k).toNat : Int):=by
 have hb:IntKind.bits .u64=64:=rfl
 have e0:min (Int.toNat (k:Int)) (IntKind.bits .u64)=k:=by rw [hb,Int.toNat_natCast]; omega
 rw [e0,Q3w]
 have h1:a / 2^k < 18446744073709551616:=Nat.lt_of_le_of_lt (Nat.div_le_self _ _) ha
 have e1:(zb ((a / 2^k:Nat):Int) &&& zb 1).toNat = (a / 2^k) % 2:=by
  rw [BitVec.toNat_and,Qd6 h1,show (zb 1).toNat = 1 from rfl,Nat.and_one_is_mod]
 rw [e1,Yu (by omega)]
 have e2:a.testBit k=((a / 2^k) % 2==1):=by rw [Nat.testBit_eq_decide_div_mod_eq]; rfl
 rw [e2]
 rcases Nat.mod_two_eq_zero_or_one (a / 2^k) with h | h <;> rw [h] <;> rfl
def cnt:Nat → (Nat → Bool)→Nat
 | 0,_=>0
 | n+1,p=>cnt n p+(p n).toNat
theorem Qz3 {n:Nat} {p q:Nat → Bool} (h:∀i,i < n→p i=q i):cnt n p=cnt n q:=by
 induction n with
 | zero=>rfl
 | succ n ih=>simp only [cnt]; rw [ih fun i hi=>h i (by omega),h n (by omega)]
theorem Q6z (n:Nat) (p:Nat → Bool):cnt n p≤n:=by
 induction n with
 | zero=>exact Nat.le_refl _
 | succ n ih =>
  simp only [cnt]; have:(p n).toNat ≤ 1:=by cases p n <;> decide
  omega
theorem Q3b {n:Nat} {p q:Nat → Bool} (h:∀i,i < n→p i=true→q i=true):cnt n p≤cnt n q:=by
 induction n with
 | zero=>exact Nat.le_refl _
 | succ n ih =>
  simp only [cnt]
  have h1:=ih fun i hi=>h i (by omega)
  have h2:=h n (by omega)
  cases hp:p n with
  | false =>
   have:false.toNat = 0:=rfl
   omega
  | true=>rw [h2 hp]; omega
theorem Q5d {n:Nat} {p:Nat → Bool} {i:Nat} (hi:i < n) (h:p i=true):0 < cnt n p:=by
 induction n with
 | zero=>omega
 | succ n ih =>
  simp only [cnt]
  by_cases e:i=n
  ·subst e; rw [h]; show 0 < _+1; omega
  ·have:=ih (by omega); omega
theorem Q4z {n v:Nat} {p:Nat → Bool} (hv:v < n) (h:p v=true):cnt n (fun i=>p i && !decide (v=i))+1=cnt n p:=by
 induction n with
 | zero=>omega
 | succ n ih =>
  simp only [cnt]
  by_cases e:v=n
  ·subst e
   rw [Qz3 (n:=v) (q:=p) fun i hi=>by simp; intro _; omega,h]
   simp
  ·have:=ih (by omega)
   have e2:(p n && !decide (v=n))=p n:=by simp; intro _; exact e
   rw [e2]; omega
theorem Qns (k:Nat):(0:Int)≤(k:Int):=Int.natCast_nonneg k
theorem Qt2 {k:Nat} (h:k < 9223372036854775807):zw ((k:Int)+1)=((k+1:Nat):Int):=by rw [w64 (by omega)]; omega
theorem Qpc {τ ρ σ:Type} {n k0:Nat} (hk:k0≤n) (hn:n < 1152921504606846976) (mkS:Int→τ→σ) {body:σ→Option (Qm σ ρ)} (I:Nat → τ→Prop) (Q:ρ→Prop)
  (step:∀(k:Nat) (t:τ),k0≤k→k < n→I k t→(∃t',body (mkS (k:Int) t)=some (.next (mkS (zw ((k:Int)+1)) t'))∧I (k+1) t')∨(∃r,body (mkS (k:Int) t)=some (.done r)∧Q r))
  (done:∀t,I n t→∃r,body (mkS (n:Int) t)=some (.done r)∧Q r) (t0:τ) (h0:I k0 t0):∃r,Qd fuel body (mkS (k0:Int) t0)=some r∧Q r:=by
 have key:∀(j N k:Nat) (t:τ),k+j=n→k0≤k→j < N→I k t→∃r,Qd N body (mkS (k:Int) t)=some r∧Q r:=by
  intro j
  induction j with
  | zero =>
   intro N k t e hk hN hI
   obtain ⟨N,rfl⟩:∃M,N=M+1:=⟨N - 1,by omega⟩
   have:k=n:=by omega
   subst this
   obtain ⟨r,b1,b2⟩:=done t hI
   simp only [Qd,b1]
   exact ⟨r,rfl,b2⟩
  | succ j ih =>
   intro N k t e hk hN hI
   obtain ⟨N,rfl⟩:∃M,N=M+1:=⟨N - 1,by omega⟩
   rcases step k t hk (by omega) hI with ⟨t',b1,b2⟩ | ⟨r,b1,b2⟩
   ·rw [Qt2 (by omega)] at b1
    simp only [Qd,b1]
    exact ih N (k+1) t' (by omega) (by omega) (by omega) b2
   ·simp only [Qd,b1]
    exact ⟨r,rfl,b2⟩
 exact key (n - k0) fuel k0 t0 (by omega) (Nat.le_refl _) (by show n - k0 < 1152921504606846976; omega) h0
theorem Qa4 {τ ρ σ:Type} {n k0:Nat} (hk:k0≤n) (hn:n < 1152921504606846976) (mkS:Int→τ→σ) {body:σ→Option (Qm σ ρ)} (T:Nat → τ) (r:ρ)
  (step:∀(k:Nat),k0≤k→k < n→body (mkS (k:Int) (T k))=some (.next (mkS (zw ((k:Int)+1)) (T (k+1)))))
  (done:body (mkS (n:Int) (T n))=some (.done r)):Qd fuel body (mkS (k0:Int) (T k0))=some r:=by
 obtain ⟨r',h1,h2⟩:=Qpc hk hn mkS (body:=body) (fun k t=>t=T k) (fun x=>x=r) (fun k t a b c=>.inl ⟨T (k+1),by rw [c]; exact step k a b,rfl⟩) (fun t h=>⟨r,by rw [h]; exact done,rfl⟩) (T k0) rfl
 rw [h1,h2]
theorem dlt {k n:Nat} (h:k < n):decide ((k:Int) < (n:Int))=true:=decide_eq_true (by omega)
theorem nlt (n:Nat):¬ (decide ((n:Int) < (n:Int))=true):=by simp
def nI (l:List Nat):List Int:=l.map fun (k:Nat)=>(k:Int)
theorem Qax (l:List Nat):(nI l).length=l.length:=by simp [nI]
theorem Q4f {l:List Nat} {k:Nat} (h:k < l.length):lkI (nI l) (k:Int)=some (l[k]:Int):=by rw [Qs (by rwa [Qax])]; simp [nI]
end Go.Ab
