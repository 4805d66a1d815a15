/- Functions. No conditions. -/
import Derived.Test.YtgogkahhifkocaaDoorProg
import Derived.Test.YtgogkahhifkocaaDoorW11
import Derived.KernelRfl
import Derived.Test.YtgogkahhifkocaaDoorW13
import Derived.Test.YtgogkahhifkocaaDoorW14
import Derived.Test.YtgogkahhifkocaaDoorW12
import Derived.Test.YtgogkahhifkocaaDoorEng7
import Derived.IntWalk
set_option maxRecDepth 100000
set_option maxHeartbeats 4000000
set_option linter.all false
namespace Go.Ab
open Go Go.Proofs
section
attribute [local irreducible] RW WP
theorem g_cmp_isNaN_int_ok (p0:Int):Ct Tryd.prog 169 [vI p0] (Qac p0) (fun x=>vB x) (fun x=>[]):=by
 refine hfn [] Tryd.func169 <| hrt 6
theorem g_cmp_Less_int_ok (p0:Int) (p1:Int):Ct Tryd.prog 160 [vI p0,vI p1] (Qaw p0 p1) (fun x=>vB x) (fun x=>[]):=by
 refine hfn [] Tryd.func160 <| hcl 2 [] (g_cmp_isNaN_int_ok p0) fun x1 _=>hbr 1 [6,7] (?_) ?_
 ·refine hcl 1 [] (g_cmp_isNaN_int_ok p1) fun x5 _=>hbr 3 [10,11,12] (hrt 6) <| ?_
  refine hrt 6
 refine hrt 11
theorem g_slices_isNaN_int_ok (p0:Int):Ct Tryd.prog 161 [vI p0] (Js p0) (fun x=>vB x) (fun x=>[]):=by
 refine hfn [] Tryd.func161 <| hrt 6
theorem g_slices_BinarySearch_int_int_ok (p0:(List Int)) (p1:Int):Ct Tryd.prog 154 [z1 p0,vI p1] (Xp p0 p1) (fun x=>.tup [vI x.1,vB x.2]) (fun x=>[]):=by
 refine hfn [] Tryd.func154 <| hop 3 (fun _=>Qs (enc:=eI) (l:=p0) (fl:=true) kr gE) <| hlp 4 (fun s1=>⟨[(0,z1 p0),(1,vI p1),(6,vI (zn p0)),(7,vI s1.1),(8,vI s1.2)],[],54⟩) (fun v=>(.exit 0,⟨[(0,z1 p0),(1,vI p1),(6,vI (zn p0)),(7,vI v)],[],54⟩)) (wz []) (fun s1=>?_) fun x11=>?_
 ·refine hbr 3 [15] (?_) ?_
  ·refine hbd fun a4 q5=>hop 10 (fun _=>Qi (enc:=eI) (l:=p0) (n:=zw (Int.fdiv (zv (zw (s1.1+s1.2))) (2^min (zt 1) zk))) (fl:=true) (w:=1) (a:=a4) kr kr gE q5) <| hcl 2 [] (g_cmp_Less_int_ok a4 p1) fun x6 _=>hbr 0 [27] (hnx 4 (wz [])) <| ?_
   refine hnx 3 (wz [])
  refine hdx 1 (wz [])
 refine hbr 5 [34,35] (?_) ?_
 ·refine hbd fun a14 q15=>hop 2 (fun _=>Qi (enc:=eI) (l:=p0) (n:=x11) (fl:=true) (w:=1) (a:=a14) kr kr gE q15) <| hbr 4 [41,42] (hrt 14) <| ?_
  refine hop 2 (fun _=>Qi (enc:=eI) (l:=p0) (n:=x11) (fl:=true) (w:=1) (a:=a14) kr kr gE q15) <| hcl 1 [] (g_slices_isNaN_int_ok a14) fun x18 _=>hbr 1 [47,48] (hcl 1 [] (g_slices_isNaN_int_ok p1) fun x22 _=>hrt 6) <| ?_
  refine hrt 8
 refine hrt 21
theorem Qet (c0:Int) (d0:(List Int)):Ct Tryd.prog 156 [z1 (c0::d0)] (Yu c0 d0) (fun x=>.ref 0 0 x.length) (fun x=>[oR true 1 eI x]):=by
 refine hfn [] Tryd.func156 <| hoh 6 (fun _ _ h k=>Qn7 (enc:=eI) (m:=(c0::d0)) (w:=1) (bytes:=8) (nr':=true) (fl':=true) (a:=.emp) (b:=z1 (c0::d0)) (rds:=[]) false kr (.inr rfl) (Qe2 (fun _=>rfl)) kr gE kr h k) <| hrt 2
theorem Qeq  : Ct Tryd.prog 156 [.emn] (V3) (fun x=>.ref 0 0 x.length) (fun x=>[oR true 1 eI x]):=by
 refine hfn [] Tryd.func156 <| hrt 9
theorem Qez  : Ct Tryd.prog 156 [.nils] (Jb) (fun x=>.ref 0 0 x.length) (fun x=>[oR true 1 eI x]):=by
 refine hfn [] Tryd.func156 <| hwk 5 (wl [2] []) <| hwk 0 (Xb 2 1 true true gE) <| hrt 1
theorem Qf3 (p0:(List Int)) (x:(List Int)) (h:Zv p0=some x):Q6 Tryd.prog 156 [z1 p0] (.ret (.ref 0 0 x.length) [oR true 1 eI x]):=by
 cases p0 with
 | cons c0 d0=>exact Qet c0 d0 x h
 | nil =>
  cases h1:Jb with
  | none=>simp [Zv,h1] at h
  | some y =>
   cases h2:V3 with
   | none=>simp [Zv,h1,h2] at h
   | some z =>
    by_cases e:y=z
    ·subst e
     simp [Zv,h1,h2] at h
     subst h
     exact Q6.nil (l1:=[]) (l2:=[]) (Qez y h1) (Qeq y h2)
    simp [Zv,h1,h2,e] at h
noncomputable abbrev Qzn (p0:Q0):AObj:=oX true false 5 (.agg [vI p0.Net.Grain,eL false Aj p0.Net.Nodes,z1 p0.cards,eL true (AV.int .u64) p0.sets,z1 p0.order])
noncomputable abbrev Qom:AObj:=oX true false 3 (.agg [.nils,.nils,.nils])
noncomputable abbrev Qmo (a1:Ad):AObj:=oX true false 3 (.agg [vI a1.Card,z1 a1.Parents,z2 a1.Rows])
noncomputable abbrev Qzb:AObj:=.loop 105 [(4,.ptr 0 0 0),(5,.ptr 1 0 0),(8,.ptr 2 0 0),(9,.ptr 3 0 0),(75,.fn (.func 153) [] [.ptr 4 0 0])] [76,77] (cA Tryd.f136 [true,true,true,true,true,true,true,false,true,true]) (cB Tryd.f136 [true,true,true,true,true,true,true,false,true,true]) .ready none
noncomputable abbrev Qs5:AObj:=.loop 105 [(4,.ptr 0 0 0),(5,.ptr 1 0 0),(8,.ptr 2 0 0),(9,.ptr 3 0 0),(75,.fn (.func 153) [] [.ptr 4 0 0])] [76,77] (cA Tryd.f136 [true,true,true,true,true,true,true,false,true,true]) (cB Tryd.f136 [true,true,true,true,true,true,true,false,true,true]) .busy none
noncomputable abbrev Ql5 (a0:AObj) (a1:Ad) (x18:(Int × (List Int))) (x7:(List Int)):List AObj:=[Qom,(Qmo a1),a0,oX true true 1 (vI x18.1),(Qmo a1),oR true 1 eI x7,oR true 1 eI x18.2]
theorem Qhg (p0:Q0) (p1:Int):Ct Tryd.prog 136 [.agg [vI p0.Net.Grain,eL false Aj p0.Net.Nodes,z1 p0.cards,eL true (AV.int .u64) p0.sets,z1 p0.order],vI p1] (Yo p0 p1) (fun x=>.agg [.ref 0 0 x.Vars.length,.ref 1 0 x.Cards.length,.ref 2 0 x.W.length]) (fun x=>[oR true 1 eI x.Vars,oR true 1 eI x.Cards,oR true 1 eI x.W]):=by
 refine hfn [] Tryd.func136 <| hop 0 (fun _=>sgL false [] [] false gE) <| hop 0 (fun _=>sgL false [] [] false gE) <| hbd fun a1 q2=>hop 4 (fun _=>Qi (enc:=Aj) (l:=p0.Net.Nodes) (n:=p1) (fl:=false) (w:=3) (a:=a1) kr kr gE q2) <| hop 1 (fun _=>sgL false [] [] false gE) <| hcl 4 [] (g_slices_BinarySearch_int_int_ok a1.Parents p1) fun x3 _=>hcl 7 [] (Qf3 a1.Parents) fun x5 _=>hop 2 (fun _=>sgL false [] [] true gE) <| ?_
 refine Q78 0 (nr:=true) (fl:=true) (bx2:=false) (nr2:=true) (fl2:=true) (o:=3) (o2:=4) (fun x7=>⟨[(0,.agg [vI p0.Net.Grain,eL false Aj p0.Net.Nodes,z1 p0.cards,eL true (AV.int .u64) p0.sets,z1 p0.order]),(1,vI p1),(2,.ptr 0 0 0),(4,.ptr 1 0 0),(16,.ptr 0 0 0),(17,.ptr 0 0 1),(18,eL false Aj p0.Net.Nodes),(19,vI p1),(20,.fz [vI a1.Card,z1 a1.Parents,z2 a1.Rows]),(21,.agg [vI a1.Card,z1 a1.Parents,z2 a1.Rows]),(5,.ptr 2 0 0),(23,.ptr 2 0 1),(24,z1 a1.Parents),(25,vI p1),(26,.tup [vI x3.1,vB x3.2]),(22,.tup [vI x3.1,vB x3.2]),(27,vI x3.1),(28,vB x3.2),(6,vI x3.1),(7,vB x3.2),(29,.ptr 2 0 1),(30,z1 a1.Parents),(31,.ref 3 0 x5.length),(32,vI x3.1),(33,vI p1),(34,.ref 4 0 1),(35,.ref 5 0 x7.length)],[(Qzn p0),Qom,(Qmo a1),.dead,.row false false true true 1 [vI p1],oR true 1 eI x7],105⟩) Q7q Tryd.func155 fun x7=>hop 1 (fun _=>sgL false [] [] false gE) <| hlp 7 (fun s8=>⟨[(2,.ptr 0 0 0),(4,.ptr 1 0 0),(5,.ptr 2 0 0),(6,vI x3.1),(8,.ptr 3 0 0),(9,.ptr 4 0 0),(38,.ref 5 0 x7.length),(39,vI (zn x7)),(40,vI s8.1)],[(Qzn p0),Qom,(Qmo a1),oX false false 3 (.agg [.ref 5 0 x7.length,.ref 6 0 s8.2.2.length,.nils]),oX true true 1 (vI s8.2.1),oR true 1 eI x7,oR true 1 eI s8.2.2],105⟩) (fun v=>(.exit 0,⟨[(4,.ptr 0 0 0),(5,.ptr 1 0 0),(8,.ptr 2 0 0),(9,.ptr 3 0 0)],[Qom,(Qmo a1),oX false false 3 (.agg [.ref 4 0 x7.length,.ref 5 0 v.2.length,.nils]),oX true true 1 (vI v.1),oR true 1 eI x7,oR true 1 eI v.2],105⟩)) (Zd (Vd (live:=[2,4,5,6,8,9,38,39,40]) (keep:=[0,1,2,6,7,5]) gE) (Zd (Qm6 3 0 1 1 true true gE) (Vd (live:=[2,4,5,6,8,9,38,39,40]) (keep:=[0,1,2,3,4,5,6]) kr))) (fun s8=>?_) fun x18=>?_
 ·refine hbr 1 [41] (?_) ?_
  ·refine hbd fun a11 q12=>hop 2 (fun _=>Qr (enc:=eI) (l:=x7) (n:=s8.1) (w:=1) (ob:=5) (ro:=false) (nr:=true) (fl:=true) (a:=a11) kr kr gE q12) <| hop 0 (fun _=>Zh (enc:=eI) (l:=x7) (n:=s8.1) (w:=1) (ob:=5) (c:=0) (bx:=false) (ro:=false) (nr:=true) (fl:=true) (a:=a11) kr kr q12 gE) <| hbd fun a13 q14=>hop 8 (fun _=>Qi (enc:=eI) (l:=p0.cards) (n:=a11) (fl:=true) (w:=1) (a:=a13) kr kr gE q14) <| hop 1 (fun _=>sgL false [] [] true gE) <| hoh 0 (fun _ _ h k=>V9 (enc:=eI) (l:=s8.2.2) (m:=([a13]:(List Int))) (w:=1) (bytes:=8) (ob:=6) (nr:=true) (fl:=true) (nr':=true) (fl':=true) (b:=.ref 7 0 1) (rds:=[7]) false kr kr kr kr gE kr h k) <| hbr 5 [57] (hop 6 (fun _=>Qi (enc:=eI) (l:=p0.cards) (n:=a11) (fl:=true) (w:=1) (a:=a13) kr kr gE q14) <| hnx 5 (wz [0,1,2,3,4,5,8])) <| ?_
   refine hnx 3 (wz [0,1,2,3,4,5,8])
  refine hdx 1 (wz [1,2,3,4,5,6])
 refine hop 2 (fun _=>Qs (enc:=z1) (l:=a1.Rows) (fl:=false) kr gE) <| hoh 3 (fun _ _ h k=>mkL (enc:=eI) (z:=(0:Int)) (z0:=vI 0) (n:=zw ((zn a1.Rows)*a1.Card)) (m:=zw ((zn a1.Rows)*a1.Card)) (w:=1) (bytes:=8) [] true kr kr gE kr h k) <| hil 3 Tryd.func134 <| hop 0 (fun _=>sgL false [] [] false gE) <| hwk 3 (wl [2] [7]) <| hwk 1 (wl [4,5,8,9,75] [0,1,2,3,7,4,5,6]) <| hrg 0 Tryd.func153 <| hop 2 (fun _=>Qs (enc:=z1) (l:=a1.Rows) (fl:=false) kr gE) <| hlp 1 (fun s19=>⟨[(0,.yld 8),(6,z2 a1.Rows),(7,vI (zn a1.Rows)),(8,vI s19.1)],(Ql5 (oX false false 3 (.agg [.ref 5 0 x7.length,.ref 6 0 x18.2.length,.ref 7 0 s19.2.length])) a1 x18 x7)++[oR true 1 eI s19.2,Qzb],19⟩) (fun v=>(.exit 0,⟨[],(Ql5 (oX false false 3 (.agg [.ref 5 0 x7.length,.ref 6 0 x18.2.length,.ref 7 0 v.length])) a1 x18 x7)++[oR true 1 eI v,Qzb],19⟩)) (wz []) (fun s19=>?_) fun x37=>?_
 ·refine hbr 1 [9] (?_) ?_
  ·refine hbd fun a22 q23=>hop 2 (fun _=>Qi (enc:=z1) (l:=a1.Rows) (n:=s19.1) (fl:=false) (w:=1) (a:=a22) kr kr gE q23) <| hyl 6 <| hop 3 (fun _=>Qs (enc:=eI) (l:=a22) (fl:=true) kr gE) <| hlp 1 (fun s24=>⟨[(5,.ptr 1 0 0),(8,.ptr 2 0 0),(9,.ptr 3 0 0),(12,vI s19.1),(78,z1 a22),(79,vI (zn a22)),(80,vI s24.1)],(Ql5 (oX false false 3 (.agg [.ref 5 0 x7.length,.ref 6 0 x18.2.length,.ref 7 0 s24.2.length])) a1 x18 x7)++[oR true 1 eI s24.2,Qs5],105⟩) (fun v=>(.exit 4,⟨[],(Ql5 (oX false false 3 (.agg [.ref 5 0 x7.length,.ref 6 0 x18.2.length,.ref 7 0 v.length])) a1 x18 x7)++[oR true 1 eI v,Qs5],105⟩)) (wz []) (fun s24=>?_) fun x35=>?_
   ·refine hbr 1 [81] (?_) ?_
    ·refine hbd fun a27 q28=>hop 2 (fun _=>Qi (enc:=eI) (l:=a22) (n:=s24.1) (fl:=true) (w:=1) (a:=a27) kr kr gE q28) <| hoh 8 (fun _ _ h k=>Qup (k:=.i64) (a:=s19.1) (b:=x18.1) kr gE h k) <| hoh 9 (fun _ _ h k=>Qc2 (k:=.i64) (a:=s19.1) (b:=x18.1) kr gE h k) <| hbd fun a29 q30=>hop 2 (fun _=>Qr (enc:=eI) (l:=s24.2) (n:=zw ((zw ((zw ((zw ((zw (Int.tdiv s19.1 x18.1))*a1.Card))+s24.1))*x18.1))+(Int.tmod s19.1 x18.1))) (w:=1) (ob:=7) (ro:=false) (nr:=true) (fl:=true) (a:=a29) kr kr gE q30) <| hbd fun a31 q32=>hop 0 (fun _ k=>Zo (enc:=eI) (l:=s24.2) (n:=(zw ((zw ((zw ((zw ((zw (Int.tdiv s19.1 x18.1))*a1.Card))+s24.1))*x18.1))+(Int.tmod s19.1 x18.1)))) (ob:=7) (w:=1) (bx:=false) (nr:=true) (fl:=true) (c:=0) (a:=a31) (a':=a27) (v:=vI a27) false kr kr q32 kr kr kr gE kr (Q11 (S:=fun n33=>⟨[(5,.ptr 1 0 0),(8,.ptr 2 0 0),(9,.ptr 3 0 0),(12,vI s19.1),(78,z1 a22),(79,vI (zn a22)),(80,vI s24.1),(81,vB true),(82,vI s24.1),(83,.fz [vI a27]),(84,vI a27),(14,vI s24.1),(15,vI a27),(85,.ptr 2 0 2),(86,.ref 7 0 n33),(87,vI s19.1),(88,vI x18.1),(89,vI (zw (Int.tdiv s19.1 x18.1))),(90,.ptr 1 0 0),(91,vI a1.Card),(92,vI (zw ((zw (Int.tdiv s19.1 x18.1))*a1.Card))),(93,vI s24.1),(94,vI (zw ((zw ((zw (Int.tdiv s19.1 x18.1))*a1.Card))+s24.1))),(95,vI x18.1),(96,vI (zw ((zw ((zw ((zw (Int.tdiv s19.1 x18.1))*a1.Card))+s24.1))*x18.1))),(97,vI s19.1),(98,vI x18.1),(99,vI (Int.tmod s19.1 x18.1)),(100,vI (zw ((zw ((zw ((zw ((zw (Int.tdiv s19.1 x18.1))*a1.Card))+s24.1))*x18.1))+(Int.tmod s19.1 x18.1)))),(101,vI a27),(102,.ptr 7 (zt (zw ((zw ((zw ((zw ((zw (Int.tdiv s19.1 x18.1))*a1.Card))+s24.1))*x18.1))+(Int.tmod s19.1 x18.1)))) 0)],(Ql5 (oX false false 3 (.agg [.ref 5 0 x7.length,.ref 6 0 x18.2.length,.ref 7 0 n33])) a1 x18 x7)++[oR true 1 eI (List.set s24.2 (zt (zw ((zw ((zw ((zw ((zw (Int.tdiv s19.1 x18.1))*a1.Card))+s24.1))*x18.1))+(Int.tmod s19.1 x18.1)))) a27),Qs5],105⟩) (ls s24.2 (zt (zw ((zw ((zw ((zw ((zw (Int.tdiv s19.1 x18.1))*a1.Card))+s24.1))*x18.1))+(Int.tmod s19.1 x18.1)))) a27) k)) <| hnx 2 (wz [])
    refine hdx 1 (wz [])
   refine hnx 4 (wz [])
  refine hdx 1 (wz [])
 refine hrt 3
theorem g_net_Factors_ok (p0:Qd):Ct Tryd.prog 100 [.agg [vI p0.Grain,eL false Aj p0.Nodes]] (Qbx p0) (fun x=>.tup [.ref 0 0 x.1.length,vI x.2]) (fun x=>[oR false 3 Q5 x.1]):=by
 refine hfn [] Tryd.func100 <| hop 0 (fun _=>sgL false [] [] false gE) <| hcl 3 [] (g_net_read_ok p0) fun x1 _=>hop 3 (fun _=>sgL false [] [] false gE) <| hbr 4 [14] (hwk 4 (wl [2,3] []) <| hwk 0 (Xb 2 3 true false gE) <| hrt 1) <| ?_
 refine hop 4 (fun _=>Qs (enc:=Aj) (l:=x1.1.Net.Nodes) (fl:=false) kr gE) <| hoh 0 (fun _ _ h k=>mkL (enc:=Q5) (z:=((Qw.mk [] [] []):Qw)) (z0:=.agg [.nils,.nils,.nils]) (n:=(zn x1.1.Net.Nodes)) (m:=(zn x1.1.Net.Nodes)) (w:=3) (bytes:=72) [.lst true,.lst true,.lst true] false kr kr gE kr h k) <| hlp 4 (fun s5=>⟨[(4,.ptr 0 0 0),(6,.ref 1 0 s5.2.length),(22,vI (((List.replicate (zt (zn x1.1.Net.Nodes)) ((Qw.mk [] [] []):Qw)).length):Int)),(23,vI s5.1)],[oX true false 5 (.agg [vI x1.1.Net.Grain,eL false Aj x1.1.Net.Nodes,z1 x1.1.cards,eL true (AV.int .u64) x1.1.sets,z1 x1.1.order]),oR false 3 Q5 s5.2],34⟩) (fun v=>(.exit 0,⟨[(6,.ref 0 0 v.length)],[oR false 3 Q5 v],34⟩)) (wz [1,2]) (fun s5=>?_) fun x14=>?_
 ·refine hbr 1 [24] (?_) ?_
  ·refine hcl 7 [] (Qhg x1.1 s5.1) fun x8 _=>hbd fun a10 q11=>hop 0 (fun _=>Qr (enc:=Q5) (l:=s5.2) (n:=s5.1) (w:=3) (ob:=1) (ro:=false) (nr:=true) (fl:=false) (a:=a10) kr kr gE q11) <| hop 0 (fun _=>Qys (enc:=Q5) (l:=s5.2) (n:=s5.1) (ob:=1) (w:=3) (nr:=true) (fl:=false) (c:=0) (a:=a10) (a':=x8) (v0:=.agg [.ref 2 0 x8.Vars.length,.ref 3 0 x8.Cards.length,.ref 4 0 x8.W.length]) (v:=.agg [z1 x8.Vars,z1 x8.Cards,z1 x8.W]) (ids:=[2,3,4]) (es:=[(2,.row false true true true 1 (List.map eI x8.Vars)),(3,.row false true true true 1 (List.map eI x8.Cards)),(4,.row false true true true 1 (List.map eI x8.W))]) kr kr q11 kr kr (Qdy (Zc (Yx (w:=1) (bx:=false) (ro:=false) (enc:=eI) (l:=x8.Vars) (fl:=true) kr) (Zc (Yx (w:=1) (bx:=false) (ro:=false) (enc:=eI) (l:=x8.Cards) (fl:=true) kr) (Zc (Yx (w:=1) (bx:=false) (ro:=false) (enc:=eI) (l:=x8.W) (fl:=true) kr) Kn (by rfl)) (by rfl)) (by rfl))) kr kr kr gE kr) <| hkl 0 [6,26] (ls s5.2 (zt s5.1) x8) <| hnx 2 (wz [0,1])
  refine hdx 1 (wz [1])
 refine hrt 4
end
section
attribute [local irreducible] RW WP
noncomputable abbrev o66_93 (p0:Qd):AObj:=oX true false 2 (.agg [vI p0.Grain,eL false Aj p0.Nodes])
noncomputable abbrev o66_94:AObj:=oX true false 4 (.agg [vI 0,.nils,.nils,.nils])
noncomputable abbrev o66_95 (x1:((List Qw) × Int)):AObj:=oR false 3 Q5 x1.1
noncomputable abbrev s66_96:List (Nat×AV):=[(2,.ptr 0 0 0),(4,.ptr 1 0 0),(11,.ptr 2 0 0)]
theorem g_joint_ask_ok (p0:Qd) (p1:(List (List Int))):Ct Tryd.prog 56 [.agg [vI p0.Grain,eL false Aj p0.Nodes],z2 p1] (Qbf p0 p1) (fun x=>.tup [.agg [vI x.1.Net.Grain,eL false Aj x.1.Net.Nodes,eL false Q5 x.1.factors,z2 x.1.steps],vI x.2]) (fun x=>[]):=by
 refine hfn [[.keep,.lst false,.lst false,.lst false],[.keep]] Tryd.func56 <| hop 0 (fun _=>sgL false [] [] false gE) <| hop 0 (fun _=>sgL false [] [] false gE) <| hcl 2 [] (g_net_Factors_ok p0) fun x1 _=>hbr 7 [22] (hrt 6) <| ?_
 refine hop 2 (fun _=>Qs (enc:=z1) (l:=p1) (fl:=false) kr gE) <| hlp 1 (fun s5=>⟨[(2,.ptr 0 0 0),(4,.ptr 1 0 0),(6,.ref 2 0 x1.1.length),(25,z2 p1),(26,vI (zn p1)),(27,vI s5)],[(o66_93 p0),o66_94,(o66_95 x1)],89⟩) (fun x=>match x with | .inl v=>(.ret,⟨[(4,.ptr 0 0 0),(5,vI v)],[o66_94],89⟩) | .inr v=>(.exit 0,⟨[(2,.ptr 0 0 0),(4,.ptr 1 0 0),(6,.ref 2 0 x1.1.length)],[(o66_93 p0),o66_94,(o66_95 x1)],89⟩)) (wz [0,1,2]) (fun s5=>?_) (hsm (fun x15=>?_) (fun x16=>?_))
 ·refine hbr 1 [28] (?_) ?_
  ·refine hbd fun a8 q9=>hop 1 (fun _=>Qi (enc:=z1) (l:=p1) (n:=s5) (fl:=false) (w:=1) (a:=a8) kr kr gE q9) <| hcl 4 [] (g_net_CheckEvidence_ok p0 a8) fun x10 _=>hbr 3 [35] (hdx 5 (wz [1])) <| ?_
   refine hnx 3 (wz [0,1,2])
  refine hdx 1 (wz [0,1,2])
 ·refine hrt 0
 refine hoh 5 (fun _ _ h k=>mkL (enc:=fun _=>AV.nils) (z:=([]:(List Int))) (z0:=AV.nils) (n:=(zn x1.1)) (m:=(zn x1.1)) (w:=1) (bytes:=24) [] false kr kr gE kr h k) <| hop 1 (fun _=>sgL false [] [] false gE) <| hwk 1 (wfam 3 1 true (zt (zn x1.1)) eI (nr0:=true) (fl0:=false) (x0:=([]:List Int)) (enc1:=fun _=>AV.nils)) <| hlp 3 (fun s17=>⟨s66_96++[(45,.ref 3 0 x1.1.length),(46,vI (zn x1.1)),(47,vI s17.1)],[(o66_93 p0),o66_94,oX false false 4 (.agg [vI p0.Grain,eL false Aj p0.Nodes,.ref 3 0 x1.1.length,.ref 4 0 s17.2.length]),(o66_95 x1),.refs 5 (eF eI s17.2),.fam 1 true (eF eI s17.2)],89⟩) (fun v=>(.exit 2,⟨[(4,.ptr 0 0 0),(11,.ptr 1 0 0)],[o66_94,oX false false 4 (.agg [vI p0.Grain,eL false Aj p0.Nodes,.ref 2 0 x1.1.length,.ref 3 0 v.length]),(o66_95 x1),.refs 4 (eF eI v),.fam 1 true (eF eI v)],89⟩)) (wz [0,1,4,2,3,5]) (fun s17=>?_) fun x40=>?_
 ·refine hbr 1 [48] (?_) ?_
  ·refine hbd fun a20 q21=>hop 2 (fun _=>Qr (enc:=Q5) (l:=x1.1) (n:=s17.1) (w:=3) (ob:=3) (ro:=false) (nr:=true) (fl:=false) (a:=a20) kr kr gE q21) <| hop 0 (fun _=>Zh (enc:=Q5) (l:=x1.1) (n:=s17.1) (w:=3) (ob:=3) (c:=0) (bx:=false) (ro:=false) (nr:=true) (fl:=false) (a:=a20) kr kr q21 gE) <| hop 0 (fun _=>sgL false [] [] false gE) <| hop 8 (fun _=>Qs (enc:=Aj) (l:=p0.Nodes) (fl:=false) kr gE) <| hoh 0 (fun _ _ h k=>mkL (enc:=eI) (z:=(0:Int)) (z0:=vI 0) (n:=(zn p0.Nodes)) (m:=(zn p0.Nodes)) (w:=1) (bytes:=8) [] true kr kr gE kr h k) <| hbd fun a22 q23=>hop 0 (fun _=>Q61 (enc:=eI) (ls:=s17.2) (x:=a22) (n:=s17.1) (ob:=4) (j:=5) kr kr q23 gE) <| hop 0 (fun _=>Q6w (enc:=eI) (ls:=s17.2) (x:=a22) (n:=s17.1) (ob:=4) (j:=5) (m:=7) (q:=(List.replicate (zt (zn p0.Nodes)) (0:Int)).length) kr kr q23 kr gE kr) <| ?_
   refine hwk 0 (Zd (Q72 4 5 7 [2,4,11,45,46,47,48,49,50,51,13,12,52,53,54,55,56,57,59] q23 (w:=1) (fl:=true) (enc:=eI) (ls:=s17.2) (x:=a22) (b:=(List.replicate (zt (zn p0.Nodes)) (0:Int))) (n:=s17.1)) (wkv (fun n24=>⟨s66_96++[(45,.ref 3 0 x1.1.length),(46,vI (zn x1.1)),(47,vI s17.1),(48,vB true),(49,vI s17.1),(50,.ptr 3 (zt s17.1) 0),(51,.agg [z1 a20.Vars,z1 a20.Cards,z1 a20.W]),(13,.ptr 6 0 0),(12,vI s17.1),(52,.ptr 2 0 3),(53,.ref 4 0 n24),(54,vI s17.1),(55,.ptr 0 0 1),(56,eL false Aj p0.Nodes),(57,vI (zn p0.Nodes)),(59,.ptr 4 (zt s17.1) 0)],[(o66_93 p0),o66_94,oX false false 4 (.agg [vI p0.Grain,eL false Aj p0.Nodes,.ref 3 0 x1.1.length,.ref 4 0 n24]),(o66_95 x1),.refs 5 (eF eI (List.set s17.2 (zt s17.1) (List.replicate (zt (zn p0.Nodes)) (0:Int)))),.fam 1 true (eF eI (List.set s17.2 (zt s17.1) (List.replicate (zt (zn p0.Nodes)) (0:Int)))),oX true false 3 (.agg [z1 a20.Vars,z1 a20.Cards,z1 a20.W]),.dead],89⟩) (ls s17.2 (zt s17.1) (List.replicate (zt (zn p0.Nodes)) (0:Int))))) <| hop 3 (fun _=>Qs (enc:=eI) (l:=a20.Vars) (fl:=true) kr gE) <| hlp 2 (fun s25=>⟨s66_96++[(12,vI s17.1),(13,.ptr 3 0 0),(14,vI s25.1),(15,vI s25.2.1),(45,.ref 4 0 x1.1.length),(46,vI (zn x1.1)),(47,vI s17.1)],[(o66_93 p0),o66_94,oX false false 4 (.agg [vI p0.Grain,eL false Aj p0.Nodes,.ref 4 0 x1.1.length,.ref 5 0 s25.2.2.length]),oX true false 3 (.agg [z1 a20.Vars,z1 a20.Cards,z1 a20.W]),(o66_95 x1),.refs 6 (eF eI s25.2.2),.fam 1 true (eF eI s25.2.2)],89⟩) (fun v=>(.exit 4,⟨s66_96++[(45,.ref 3 0 x1.1.length),(46,vI (zn x1.1)),(47,vI s17.1)],[(o66_93 p0),o66_94,oX false false 4 (.agg [vI p0.Grain,eL false Aj p0.Nodes,.ref 3 0 x1.1.length,.ref 4 0 v.length]),(o66_95 x1),.refs 5 (eF eI v),.fam 1 true (eF eI v)],89⟩)) (wz [0,1,2,6,3,4,5]) (fun s25=>?_) fun x38=>?_
   ·refine hbr 2 [65] (?_) ?_
    ·refine hbd fun a28 q29=>hop 5 (fun _=>Q61 (enc:=eI) (ls:=s25.2.2) (x:=a28) (n:=s17.1) (ob:=5) (j:=6) kr kr q29 gE) <| hop 0 (fun _=>Q7e (enc:=eI) (ls:=s25.2.2) (x:=a28) (n:=s17.1) (ob:=5) (j:=6) kr kr q29 gE) <| hbd fun a30 q31=>hop 3 (fun _=>Qi (enc:=eI) (l:=a20.Vars) (n:=s25.2.1) (fl:=true) (w:=1) (a:=a30) kr kr gE q31) <| hbd fun a32 q33=>hop 2 (fun _=>Q79 (enc:=eI) (ls:=s25.2.2) (x:=a28) (y:=a32) (n:=s17.1) (c:=a30) (w:=1) (j:=6) (fl:=true) kr kr q29 q33 kr gE) <| hop 0 (fun _=>Q5s (enc:=eI) (ls:=s25.2.2) (x:=a28) (y:=a32) (y':=s25.1) (n:=s17.1) (m:=a30) (w:=1) (j:=6) (q:=5) (c:=0) (fl:=true) (v:=vI s25.1) kr kr kr q29 q33 kr kr kr kr gE) <| hkn 0 (fun n36=>⟨s66_96++[(12,vI s17.1),(13,.ptr 3 0 0),(14,vI s25.1),(15,vI s25.2.1),(45,.ref 4 0 x1.1.length),(46,vI (zn x1.1)),(47,vI s17.1),(64,vI s25.2.1),(65,vB true),(68,.ptr 2 0 3),(69,.ref 5 0 n36),(70,vI s17.1),(71,.ptr 5 (zt s17.1) 0),(72,.ref (fid 6 (zt s17.1)) 0 a28.length),(73,.ptr 3 0 0),(74,z1 a20.Vars),(75,vI s25.2.1),(76,.fz [vI a30]),(77,vI a30),(78,vI s25.1),(79,.ptr (fid 6 (zt s17.1)) (zt a30) 0)],[(o66_93 p0),o66_94,oX false false 4 (.agg [vI p0.Grain,eL false Aj p0.Nodes,.ref 4 0 x1.1.length,.ref 5 0 n36]),oX true false 3 (.agg [z1 a20.Vars,z1 a20.Cards,z1 a20.W]),(o66_95 x1),.refs 6 (eF eI (List.set s25.2.2 (zt s17.1) (List.set a28 (zt a30) s25.1))),.fam 1 true (eF eI (List.set s25.2.2 (zt s17.1) (List.set a28 (zt a30) s25.1)))],89⟩) (ls s25.2.2 (zt s17.1) (List.set a28 (zt a30) s25.1)) <| ?_
     refine hbd fun a34 q35=>hop 4 (fun _=>Qi (enc:=eI) (l:=a20.Cards) (n:=s25.2.1) (fl:=true) (w:=1) (a:=a34) kr kr gE q35) <| hnx 6 (wz [0,1,2,3,4,5,6])
    refine hdx 1 (wz [0,1,2,4,5,6])
   refine hnx 2 (wz [0,1,2,3,4,5])
  refine hdx 1 (wz [1,2,3,4,5])
 refine hwk 3 (wl [4,5] [0,2,3,4]) <| hwk 0 (Q71 2 3 (w:=1) (fl:=true) (enc:=eI) (ls:=x40)) <| hwk 0 (won 0 0 [F Q5 x1.1,F z1 x40]) <| hrt 1
theorem Qqi (p0:Qd):Ct Tryd.prog 57 [.agg [vI p0.Grain,eL false Aj p0.Nodes]] (Qec p0) (fun x=>.tup [vI x.1,vI x.2]) (fun x=>[]):=by
 refine hfn [] Tryd.func57 <| hop 0 (fun _=>sgL false [] [] false gE) <| hcl 3 [] (g_net_read_ok p0) fun x1 _=>hop 3 (fun _=>sgL false [] [] false gE) <| hbr 4 [13] (hrt 5) <| ?_
 refine hop 5 (fun _=>Qs (enc:=Aj) (l:=x1.1.Net.Nodes) (fl:=false) kr gE) <| hlp 1 (fun s5=>⟨[(4,.ptr 0 0 0),(6,vI s5.1),(18,vI (zn x1.1.Net.Nodes)),(19,vI s5.2)],[oX true false 5 (.agg [vI x1.1.Net.Grain,eL false Aj x1.1.Net.Nodes,z1 x1.1.cards,eL true (AV.int .u64) x1.1.sets,z1 x1.1.order])],28⟩) (fun v=>(.exit 0,⟨[(6,vI v)],[],28⟩)) (wz [1]) (fun s5=>?_) fun x9=>?_
 ·refine hbr 1 [20] (hnx 9 (wz [0])) <| ?_
  refine hdx 1 (wz [])
 refine hrt 4
theorem Qes (p0:(List Int)) (p1:(List Int)):Ct Tryd.prog 138 [z1 p0,z1 p1] (Vg p0 p1) (fun x=>vB x) (fun x=>[]):=by
 refine hfn [] Tryd.func138 <| hop 3 (fun _=>Qs (enc:=eI) (l:=p1) (fl:=true) kr gE) <| hlp 1 (fun s1=>⟨[(0,z1 p0),(5,vB true),(8,z1 p1),(9,vI (zn p1)),(10,vI s1)],[],25⟩) (fun v=>(.exit 0,⟨[(5,vB v)],[],25⟩)) (wz []) (fun s1=>?_) fun x13=>?_
 ·refine hbr 1 [11] (?_) ?_
  ·refine hbd fun a4 q5=>hop 2 (fun _=>Qi (enc:=eI) (l:=p1) (n:=s1) (fl:=true) (w:=1) (a:=a4) kr kr gE q5) <| hbr 6 [17,16] (hnx 4 (wz [])) <| ?_
   refine hbd fun a8 q9=>hop 3 (fun _=>Qi (enc:=eI) (l:=p0) (n:=s1) (fl:=true) (w:=1) (a:=a8) kr kr gE q9) <| hbr 3 [16,22] (hnx 3 (wz [])) <| ?_
   refine hdx 2 (wz [])
  refine hdx 1 (wz [])
 refine hrt 3
noncomputable abbrev Qs0 (p0:Qv):AObj:=oX true false 4 (.agg [vI p0.Net.Grain,eL false Aj p0.Net.Nodes,eL false Q5 p0.factors,z2 p0.steps])
theorem K0 (p0:Qv) (p1:(List Int)):Ct Tryd.prog 139 [.agg [vI p0.Net.Grain,eL false Aj p0.Net.Nodes,eL false Q5 p0.factors,z2 p0.steps],z1 p1] (Xz p0 p1) (fun x=>vI x) (fun x=>[]):=by
 refine hfn [] Tryd.func139 <| hop 0 (fun _=>sgL false [] [] false gE) <| hop 4 (fun _=>Qs (enc:=Q5) (l:=p0.factors) (fl:=false) kr gE) <| hlp 1 (fun s1=>⟨[(1,z1 p1),(2,.ptr 0 0 0),(5,vI s1.1),(12,eL false Q5 p0.factors),(13,vI (zn p0.factors)),(14,vI s1.2)],[(Qs0 p0)],51⟩) (fun v=>(.exit 0,⟨[(5,vI v)],[],51⟩)) (wz [0]) (fun s1=>?_) fun x22=>?_
 ·refine hbr 1 [15] (?_) ?_
  ·refine hbd fun a4 q5=>hop 2 (fun _=>Qi (enc:=Q5) (l:=p0.factors) (n:=s1.2) (fl:=false) (w:=3) (a:=a4) kr kr gE q5) <| hop 1 (fun _=>sgL false [] [] false gE) <| hop 5 (fun _=>Qs (enc:=eI) (l:=a4.Vars) (fl:=true) kr gE) <| hlp 1 (fun s6=>⟨[(1,z1 p1),(2,.ptr 0 0 0),(5,vI s1.1),(6,vI s1.2),(7,.ptr 1 0 0),(8,vI s6.1),(12,eL false Q5 p0.factors),(13,vI (zn p0.factors)),(14,vI s1.2),(20,z1 a4.Vars),(21,vI (zn a4.Vars)),(22,vI s6.2)],[(Qs0 p0),oX true false 3 (.agg [z1 a4.Vars,z1 a4.Cards,z1 a4.W])],51⟩) (fun v=>(.exit 2,⟨[(1,z1 p1),(2,.ptr 0 0 0),(5,vI s1.1),(7,.ptr 1 0 0),(8,vI v),(12,eL false Q5 p0.factors),(13,vI (zn p0.factors)),(14,vI s1.2)],[(Qs0 p0),oX true false 3 (.agg [z1 a4.Vars,z1 a4.Cards,z1 a4.W])],51⟩)) (wz [0,1]) (fun s6=>?_) fun x18=>?_
   ·refine hbr 1 [23] (?_) ?_
    ·refine hbd fun a9 q10=>hop 1 (fun _=>Qi (enc:=eI) (l:=a4.Vars) (n:=s6.2) (fl:=true) (w:=1) (a:=a9) kr kr gE q10) <| hbd fun a11 q12=>hop 6 (fun _=>Qi (enc:=eI) (l:=p1) (n:=a9) (fl:=true) (w:=1) (a:=a11) kr kr gE q12) <| hbd fun a13 q14=>hop 4 (fun _=>Qi (enc:=z1) (l:=p0.steps) (n:=s1.2) (fl:=false) (w:=1) (a:=a13) kr kr gE q14) <| hbd fun a15 q16=>hop 2 (fun _=>Qi (enc:=eI) (l:=a13) (n:=a9) (fl:=true) (w:=1) (a:=a15) kr kr gE q16) <| hnx 6 (wz [0,1])
    refine hdx 1 (wz [0,1])
   refine hbd fun a19 q20=>hop 4 (fun _=>Qi (enc:=eI) (l:=a4.W) (n:=x18) (fl:=true) (w:=1) (a:=a19) kr kr gE q20) <| hnx 5 (wz [0])
  refine hdx 1 (wz [])
 refine hrt 3
noncomputable abbrev Qjh (p0:Qv):AObj:=oX true false 4 (.agg [vI p0.Net.Grain,eL false Aj p0.Net.Nodes,eL false Q5 p0.factors,z2 p0.steps])
noncomputable abbrev Qiu:AObj:=.loop 16 [(5,.ptr 0 0 0),(9,.fn (.func 137) [] [.ptr 1 0 0,.ptr 2 0 0])] [10] (cA Tryd.f58 [true,true,false,true,true]) (cB Tryd.f58 [true,true,false,true,true]) .ready none
noncomputable abbrev Qis:List (Nat×AV):=[(0,.yld 3),(1,.ptr 1 0 0),(2,.ptr 2 0 0)]
theorem Qgy (p0:Qv) (p1:(List Int)):Ct Tryd.prog 58 [.agg [vI p0.Net.Grain,eL false Aj p0.Net.Nodes,eL false Q5 p0.factors,z2 p0.steps],z1 p1] (Vi p0 p1) (fun x=>vI x) (fun x=>[]):=by
 refine hfn [] Tryd.func58 <| hop 0 (fun _=>sgL false [] [] false gE) <| hil 5 Tryd.func101 <| hop 0 (fun _=>sgL false [] [] false gE) <| hop 0 (fun _=>sgL false [] [] false gE) <| hwk 3 (wl [4] [2,3]) <| hwk 1 (wl [5,9] [1,2,3]) <| hrg 0 Tryd.func137 <| hop 3 (fun _=>Qs (enc:=Aj) (l:=p0.Net.Nodes) (fl:=false) kr gE) <| ?_
 refine hoh 0 (fun _ _ h k=>mkL (enc:=eI) (z:=(0:Int)) (z0:=vI 0) (n:=(zn p0.Net.Nodes)) (m:=(zn p0.Net.Nodes)) (w:=1) (bytes:=8) [] true kr kr gE kr h k) <| hlp 2 (fun s1=>⟨Qis++[(4,.ref 4 0 s1.2.2.length),(5,vI s1.1)],[oX true true 1 (vI s1.2.1),(Qjh p0),oX true false 1 (z1 p1),Qiu,oR true 1 eI s1.2.2],61⟩) (fun v=>(.ret,⟨[],[oX true true 1 (vI v),(Qjh p0),oX true false 1 (z1 p1),Qiu],61⟩)) (wz [4]) (fun s1=>?_) fun x43=>?_
 ·refine hcl 2 [F eI s1.2.2] (Qes s1.2.2 p1) fun x2 _=>hbr 1 [16,17] (?_) ?_
  ·refine hcl 4 [F eI s1.2.2] (K0 p0 s1.2.2) fun x6 _=>hyl 2 <| hop 0 (fun _=>sgL false [] [] false gE) <| hlp 13 (fun s8=>⟨Qis++[(4,.ref 4 0 s8.2.length),(5,vI s1.1),(6,vI s8.1)],[oX true true 1 (vI (zw (s1.2.1+x6))),(Qjh p0),oX true false 1 (z1 p1),Qiu,oR true 1 eI s8.2],61⟩) (fun v=>(.exit 2,⟨Qis++[(4,.ref 4 0 v.2.length),(5,vI s1.1),(6,vI v.1)],[oX true true 1 (vI (zw (s1.2.1+x6))),(Qjh p0),oX true false 1 (z1 p1),Qiu,oR true 1 eI v.2],61⟩)) (wz [4]) (fun s8=>?_) fun x19=>?_
   ·refine hbr 4 [32,33] (?_) ?_
    ·refine hbd fun a11 q12=>hop 2 (fun _=>Qr (enc:=eI) (l:=s8.2) (n:=s8.1) (w:=1) (ob:=4) (ro:=false) (nr:=true) (fl:=true) (a:=a11) kr kr gE q12) <| hop 0 (fun _=>Zh (enc:=eI) (l:=s8.2) (n:=s8.1) (w:=1) (ob:=4) (c:=0) (bx:=false) (ro:=false) (nr:=true) (fl:=true) (a:=a11) kr kr q12 gE) <| hbd fun a13 q14=>hop 4 (fun _=>Qi (enc:=Aj) (l:=p0.Net.Nodes) (n:=s8.1) (fl:=false) (w:=3) (a:=a13) kr kr gE q14) <| hbr 5 [46,47] (?_) ?_
     ·refine hop 3 (fun _=>Qr (enc:=eI) (l:=s8.2) (n:=s8.1) (w:=1) (ob:=4) (ro:=false) (nr:=true) (fl:=true) (a:=a11) kr kr gE q12) <| hop 0 (fun _=>Zo (enc:=eI) (l:=s8.2) (n:=s8.1) (ob:=4) (w:=1) (bx:=false) (nr:=true) (fl:=true) (c:=0) (a:=a11) (a':=0) (v:=vI 0) false kr kr q12 kr kr kr gE kr) <| hkl 0 [4,34,48] (ls s8.2 (zt s8.1) 0) <| hnx 3 (wz [4])
     refine hdx 1 (wz [4])
    refine hdx 15 (wz [4])
   refine hbr 2 [54] (hdx 1 (wz [])) <| ?_
   refine hbd fun a22 q23=>hop 3 (fun _=>Qr (enc:=eI) (l:=x19.2) (n:=x19.1) (w:=1) (ob:=4) (ro:=false) (nr:=true) (fl:=true) (a:=a22) kr kr gE q23) <| hop 0 (fun _=>Zh (enc:=eI) (l:=x19.2) (n:=x19.1) (w:=1) (ob:=4) (c:=0) (bx:=false) (ro:=false) (nr:=true) (fl:=true) (a:=a22) kr kr q23 gE) <| hop 1 (fun _=>Qr (enc:=eI) (l:=x19.2) (n:=x19.1) (w:=1) (ob:=4) (ro:=false) (nr:=true) (fl:=true) (a:=a22) kr kr gE q23) <| hop 0 (fun _=>Zo (enc:=eI) (l:=x19.2) (n:=x19.1) (ob:=4) (w:=1) (bx:=false) (nr:=true) (fl:=true) (c:=0) (a:=a22) (a':=zw (a22+1)) (v:=vI (zw (a22+1))) false kr kr q23 kr kr kr gE kr) <| hkl 0 [4,55] (ls x19.2 (zt x19.1) (zw (a22+1))) <| hnx 3 (wz [4])
  refine hlp 15 (fun s25=>⟨Qis++[(4,.ref 4 0 s25.2.length),(5,vI s1.1),(6,vI s25.1)],[oX true true 1 (vI s1.2.1),(Qjh p0),oX true false 1 (z1 p1),Qiu,oR true 1 eI s25.2],61⟩) (fun v=>(.exit 2,⟨Qis++[(4,.ref 4 0 v.2.length),(5,vI s1.1),(6,vI v.1)],[oX true true 1 (vI s1.2.1),(Qjh p0),oX true false 1 (z1 p1),Qiu,oR true 1 eI v.2],61⟩)) (wz [4]) (fun s25=>?_) fun x36=>?_
  ·refine hbr 4 [32,33] (?_) ?_
   ·refine hbd fun a28 q29=>hop 2 (fun _=>Qr (enc:=eI) (l:=s25.2) (n:=s25.1) (w:=1) (ob:=4) (ro:=false) (nr:=true) (fl:=true) (a:=a28) kr kr gE q29) <| hop 0 (fun _=>Zh (enc:=eI) (l:=s25.2) (n:=s25.1) (w:=1) (ob:=4) (c:=0) (bx:=false) (ro:=false) (nr:=true) (fl:=true) (a:=a28) kr kr q29 gE) <| hbd fun a30 q31=>hop 4 (fun _=>Qi (enc:=Aj) (l:=p0.Net.Nodes) (n:=s25.1) (fl:=false) (w:=3) (a:=a30) kr kr gE q31) <| hbr 5 [46,47] (?_) ?_
    ·refine hop 3 (fun _=>Qr (enc:=eI) (l:=s25.2) (n:=s25.1) (w:=1) (ob:=4) (ro:=false) (nr:=true) (fl:=true) (a:=a28) kr kr gE q29) <| hop 0 (fun _=>Zo (enc:=eI) (l:=s25.2) (n:=s25.1) (ob:=4) (w:=1) (bx:=false) (nr:=true) (fl:=true) (c:=0) (a:=a28) (a':=0) (v:=vI 0) false kr kr q29 kr kr kr gE kr) <| hkl 0 [4,34,48] (ls s25.2 (zt s25.1) 0) <| hnx 3 (wz [4])
    refine hdx 1 (wz [4])
   refine hdx 15 (wz [4])
  refine hbr 2 [54] (hdx 1 (wz [])) <| ?_
  refine hbd fun a39 q40=>hop 3 (fun _=>Qr (enc:=eI) (l:=x36.2) (n:=x36.1) (w:=1) (ob:=4) (ro:=false) (nr:=true) (fl:=true) (a:=a39) kr kr gE q40) <| hop 0 (fun _=>Zh (enc:=eI) (l:=x36.2) (n:=x36.1) (w:=1) (ob:=4) (c:=0) (bx:=false) (ro:=false) (nr:=true) (fl:=true) (a:=a39) kr kr q40 gE) <| hop 1 (fun _=>Qr (enc:=eI) (l:=x36.2) (n:=x36.1) (w:=1) (ob:=4) (ro:=false) (nr:=true) (fl:=true) (a:=a39) kr kr gE q40) <| hop 0 (fun _=>Zo (enc:=eI) (l:=x36.2) (n:=x36.1) (ob:=4) (w:=1) (bx:=false) (nr:=true) (fl:=true) (c:=0) (a:=a39) (a':=zw (a39+1)) (v:=vI (zw (a39+1))) false kr kr q40 kr kr kr gE kr) <| hkl 0 [4,55] (ls x36.2 (zt x36.1) (zw (a39+1))) <| hnx 3 (wz [4])
 refine hrt 3
theorem Qo0 (p0:Qd) (p1:(List Int)):Ct Tryd.prog 17 [.agg [vI p0.Grain,eL false Aj p0.Nodes],z1 p1] (Qal p0 p1) (fun x=>.tup [.agg [vI x.1.N,vI x.1.D],vI x.2]) (fun x=>[]):=by
 refine hfn [] Tryd.func17 <| hop 0 (fun _=>sgL false [] [] false gE) <| hop 4 (fun _=>sgL false [] [.lst true] false gE) <| hcl 0 [] (g_joint_ask_ok p0 [p1]) fun x1 _=>hop 3 (fun _=>sgL false [] [] false gE) <| hbr 4 [17] (hrt 6) <| ?_
 refine hcl 2 [] (Qqi p0) fun x5 _=>hbr 7 [26] (hrt 6) <| ?_
 refine hcl 3 [] (Qgy x1.1 p1) fun x9 _=>hcl 1 [] (g_frac_Make_ok x9 x5.1) fun x11 _=>hrt 5
noncomputable abbrev Qwl (p0:Qd):AObj:=oX true false 2 (.agg [vI p0.Grain,eL false Aj p0.Nodes])
noncomputable abbrev Qwp (p1:(List Int)):AObj:=.row false true true false 1 [z1 p1]
noncomputable abbrev Qi5 (x1:(Qv × Int)):AObj:=oX true false 4 (.agg [vI x1.1.Net.Grain,eL false Aj x1.1.Net.Nodes,eL false Q5 x1.1.factors,z2 x1.1.steps])
noncomputable abbrev Q4h:AObj:=oX false false 1 (.mp 8)
noncomputable abbrev Q4g (p1:(List Int)):AObj:=oX true false 1 (z1 p1)
noncomputable abbrev Qgg:AObj:=.loop 42 [(2,.ptr 3 0 0),(6,.ptr 4 0 0),(7,.ptr 5 0 0),(14,.fn (.func 137) [] [.ptr 6 0 0,.ptr 7 0 0])] [15] (cA Tryd.f59 [true,true,false,true,true]) (cB Tryd.f59 [true,true,false,true,true]) .ready none
noncomputable abbrev Qp8:AObj:=.loop 42 [(2,.ptr 3 0 0),(6,.ptr 4 0 0),(7,.ptr 5 0 0),(14,.fn (.func 137) [] [.ptr 6 0 0,.ptr 7 0 0])] [15] (cA Tryd.f59 [true,true,false,true,true]) (cB Tryd.f59 [true,true,false,true,true]) .busy none
noncomputable abbrev Qa9 (a0:AObj) (p0:Qd) (p1:(List Int)) (x1:(Qv × Int)):List AObj:=[(Qwl p0),(Qwp p1),(Qi5 x1),(Qi5 x1),Q4h,a0,(Qi5 x1),(Q4g p1)]
noncomputable abbrev l72_109 (p0:Qd) (p1:(List Int)) (x1:(Qv × Int)) (x58:(Int × (List (Ag × Int)))):List AObj:=[(Qwl p0),(Qwp p1),(Qi5 x1),(Qi5 x1),oX false false 1 (.mp 6),oX true true 1 (vI x58.1),Ze Am eI x58.2]
noncomputable abbrev Qiq:List (Nat×AV):=[(0,.yld 9),(1,.ptr 6 0 0),(2,.ptr 7 0 0)]
theorem Qjp (p0:Qd) (p1:(List Int)) (p2:Int):Ct Tryd.prog 19 [.agg [vI p0.Grain,eL false Aj p0.Nodes],z1 p1,vI p2] (Vn p0 p1 p2) (fun x=>.tup [.ref 0 0 x.1.length,vI x.2]) (fun x=>[oR true 2 Ak x.1]):=by
 refine hfn [] Tryd.func19 <| hop 0 (fun _=>sgL false [] [] false gE) <| hop 4 (fun _=>sgL false [] [.lst true] false gE) <| hcl 0 [] (g_joint_ask_ok p0 [p1]) fun x1 _=>hop 3 (fun _=>sgL false [] [] false gE) <| hbr 4 [19] (hwk 4 (wl [6,7] []) <| hwk 0 (Xb 6 2 true true gE) <| hrt 1) <| ?_
 refine hbr 4 [22,23] (hwk 10 (wl [6,7] []) <| hwk 0 (Xb 6 2 true true gE) <| hrt 1) <| ?_
 refine hop 4 (fun _=>Qs (enc:=Aj) (l:=x1.1.Net.Nodes) (fl:=false) kr gE) <| hbr 2 [29,30] (hwk 3 (wl [6,7] []) <| hwk 0 (Xb 6 2 true true gE) <| hrt 1) <| ?_
 refine hil 3 Tryd.func59 <| hop 0 (fun _=>sgL false [] [] false gE) <| hop 3 (fun _=>sgL false [] [] false gE) <| hil 5 Tryd.func101 <| hop 0 (fun _=>sgL false [] [] false gE) <| hop 0 (fun _=>sgL false [] [] false gE) <| hwk 3 (wk_gcK (live:=[4]) (keep:=[7,8]) 4 Am eI [] (fun f a=>rfl) (fun f a=>rfl) kr gE) <| hwk 1 (wk_gcK (live:=[2,6,7,14]) (keep:=[3,5,6,7,8,4]) 4 Am eI [] (fun f a=>rfl) (fun f a=>rfl) kr gE) <| hrg 0 Tryd.func137 <| ?_
 refine hop 3 (fun _=>Qs (enc:=Aj) (l:=x1.1.Net.Nodes) (fl:=false) kr gE) <| hoh 0 (fun _ _ h k=>mkL (enc:=eI) (z:=(0:Int)) (z0:=vI 0) (n:=(zn x1.1.Net.Nodes)) (m:=(zn x1.1.Net.Nodes)) (w:=1) (bytes:=8) [] true kr kr gE kr h k) <| hlp 2 (fun s9=>⟨Qiq++[(4,.ref 10 0 s9.2.2.2.length),(5,vI s9.1)],(Qa9 (oX true true 1 (vI s9.2.1)) p0 p1 x1)++[Ze Am eI s9.2.2.1,Qgg,oR true 1 eI s9.2.2.2],61⟩) (fun v=>(.ret,⟨[],(Qa9 (oX true true 1 (vI v.1)) p0 p1 x1)++[Ze Am eI v.2,Qgg],61⟩)) (wk_gcK (live:=[0,1,2,4,5]) (keep:=[10]) 8 Am eI [] (fun f a=>rfl) (fun f a=>rfl) kr kr) (fun s9=>?_) fun x58=>?_
 ·refine hcl 2 [F eI s9.2.2.2] (Qes s9.2.2.2 p1) fun x10 _=>hbr 1 [16,17] (?_) ?_
  ·refine hcl 4 [F eI s9.2.2.2] (K0 x1.1 s9.2.2.2) fun x14 _=>hyl 2 <| hop 0 (fun _=>sgL false [] [] false gE) <| hlp 10 (fun s16=>⟨[(6,.ptr 4 0 0),(8,.ptr 11 0 0),(21,.ref 10 0 s9.2.2.2.length),(22,vI (zn s9.2.2.2)),(23,vI s16.1)],(Qa9 (oX true true 1 (vI (zw (s9.2.1+x14)))) p0 p1 x1)++[Ze Am eI s16.2,Qp8,oR true 1 eI s9.2.2.2,oX false false 3 (.agg [vI s9.1,vI x14,.ref 10 0 s9.2.2.2.length])],42⟩) (fun v=>(.exit 2,⟨[],(Qa9 (oX true true 1 (vI (zw (s9.2.1+x14)))) p0 p1 x1)++[Ze Am eI v,Qp8,oR true 1 eI s9.2.2.2],42⟩)) (wk_gcK (live:=[6,8,21,22,23]) (keep:=[11]) 8 Am eI s9.2.2.1 (fun f a=>rfl) (fun f a=>rfl) kr kr) (fun s16=>?_) fun x22=>?_
   ·refine hbr 1 [24] (?_) ?_
    ·refine hbd fun a19 q20=>hop 2 (fun _=>Qr (enc:=eI) (l:=s9.2.2.2) (n:=s16.1) (w:=1) (ob:=10) (ro:=false) (nr:=true) (fl:=true) (a:=a19) kr kr gE q20) <| hop 0 (fun _=>Zh (enc:=eI) (l:=s9.2.2.2) (n:=s16.1) (w:=1) (ob:=10) (c:=0) (bx:=false) (ro:=false) (nr:=true) (fl:=true) (a:=a19) kr kr q20 gE) <| htw 2 4 8 [0,1,2,3,4,5,6,7,8,9,10] [0,1,2,3,5,6,8,4,7,9,10] (⟨[(6,.ptr 4 0 0),(8,.ptr 11 0 0),(21,.ref 10 0 s9.2.2.2.length),(22,vI (zn s9.2.2.2)),(23,vI s16.1)],(Qa9 (oX true true 1 (vI (zw (s9.2.1+x14)))) p0 p1 x1)++[Ze Am eI (kput Ap s16.2 (Ag.mk s16.1 a19) (zw (((kget Ap s16.2 (Ag.mk s16.1 a19)).getD 0)+x14))),Qp8,oR true 1 eI s9.2.2.2,oX false false 3 (.agg [vI s9.1,vI x14,.ref 10 0 s9.2.2.2.length])],42⟩) ?_ ?_ ?_
     ·refine hop 4 (fun _=>Qsq (ob:=8) (kt:=185) (c:=false) (ke:=Am) (enc:=eI) (e:=Ap) (l:=s16.2) (n:=(Ag.mk s16.1 a19)) (z:=0) kr (fun _ _=>by kernel_rfl) kr (fun _=>rfl) gE) <| hop 3 (fun _=>Q6k (ob:=8) (kt:=185) (ke:=Am) (enc:=eI) (e:=Ap) (l:=s16.2) (n:=(Ag.mk s16.1 a19)) (z:=0) kr (fun _ _=>by kernel_rfl) kr (fun _=>rfl) gE kr) <| hop 1 (fun _=>Q41 (ob:=8) (ke:=Am) (enc:=eI) (e:=Ap) (l:=s16.2) (n:=(Ag.mk s16.1 a19)) (v:=zw (((kget Ap s16.2 (Ag.mk s16.1 a19)).getD 0)+x14)) (w:=(kget Ap s16.2 (Ag.mk s16.1 a19)).getD 0) kr kr gE kr) <| htz 0 (wk_gcK (live:=[6,8,21,22,23]) (keep:=[11]) 8 Am eI (kput Ap s16.2 (Ag.mk s16.1 a19) (zw (((kget Ap s16.2 (Ag.mk s16.1 a19)).getD 0)+x14))) (fun f a=>rfl) (fun f a=>rfl) kr kr)
     ·refine hop 6 (fun _=>Q6k (ob:=8) (kt:=185) (ke:=Am) (enc:=eI) (e:=Ap) (l:=s16.2) (n:=(Ag.mk s16.1 a19)) (z:=0) kr (fun _ _=>by kernel_rfl) kr (fun _=>rfl) gE kr) <| hop 0 (fun _=>Q45 (ob:=8) (kt:=185) (ke:=Am) (enc:=eI) (e:=Ap) (l:=s16.2) (n:=(Ag.mk s16.1 a19)) (z:=0) (w:=(kget Ap s16.2 (Ag.mk s16.1 a19)).getD 0) kr (fun _ _=>by kernel_rfl) kr (fun _=>rfl) (by simp [Ap]) gE) <| hop 2 (fun _=>Q41 (ob:=8) (ke:=Am) (enc:=eI) (e:=Ap) (l:=s16.2) (n:=(Ag.mk s16.1 a19)) (v:=zw (((kget Ap s16.2 (Ag.mk s16.1 a19)).getD 0)+x14)) (w:=(kget Ap s16.2 (Ag.mk s16.1 a19)).getD 0) kr kr gE kr) <| htz 0 (wk_gcK (live:=[6,8,21,22,23]) (keep:=[11]) 8 Am eI (kput Ap s16.2 (Ag.mk s16.1 a19) (zw (((kget Ap s16.2 (Ag.mk s16.1 a19)).getD 0)+x14))) (fun f a=>rfl) (fun f a=>rfl) kr kr)
     refine hnx 2 (wk_gcK (live:=[6,8,21,22,23]) (keep:=[11]) 8 Am eI (kput Ap s16.2 (Ag.mk s16.1 a19) (zw (((kget Ap s16.2 (Ag.mk s16.1 a19)).getD 0)+x14))) (fun f a=>rfl) (fun f a=>rfl) kr kr)
    refine hdx 1 (wk_gcK (live:=[]) (keep:=[]) 8 Am eI s16.2 (fun f a=>rfl) (fun f a=>rfl) kr kr)
   refine hlp 7 (fun s23=>⟨Qiq++[(4,.ref 10 0 s23.2.length),(5,vI s9.1),(6,vI s23.1)],(Qa9 (oX true true 1 (vI (zw (s9.2.1+x14)))) p0 p1 x1)++[Ze Am eI x22,Qgg,oR true 1 eI s23.2],61⟩) (fun v=>(.exit 2,⟨Qiq++[(4,.ref 10 0 v.2.length),(5,vI s9.1),(6,vI v.1)],(Qa9 (oX true true 1 (vI (zw (s9.2.1+x14)))) p0 p1 x1)++[Ze Am eI x22,Qgg,oR true 1 eI v.2],61⟩)) (wk_gcK (live:=[0,1,2,4,5,6]) (keep:=[10]) 8 Am eI x22 (fun f a=>rfl) (fun f a=>rfl) kr kr) (fun s23=>?_) fun x34=>?_
   ·refine hbr 4 [32,33] (?_) ?_
    ·refine hbd fun a26 q27=>hop 2 (fun _=>Qr (enc:=eI) (l:=s23.2) (n:=s23.1) (w:=1) (ob:=10) (ro:=false) (nr:=true) (fl:=true) (a:=a26) kr kr gE q27) <| hop 0 (fun _=>Zh (enc:=eI) (l:=s23.2) (n:=s23.1) (w:=1) (ob:=10) (c:=0) (bx:=false) (ro:=false) (nr:=true) (fl:=true) (a:=a26) kr kr q27 gE) <| hbd fun a28 q29=>hop 4 (fun _=>Qi (enc:=Aj) (l:=x1.1.Net.Nodes) (n:=s23.1) (fl:=false) (w:=3) (a:=a28) kr kr gE q29) <| hbr 5 [46,47] (?_) ?_
     ·refine hop 3 (fun _=>Qr (enc:=eI) (l:=s23.2) (n:=s23.1) (w:=1) (ob:=10) (ro:=false) (nr:=true) (fl:=true) (a:=a26) kr kr gE q27) <| hop 0 (fun _=>Zo (enc:=eI) (l:=s23.2) (n:=s23.1) (ob:=10) (w:=1) (bx:=false) (nr:=true) (fl:=true) (c:=0) (a:=a26) (a':=0) (v:=vI 0) false kr kr q27 kr kr kr gE kr) <| hkl 0 [4,34,48] (ls s23.2 (zt s23.1) 0) <| hnx 3 (wk_gcK (live:=[0,1,2,4,5,6]) (keep:=[10]) 8 Am eI x22 (fun f a=>rfl) (fun f a=>rfl) kr kr)
     refine hdx 1 (wk_gcK (live:=[0,1,2,4,5,6]) (keep:=[10]) 8 Am eI x22 (fun f a=>rfl) (fun f a=>rfl) kr kr)
    refine hdx 15 (wk_gcK (live:=[0,1,2,4,5,6]) (keep:=[10]) 8 Am eI x22 (fun f a=>rfl) (fun f a=>rfl) kr kr)
   refine hbr 2 [54] (hdx 1 (wk_gcK (live:=[]) (keep:=[]) 8 Am eI x22 (fun f a=>rfl) (fun f a=>rfl) kr kr)) <| ?_
   refine hbd fun a37 q38=>hop 3 (fun _=>Qr (enc:=eI) (l:=x34.2) (n:=x34.1) (w:=1) (ob:=10) (ro:=false) (nr:=true) (fl:=true) (a:=a37) kr kr gE q38) <| hop 0 (fun _=>Zh (enc:=eI) (l:=x34.2) (n:=x34.1) (w:=1) (ob:=10) (c:=0) (bx:=false) (ro:=false) (nr:=true) (fl:=true) (a:=a37) kr kr q38 gE) <| hop 1 (fun _=>Qr (enc:=eI) (l:=x34.2) (n:=x34.1) (w:=1) (ob:=10) (ro:=false) (nr:=true) (fl:=true) (a:=a37) kr kr gE q38) <| hop 0 (fun _=>Zo (enc:=eI) (l:=x34.2) (n:=x34.1) (ob:=10) (w:=1) (bx:=false) (nr:=true) (fl:=true) (c:=0) (a:=a37) (a':=zw (a37+1)) (v:=vI (zw (a37+1))) false kr kr q38 kr kr kr gE kr) <| hkl 0 [4,55] (ls x34.2 (zt x34.1) (zw (a37+1))) <| hnx 3 (wk_gcK (live:=[0,1,2,4,5]) (keep:=[10]) 8 Am eI x22 (fun f a=>rfl) (fun f a=>rfl) kr kr)
  refine hlp 15 (fun s40=>⟨Qiq++[(4,.ref 10 0 s40.2.length),(5,vI s9.1),(6,vI s40.1)],(Qa9 (oX true true 1 (vI s9.2.1)) p0 p1 x1)++[Ze Am eI s9.2.2.1,Qgg,oR true 1 eI s40.2],61⟩) (fun v=>(.exit 2,⟨Qiq++[(4,.ref 10 0 v.2.length),(5,vI s9.1),(6,vI v.1)],(Qa9 (oX true true 1 (vI s9.2.1)) p0 p1 x1)++[Ze Am eI s9.2.2.1,Qgg,oR true 1 eI v.2],61⟩)) (wk_gcK (live:=[0,1,2,4,5,6]) (keep:=[10]) 8 Am eI s9.2.2.1 (fun f a=>rfl) (fun f a=>rfl) kr kr) (fun s40=>?_) fun x51=>?_
  ·refine hbr 4 [32,33] (?_) ?_
   ·refine hbd fun a43 q44=>hop 2 (fun _=>Qr (enc:=eI) (l:=s40.2) (n:=s40.1) (w:=1) (ob:=10) (ro:=false) (nr:=true) (fl:=true) (a:=a43) kr kr gE q44) <| hop 0 (fun _=>Zh (enc:=eI) (l:=s40.2) (n:=s40.1) (w:=1) (ob:=10) (c:=0) (bx:=false) (ro:=false) (nr:=true) (fl:=true) (a:=a43) kr kr q44 gE) <| hbd fun a45 q46=>hop 4 (fun _=>Qi (enc:=Aj) (l:=x1.1.Net.Nodes) (n:=s40.1) (fl:=false) (w:=3) (a:=a45) kr kr gE q46) <| hbr 5 [46,47] (?_) ?_
    ·refine hop 3 (fun _=>Qr (enc:=eI) (l:=s40.2) (n:=s40.1) (w:=1) (ob:=10) (ro:=false) (nr:=true) (fl:=true) (a:=a43) kr kr gE q44) <| hop 0 (fun _=>Zo (enc:=eI) (l:=s40.2) (n:=s40.1) (ob:=10) (w:=1) (bx:=false) (nr:=true) (fl:=true) (c:=0) (a:=a43) (a':=0) (v:=vI 0) false kr kr q44 kr kr kr gE kr) <| hkl 0 [4,34,48] (ls s40.2 (zt s40.1) 0) <| hnx 3 (wk_gcK (live:=[0,1,2,4,5,6]) (keep:=[10]) 8 Am eI s9.2.2.1 (fun f a=>rfl) (fun f a=>rfl) kr kr)
    refine hdx 1 (wk_gcK (live:=[0,1,2,4,5,6]) (keep:=[10]) 8 Am eI s9.2.2.1 (fun f a=>rfl) (fun f a=>rfl) kr kr)
   refine hdx 15 (wk_gcK (live:=[0,1,2,4,5,6]) (keep:=[10]) 8 Am eI s9.2.2.1 (fun f a=>rfl) (fun f a=>rfl) kr kr)
  refine hbr 2 [54] (hdx 1 (wk_gcK (live:=[]) (keep:=[]) 8 Am eI s9.2.2.1 (fun f a=>rfl) (fun f a=>rfl) kr kr)) <| ?_
  refine hbd fun a54 q55=>hop 3 (fun _=>Qr (enc:=eI) (l:=x51.2) (n:=x51.1) (w:=1) (ob:=10) (ro:=false) (nr:=true) (fl:=true) (a:=a54) kr kr gE q55) <| hop 0 (fun _=>Zh (enc:=eI) (l:=x51.2) (n:=x51.1) (w:=1) (ob:=10) (c:=0) (bx:=false) (ro:=false) (nr:=true) (fl:=true) (a:=a54) kr kr q55 gE) <| hop 1 (fun _=>Qr (enc:=eI) (l:=x51.2) (n:=x51.1) (w:=1) (ob:=10) (ro:=false) (nr:=true) (fl:=true) (a:=a54) kr kr gE q55) <| hop 0 (fun _=>Zo (enc:=eI) (l:=x51.2) (n:=x51.1) (ob:=10) (w:=1) (bx:=false) (nr:=true) (fl:=true) (c:=0) (a:=a54) (a':=zw (a54+1)) (v:=vI (zw (a54+1))) false kr kr q55 kr kr kr gE kr) <| hkl 0 [4,55] (ls x51.2 (zt x51.1) (zw (a54+1))) <| hnx 3 (wk_gcK (live:=[0,1,2,4,5]) (keep:=[10]) 8 Am eI s9.2.2.1 (fun f a=>rfl) (fun f a=>rfl) kr kr)
 refine hbr 2 [40] (hwk 3 (wl [4,5] []) <| hwk 12 (wl [6,7] []) <| hwk 0 (Xb 6 2 true true gE) <| hrt 1) <| ?_
 refine hwk 4 (wk_gcK (live:=[4,5]) (keep:=[3,4,5,8]) 8 Am eI x58.2 (fun f a=>rfl) (fun f a=>rfl) kr gE) <| hil 11 Tryd.func102 <| hbd fun a61 q62=>hop 6 (fun _=>Qi (enc:=Aj) (l:=x1.1.Net.Nodes) (n:=p2) (fl:=false) (w:=3) (a:=a61) kr kr gE q62) <| hoh 2 (fun _ _ h k=>mkL (enc:=Ak) (z:=((Ql.mk 0 0):Ql)) (z0:=.agg [vI 0,vI 0]) (n:=a61.Card) (m:=a61.Card) (w:=2) (bytes:=16) [] true kr kr gE kr h k) <| hlp 4 (fun s63=>⟨[(0,vI p2),(2,.ptr 4 0 0),(3,.ptr 5 0 0),(7,.ref 7 0 s63.2.length),(20,vI (((List.replicate (zt a61.Card) ((Ql.mk 0 0):Ql)).length):Int)),(21,vI s63.1)],(l72_109 p0 p1 x1 x58)++[oR true 2 Ak s63.2],43⟩) (fun x=>match x with | .inl v=>(.ret,⟨[(5,.nils),(6,vI v)],(l72_109 p0 p1 x1 x58),43⟩) | .inr v=>(.exit 0,⟨[(7,.ref 7 0 v.length)],(l72_109 p0 p1 x1 x58)++[oR true 2 Ak v],43⟩)) (wk_gcK (live:=[0,2,3,7,20,21]) (keep:=[7]) 6 Am eI x58.2 (fun f a=>rfl) (fun f a=>rfl) kr kr) (fun s63=>?_) (hsm (fun x74=>?_) (fun x75=>?_))
 ·refine hbr 1 [22] (?_) ?_
  ·refine hop 8 (fun _=>Qsq (ob:=6) (kt:=185) (c:=false) (ke:=Am) (enc:=eI) (e:=Ap) (l:=x58.2) (n:=(Ag.mk p2 s63.1)) (z:=0) kr (fun _ _=>by kernel_rfl) kr (fun _=>rfl) gE) <| hcl 1 [] (g_frac_Make_ok ((kget Ap x58.2 (Ag.mk p2 s63.1)).getD 0) x58.1) fun x66 _=>hbr 8 [35] (hdx 4 (wk_gcK (live:=[5,6]) (keep:=[]) 6 Am eI x58.2 (fun f a=>rfl) (fun f a=>rfl) kr kr)) <| ?_
   refine hbd fun a70 q71=>hop 4 (fun _=>Qr (enc:=Ak) (l:=s63.2) (n:=s63.1) (w:=2) (ob:=7) (ro:=false) (nr:=true) (fl:=true) (a:=a70) kr kr gE q71) <| hop 0 (fun _=>Zo (enc:=Ak) (l:=s63.2) (n:=s63.1) (ob:=7) (w:=2) (bx:=false) (nr:=true) (fl:=true) (c:=0) (a:=a70) (a':=x66.1) (v:=.agg [vI x66.1.N,vI x66.1.D]) false kr kr q71 kr kr kr gE kr) <| hkl 0 [7,37] (ls s63.2 (zt s63.1) x66.1) <| hnx 2 (wk_gcK (live:=[0,2,3,7,20,21]) (keep:=[7]) 6 Am eI x58.2 (fun f a=>rfl) (fun f a=>rfl) kr kr)
  refine hdx 1 (wk_gcK (live:=[7]) (keep:=[7]) 6 Am eI x58.2 (fun f a=>rfl) (fun f a=>rfl) kr kr)
 ·refine hwk 4 (wl [6,7] []) <| hwk 0 (Xb 6 2 true true gE) <| hrt 1
 refine hwk 3 (wk_gcK (live:=[5,6]) (keep:=[7]) 6 Am eI x58.2 (fun f a=>rfl) (fun f a=>rfl) kr gE) <| hrt 6
theorem g_law32_ActCuts_ok (p0:Qe) (p1:Af) (p2:Af) (p3:Int):Ct Tryd.prog 3 [.agg [.int .u8 p0.Grain,eL false Al p0.Nodes,eL true (AV.int .u8) p0.Order],.agg [.int .u8 p1.Which,.int .u8 p1.V.1,.int .u8 p1.V.2.1,.int .u8 p1.V.2.2.1,.int .u8 p1.V.2.2.2.1,.int .u8 p1.V.2.2.2.2.1,.int .u8 p1.V.2.2.2.2.2.1,.int .u8 p1.V.2.2.2.2.2.2.1,.int .u8 p1.V.2.2.2.2.2.2.2],.agg [.int .u8 p2.Which,.int .u8 p2.V.1,.int .u8 p2.V.2.1,.int .u8 p2.V.2.2.1,.int .u8 p2.V.2.2.2.1,.int .u8 p2.V.2.2.2.2.1,.int .u8 p2.V.2.2.2.2.2.1,.int .u8 p2.V.2.2.2.2.2.2.1,.int .u8 p2.V.2.2.2.2.2.2.2],.int .u8 p3] (Qdr p0 p1 p2 p3) (fun x=>vB x) (fun x=>[]):=by
 refine hfn [] Tryd.func3 <| hop 0 (fun _=>sgL false [] [] false gE) <| hcl 3 [] (g_law32_works_ok ) fun x1 _=>hbr 1 [26] (hrt 3) <| ?_
 refine hcl 2 [] (Qjw p0) fun x5 _=>hop 0 (fun _=>sgL false [] [] false gE) <| hcl 4 [F Aj x5.Nodes] (g_ref05_Known_Of_ok (Af.mk p1.Which (p1.V.1,p1.V.2.1,p1.V.2.2.1,p1.V.2.2.2.1,p1.V.2.2.2.2.1,p1.V.2.2.2.2.2.1,p1.V.2.2.2.2.2.2.1,p1.V.2.2.2.2.2.2.2)) x5) fun x7 _=>hcl 2 [F Aj x5.Nodes] (g_ref05_Known_Of_ok (Af.mk p2.Which (p2.V.1,p2.V.2.1,p2.V.2.2.1,p2.V.2.2.2.1,p2.V.2.2.2.2.1,p2.V.2.2.2.2.2.1,p2.V.2.2.2.2.2.2.1,p2.V.2.2.2.2.2.2.2)) x5) fun x9 _=>hcl 4 [F Aj x5.Nodes,F eI x7] (g_act_Do_ok x5 x7) fun x11 _=>hop 3 (fun _=>sgL false [] [] false gE) <| hbr 5 [42,43] (hrt 16) <| ?_
 refine hcl 1 [F Aj x11.1.Nodes] (g_net_Check_ok x11.1) fun x15 _=>hbr 3 [46,47,48] (hrt 11) <| ?_
 refine hbr 8 [55,56] (hrt 3) <| ?_
 refine hcl 4 [F Aj x5.Nodes,F eI x7,F eI x9] (g_act_Chance_ok x5 x7 x9) fun x21 _=>hcl 8 [F Aj x11.1.Nodes,F eI x9] (Qo0 x11.1 x9) fun x23 _=>hoh 11 (fun _ _ h k=>Qc2 (k:=.i64) (a:=zw (p3)) (b:=(zn x5.Nodes)) kr gE h k) <| hcl 5 [F Aj x5.Nodes,F eI x7,F eI x9] (g_act_Effect_ok x5 x7 x9 (Int.tmod (zw (p3)) (zn x5.Nodes))) fun x25 _=>hcl 8 [F Aj x11.1.Nodes,F eI x9] (Qjp x11.1 x9 (Int.tmod (zw (p3)) (zn x5.Nodes))) fun x27 _=>hbr 8 [92,93] (hrt 38) <| ?_
 refine hbr 4 [95,96,97] (hrt 34) <| ?_
 refine hbr 5 [100,101,102] (hrt 29) <| ?_
 refine hbr 5 [105,106,107] (hrt 24) <| ?_
 refine hcl 2 [F Ak x25.1,F Ak x27.1] (Qg2 x25.1 x27.1) fun x37 _=>hbr 3 [111,112,113] (hrt 18) <| ?_
 refine hbr 8 [119,120,121] (hrt 10) <| ?_
 refine hbr 3 [123,124] (?_) ?_
 ·refine hbr 4 [126,127,128] (hrt 3) <| ?_
  refine hcl 3 [F Aj x11.1.Nodes,F eI x7] (g_act_Do_ok x11.1 x7) fun x47 _=>hop 3 (fun _=>sgL false [] [] false gE) <| hbr 5 [136,137] (hcl 2 [F Aj x47.1.Nodes,F Aj x11.1.Nodes] (g_law32_sameNet_ok x47.1 x11.1) fun x51 _=>hrt 3) <| ?_
  refine hrt 6
 refine hcl 7 [F Aj x11.1.Nodes,F eI x7] (g_act_Do_ok x11.1 x7) fun x53 _=>hop 3 (fun _=>sgL false [] [] false gE) <| hbr 5 [136,137] (hcl 2 [F Aj x53.1.Nodes,F Aj x11.1.Nodes] (g_law32_sameNet_ok x53.1 x11.1) fun x57 _=>hrt 3) <| ?_
 refine hrt 6
end
end Go.Ab
namespace Go.Ab
open Go
theorem Vx {σ ρ:Type} {body:σ->Option (Qg σ ρ)} (I:σ->Prop) (m:σ->Nat) (Q:ρ->Prop)
  (step:∀s,I s->(∃s',body s=some (.next s')/\I s'/\m s' < m s)\/(∃r,body s=some (.done r)/\Q r)) :
  ∀(n:Nat) (s:σ),I s->m s < n->∃r,Qc n body s=some r/\Q r
 | 0,s,_,h=>by omega
 | n+1,s,hI,h=>by
  unfold Qc
  rcases step s hI with ⟨s',h1,h2,h3⟩ | ⟨r,h1,h2⟩
  ·rw [h1]
   exact Vx I m Q step n s' h2 (by omega)
  rw [h1]
  exact ⟨r,rfl,h2⟩
theorem Qq2 {σ ρ:Type} {body:σ->Option (Qg σ ρ)} (I:σ->Prop) (m:σ->Nat) (r:ρ)
  (step:∀s,I s->(∃s',body s=some (.next s')/\I s'/\m s' < m s)\/body s=some (.done r)) (s:σ) (hI:I s) (hm:m s < 1152921504606846976):Qc fuel body s=some r:=by
 obtain ⟨r',h1,h2⟩:=Vx I m (fun x=>x=r) (fun s hs=>(step s hs).imp id fun h=>⟨r,h,rfl⟩) fuel s hI hm
 rw [h1,h2]
theorem Vy {σ ρ:Type} {body:σ->Option (Qg σ ρ)} (I:σ->Prop) (m:σ->Nat) (Q:ρ->Prop)
  (step:∀s,I s->(∃s',body s=some (.next s')/\I s'/\m s' < m s)\/(∃r,body s=some (.done r)/\Q r)) (s:σ) (hI:I s) (hm:m s < 1152921504606846976):∃r,Qc fuel body s=some r/\Q r :=
 Vx I m Q step fuel s hI hm
theorem Qtj {σ ρ:Type} {body:σ->Option (Qg σ ρ)} (f:Nat -> σ) (n:Nat) (r:ρ) (step:∀k,k < n->body (f k)=some (.next (f (k+1)))) (done:body (f n)=some (.done r)) (hn:n < 1152921504606846976) :
  Qc fuel body (f 0)=some r:=by
 have key:∀(j N k:Nat),k+j=n->j < N->Qc N body (f k)=some r:=by
  intro j
  induction j with
  | zero =>
   intro N k hk hN
   obtain ⟨N,rfl⟩:∃M,N=M+1:=⟨N - 1,by omega⟩
   have:k=n:=by omega
   subst this
   simp [Qc,done]
  | succ j ih =>
   intro N k hk hN
   obtain ⟨N,rfl⟩:∃M,N=M+1:=⟨N - 1,by omega⟩
   simp only [Qc,step k (by omega)]
   exact ih N (k+1) (by omega) (by omega)
 exact key n fuel 0 (by omega) hn
theorem Xx {σ ρ:Type} {body:σ->Option (Qg σ ρ)} {s0:σ} (f:Nat -> σ) (n:Nat) (r:ρ) (h0:f 0=s0) (step:∀k,k < n->body (f k)=some (.next (f (k+1)))) (done:body (f n)=some (.done r)) (hn:n < 1152921504606846976) :
  Qc fuel body s0=some r:=by rw [<-h0]; exact Qtj f n r step done hn
theorem w64 {n:Int} (h:-9223372036854775808<=n/\n<=9223372036854775807):zw n=n:=by show IntKind.wrap .i64 n=n; rw [IntKind.wrap_i64]; omega
theorem Q6v {α:Type} {l:List α} {n:Int} (h:0<=n) (h2:n < l.length):lkI l n=some (l[n.toNat]'(by omega)):=by
 unfold lkI
 rw [aI (by omega),aG]
theorem Xo {α:Type} {l:List α} {k:Nat} (h:k < l.length):lkI l (k:Int)=some l[k]:=by
 unfold lkI
 rw [aI (by omega),aP,aG h]
theorem Qn5 {a b:Int} (h:0<=a):Int.tdiv a b=a / b:=Int.tdiv_eq_ediv_of_nonneg h
theorem Kw {a b:Int} (h:0<=a):Int.tmod a b=a % b:=Int.tmod_eq_emod_of_nonneg h
def dgs (n:Nat):List Int:=if h:n=0 then [] else ((n % 10000:Nat):Int)::dgs (n / 10000)
termination_by n
decreasing_by omega
def Qqp:List Int->Nat
 | []=>0
 | x::l=>x.toNat + 10000*Qqp l
def Qtx (l:List Int):Prop:=∀x∈l,0<=x/\x < 10000
theorem Qke:dgs 0=[]:=by rw [dgs]; simp
theorem Qqs {n:Nat} (h:n≠0):dgs n=((n % 10000:Nat):Int)::dgs (n / 10000):=by rw [dgs]; simp [h]
theorem Q1g (n:Nat):Qqp (dgs n)=n:=by
 induction n using Nat.strongRecOn with
 | _ n ih =>
  by_cases h:n=0
  ·subst h; rw [Qke]; rfl
  rw [Qqs h]
  simp only [Qqp]
  rw [ih (n / 10000) (by omega)]
  omega
theorem Q17 (n:Nat):Qtx (dgs n):=by
 induction n using Nat.strongRecOn with
 | _ n ih =>
  by_cases h:n=0
  ·subst h; rw [Qke]; intro x hx; cases hx
  rw [Qqs h]
  intro x hx
  rcases bY.1 hx with rfl | hx
  ·omega
  exact ih (n / 10000) (by omega) x hx
theorem Q0i {x:Int} {l:List Int}:Qtx (x::l)↔(0<=x/\x < 10000)/\Qtx l:=by simp [Qtx]
theorem Q3u {l:List Int} (h:Qtx l):Qqp l < 10000^l.length:=by
 induction l with
 | nil=>simp [Qqp]
 | cons x l ih =>
  rw [Q0i] at h
  have:=ih h.2
  simp only [Qqp,dC,Nat.pow_succ]
  omega
theorem Qe3 {n K:Nat} (h:n < 10000^K):(dgs n).length<=K:=by
 induction K generalizing n with
 | zero=>simp at h; subst h; rw [Qke]; simp
 | succ K ih =>
  by_cases h0:n=0
  ·subst h0; rw [Qke]; simp
  rw [Qqs h0]
  simp only [dC]
  have:=ih (n:=n / 10000) (by rw [Nat.pow_succ] at h; omega)
  omega
theorem Qs2 (n:Nat):n < 10000^(dgs n).length:=by
 have:=Q3u (Q17 n)
 rwa [Q1g] at this
end Go.Ab
namespace Go.Ab
open Go
def msk:Nat -> (Nat -> Bool)->Nat
 | 0,_=>0
 | n+1,p=>msk n p ||| (if p n then 2^n else 0)
theorem Qvu (n:Nat) (p:Nat -> Bool) (i:Nat):(msk n p).testBit i=(decide (i < n) && p i):=by
 induction n with
 | zero=>simp [msk]
 | succ n ih =>
  unfold msk
  rw [Nat.testBit_or,ih]
  by_cases h:i=n
  ·subst h
   cases hp:p i <;> simp [hp]
  have e:decide (i < n+1)=decide (i < n):=by by_cases h2:i < n <;> simp [h2] <;> omega
  rw [e]
  cases hp:p n
  ·simp
  simp only [eC,Nat.testBit_two_pow]
  have e2:¬ n=i:=fun e=>h e.symm
  simp [e2]
theorem Qgo {n:Nat} (h:n < 18446744073709551616):zv (n:Int)=(n:Int):=by
 simp [IntKind.wrap,IntKind.bits,IntKind.signed]; omega
theorem Ql3 {a:Nat} (h:a < 18446744073709551616):(zb (a:Int)).toNat = a:=by
 show (BitVec.ofInt IntKind.u64.bits (a:Int)).toNat = a
 rw [BitVec.ofInt_natCast,BitVec.toNat_ofNat]
 exact Nat.mod_eq_of_lt h
theorem Qub {a k:Nat}:Int.fdiv (a:Int) ((2:Int)^k)=((a / 2^k:Nat):Int):=by
 rw [Int.fdiv_eq_ediv_of_nonneg _ (by exact_mod_cast dV (2^k))]
 simp
theorem Qxq {a k:Nat} (ha:a < 18446744073709551616) (hk:k < 64) :
  zv (zb (Int.fdiv (a:Int) (2^min (Int.toNat (k:Int)) zk)) &&& zb 1).toNat = ((a.testBit k).toNat : Int):=by
 have hb:zk=64:=rfl
 have e0:min (Int.toNat (k:Int)) zk=k:=by rw [hb,aP]; omega
 rw [e0,Qub]
 have h1:a / 2^k < 18446744073709551616:=Nat.lt_of_le_of_lt (Nat.div_le_self _ _) ha
 have e1:(zb ((a / 2^k:Nat):Int) &&& zb 1).toNat = (a / 2^k) % 2:=by
  rw [BitVec.toNat_and,Ql3 h1,show (zb 1).toNat = 1 from rfl,Nat.and_one_is_mod]
 rw [e1,Qgo (by omega)]
 have e2:a.testBit k=((a / 2^k) % 2==1):=by rw [Nat.testBit_eq_decide_div_mod_eq]; rfl
 rw [e2]
 rcases Nat.mod_two_eq_zero_or_one (a / 2^k) with h | h <;> rw [h] <;> rfl
theorem V4 {k:Nat} (h:k < 9223372036854775807):zw ((k:Int)+1)=((k+1:Nat):Int):=by rw [w64 (by omega)]; omega
theorem Qnp {τ ρ σ:Type} {n k0:Nat} (hk:k0<=n) (hn:n < 1152921504606846976) (mkS:Int->τ->σ) {body:σ->Option (Qg σ ρ)} (I:Nat -> τ->Prop) (Q:ρ->Prop)
  (step:∀(k:Nat) (t:τ),k0<=k->k < n->I k t->(∃t',body (mkS (k:Int) t)=some (.next (mkS (zw ((k:Int)+1)) t'))/\I (k+1) t')\/(∃r,body (mkS (k:Int) t)=some (.done r)/\Q r))
  (done:∀t,I n t->∃r,body (mkS (n:Int) t)=some (.done r)/\Q r) (t0:τ) (h0:I k0 t0):∃r,Qc fuel body (mkS (k0:Int) t0)=some r/\Q r:=by
 have key:∀(j N k:Nat) (t:τ),k+j=n->k0<=k->j < N->I k t->∃r,Qc N body (mkS (k:Int) t)=some r/\Q r:=by
  intro j
  induction j with
  | zero =>
   intro N k t e hk hN hI
   obtain ⟨N,rfl⟩:∃M,N=M+1:=⟨N - 1,by omega⟩
   have:k=n:=by omega
   subst this
   obtain ⟨r,b1,b2⟩:=done t hI
   simp only [Qc,b1]
   exact ⟨r,rfl,b2⟩
  | succ j ih =>
   intro N k t e hk hN hI
   obtain ⟨N,rfl⟩:∃M,N=M+1:=⟨N - 1,by omega⟩
   rcases step k t hk (by omega) hI with ⟨t',b1,b2⟩ | ⟨r,b1,b2⟩
   ·rw [V4 (by omega)] at b1
    simp only [Qc,b1]
    exact ih N (k+1) t' (by omega) (by omega) (by omega) b2
   simp only [Qc,b1]
   exact ⟨r,rfl,b2⟩
 exact key (n - k0) fuel k0 t0 (by omega) (aY _) (by show n - k0 < 1152921504606846976; omega) h0
theorem Z7 {τ ρ σ:Type} {n k0:Nat} (hk:k0<=n) (hn:n < 1152921504606846976) (mkS:Int->τ->σ) {body:σ->Option (Qg σ ρ)} (T:Nat -> τ) (r:ρ)
  (step:∀(k:Nat),k0<=k->k < n->body (mkS (k:Int) (T k))=some (.next (mkS (zw ((k:Int)+1)) (T (k+1)))))
  (done:body (mkS (n:Int) (T n))=some (.done r)):Qc fuel body (mkS (k0:Int) (T k0))=some r:=by
 obtain ⟨r',h1,h2⟩:=Qnp hk hn mkS (body:=body) (fun k t=>t=T k) (fun x=>x=r) (fun k t a b c=>.inl ⟨T (k+1),by rw [c]; exact step k a b,rfl⟩) (fun t h=>⟨r,by rw [h]; exact done,rfl⟩) (T k0) rfl
 rw [h1,h2]
theorem dlt {k n:Nat} (h:k < n):decide ((k:Int) < (n:Int))=true:=cQ (by omega)
theorem nlt (n:Nat):¬ (decide ((n:Int) < (n:Int))=true):=by simp
def nI (l:List Nat):List Int:=l.map fun (k:Nat)=>(k:Int)
theorem Qcw (l:List Nat):(nI l).length=l.length:=by simp [nI]
theorem Qm8 {l:List Nat} {k:Nat} (h:k < l.length):lkI (nI l) (k:Int)=some (l[k]:Int):=by rw [Xo (by rwa [Qcw])]; simp [nI]
end Go.Ab
