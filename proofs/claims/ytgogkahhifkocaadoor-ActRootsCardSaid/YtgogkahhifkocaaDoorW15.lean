/- Functions. No conditions. -/
import Derived.Test.YtgogkahhifkocaaDoorProg
import Derived.Test.YtgogkahhifkocaaDoorW11
import Derived.KernelRfl
import Derived.Test.YtgogkahhifkocaaDoorW13
import Derived.Test.YtgogkahhifkocaaDoorW14
import Derived.Test.YtgogkahhifkocaaDoorW12
import Derived.Test.YtgogkahhifkocaaDoorEng7
import Derived.IntWalk
set_option maxRecDepth 100000
set_option maxHeartbeats 4000000
set_option linter.all false
namespace Go.Ab
open Go Go.Proofs
section
attribute [local irreducible] RW WP
theorem g_cmp_isNaN_int_ok (p0:Int):Ct Tryd.prog 169 [vI p0] (Qaa p0) (fun x=>vB x) (fun x=>[]):=by
 refine hfn [] Tryd.func169 <| hrt 6
theorem g_cmp_Less_int_ok (p0:Int) (p1:Int):Ct Tryd.prog 160 [vI p0,vI p1] (Qax p0 p1) (fun x=>vB x) (fun x=>[]):=by
 refine hfn [] Tryd.func160 <| hcl 2 [] (g_cmp_isNaN_int_ok p0) fun x1 _=>hbr 1 [6,7] (?_) ?_
 ·refine hcl 1 [] (g_cmp_isNaN_int_ok p1) fun x5 _=>hbr 3 [10,11,12] (hrt 6) <| ?_
  refine hrt 6
 refine hrt 11
theorem g_slices_isNaN_int_ok (p0:Int):Ct Tryd.prog 161 [vI p0] (Ju p0) (fun x=>vB x) (fun x=>[]):=by
 refine hfn [] Tryd.func161 <| hrt 6
theorem g_slices_BinarySearch_int_int_ok (p0:(List Int)) (p1:Int):Ct Tryd.prog 154 [z1 p0,vI p1] (Xq p0 p1) (fun x=>.tup [vI x.1,vB x.2]) (fun x=>[]):=by
 refine hfn [] Tryd.func154 <| hop 3 (fun _=>Qr (enc:=eI) (l:=p0) (fl:=true) kr gE) <| hlp 4 (fun s1=>⟨[(0,z1 p0),(1,vI p1),(6,vI (zn p0)),(7,vI s1.1),(8,vI s1.2)],[],54⟩) (fun v=>(.exit 0,⟨[(0,z1 p0),(1,vI p1),(6,vI (zn p0)),(7,vI v)],[],54⟩)) (wz []) (fun s1=>?_) fun x11=>?_
 ·refine hbr 3 [15] (?_) ?_
  ·refine hbd fun a4 q5=>hop 10 (fun _=>Qj (enc:=eI) (l:=p0) (n:=zw (Int.fdiv (zv (zw (s1.1+s1.2))) (2^min (zt 1) zk))) (fl:=true) (w:=1) (a:=a4) kr kr gE q5) <| hcl 2 [] (g_cmp_Less_int_ok a4 p1) fun x6 _=>hbr 0 [27] (hnx 4 (wz [])) <| ?_
   refine hnx 3 (wz [])
  refine hdx 1 (wz [])
 refine hbr 5 [34,35] (?_) ?_
 ·refine hbd fun a14 q15=>hop 2 (fun _=>Qj (enc:=eI) (l:=p0) (n:=x11) (fl:=true) (w:=1) (a:=a14) kr kr gE q15) <| hbr 4 [41,42] (hrt 14) <| ?_
  refine hop 2 (fun _=>Qj (enc:=eI) (l:=p0) (n:=x11) (fl:=true) (w:=1) (a:=a14) kr kr gE q15) <| hcl 1 [] (g_slices_isNaN_int_ok a14) fun x18 _=>hbr 1 [47,48] (hcl 1 [] (g_slices_isNaN_int_ok p1) fun x22 _=>hrt 6) <| ?_
  refine hrt 8
 refine hrt 21
theorem Qeq (c0:Int) (d0:(List Int)):Ct Tryd.prog 156 [z1 (c0::d0)] (Ys c0 d0) (fun x=>.ref 0 0 x.length) (fun x=>[oR true 1 eI x]):=by
 refine hfn [] Tryd.func156 <| hoh 6 (fun _ _ h k=>Qnj (enc:=eI) (m:=(c0::d0)) (w:=1) (bytes:=8) (nr':=true) (fl':=true) (a:=.emp) (b:=z1 (c0::d0)) (rds:=[]) false kr (.inr rfl) (Qed (fun _=>rfl)) kr gE kr h k) <| hrt 2
theorem Qeb  : Ct Tryd.prog 156 [.emn] (Jc) (fun x=>.ref 0 0 x.length) (fun x=>[oR true 1 eI x]):=by
 refine hfn [] Tryd.func156 <| hrt 9
theorem Qei  : Ct Tryd.prog 156 [.nils] (V7) (fun x=>.ref 0 0 x.length) (fun x=>[oR true 1 eI x]):=by
 refine hfn [] Tryd.func156 <| hwk 5 (wl [2] []) <| hwk 0 (Xd 2 1 true true gE) <| hrt 1
theorem Qf0 (p0:(List Int)) (x:(List Int)) (h:Zv p0=some x):Q3 Tryd.prog 156 [z1 p0] (.ret (.ref 0 0 x.length) [oR true 1 eI x]):=by
 cases p0 with
 | cons c0 d0=>exact Qeq c0 d0 x h
 | nil =>
  cases h1:V7 with
  | none=>simp [Zv,h1] at h
  | some y =>
   cases h2:Jc with
   | none=>simp [Zv,h1,h2] at h
   | some z =>
    by_cases e:y=z
    ·subst e
     simp [Zv,h1,h2] at h
     subst h
     exact Q3.nil (l1:=[]) (l2:=[]) (Qei y h1) (Qeb y h2)
    simp [Zv,h1,h2,e] at h
noncomputable abbrev Qy6 (p0:Qz):AObj:=oX true false 5 (.agg [vI p0.Net.Grain,eL false Aj p0.Net.Nodes,z1 p0.cards,eL true (AV.int .u64) p0.sets,z1 p0.order])
noncomputable abbrev Qn6:AObj:=oX true false 3 (.agg [.nils,.nils,.nils])
noncomputable abbrev Qkr (a1:Ad):AObj:=oX true false 3 (.agg [vI a1.Card,z1 a1.Parents,z2 a1.Rows])
noncomputable abbrev Q0s:AObj:=.loop 105 [(4,.ptr 0 0 0),(5,.ptr 1 0 0),(8,.ptr 2 0 0),(9,.ptr 3 0 0),(75,.fn (.func 153) [] [.ptr 4 0 0])] [76,77] (cA Tryd.f136 [true,true,true,true,true,true,true,false,true,true]) (cB Tryd.f136 [true,true,true,true,true,true,true,false,true,true]) .ready none
noncomputable abbrev Qtj:AObj:=.loop 105 [(4,.ptr 0 0 0),(5,.ptr 1 0 0),(8,.ptr 2 0 0),(9,.ptr 3 0 0),(75,.fn (.func 153) [] [.ptr 4 0 0])] [76,77] (cA Tryd.f136 [true,true,true,true,true,true,true,false,true,true]) (cB Tryd.f136 [true,true,true,true,true,true,true,false,true,true]) .busy none
noncomputable abbrev Qlu (a0:AObj) (a1:Ad) (x18:(Int × (List Int))) (x7:(List Int)):List AObj:=[Qn6,(Qkr a1),a0,oX true true 1 (vI x18.1),(Qkr a1),oR true 1 eI x7,oR true 1 eI x18.2]
theorem Qg8 (p0:Qz) (p1:Int):Ct Tryd.prog 136 [.agg [vI p0.Net.Grain,eL false Aj p0.Net.Nodes,z1 p0.cards,eL true (AV.int .u64) p0.sets,z1 p0.order],vI p1] (Yz p0 p1) (fun x=>.agg [.ref 0 0 x.Vars.length,.ref 1 0 x.Cards.length,.ref 2 0 x.W.length]) (fun x=>[oR true 1 eI x.Vars,oR true 1 eI x.Cards,oR true 1 eI x.W]):=by
 refine hfn [] Tryd.func136 <| hop 0 (fun _=>sgL false [] [] false gE) <| hop 0 (fun _=>sgL false [] [] false gE) <| hbd fun a1 q2=>hop 4 (fun _=>Qj (enc:=Aj) (l:=p0.Net.Nodes) (n:=p1) (fl:=false) (w:=3) (a:=a1) kr kr gE q2) <| hop 1 (fun _=>sgL false [] [] false gE) <| hcl 4 [] (g_slices_BinarySearch_int_int_ok a1.Parents p1) fun x3 _=>hcl 7 [] (Qf0 a1.Parents) fun x5 _=>hop 2 (fun _=>sgL false [] [] true gE) <| ?_
 refine Q8u 0 (nr:=true) (fl:=true) (bx2:=false) (nr2:=true) (fl2:=true) (o:=3) (o2:=4) (fun x7=>⟨[(0,.agg [vI p0.Net.Grain,eL false Aj p0.Net.Nodes,z1 p0.cards,eL true (AV.int .u64) p0.sets,z1 p0.order]),(1,vI p1),(2,.ptr 0 0 0),(4,.ptr 1 0 0),(16,.ptr 0 0 0),(17,.ptr 0 0 1),(18,eL false Aj p0.Net.Nodes),(19,vI p1),(20,.fz [vI a1.Card,z1 a1.Parents,z2 a1.Rows]),(21,.agg [vI a1.Card,z1 a1.Parents,z2 a1.Rows]),(5,.ptr 2 0 0),(23,.ptr 2 0 1),(24,z1 a1.Parents),(25,vI p1),(26,.tup [vI x3.1,vB x3.2]),(22,.tup [vI x3.1,vB x3.2]),(27,vI x3.1),(28,vB x3.2),(6,vI x3.1),(7,vB x3.2),(29,.ptr 2 0 1),(30,z1 a1.Parents),(31,.ref 3 0 x5.length),(32,vI x3.1),(33,vI p1),(34,.ref 4 0 1),(35,.ref 5 0 x7.length)],[(Qy6 p0),Qn6,(Qkr a1),.dead,.row false false true true 1 [vI p1],oR true 1 eI x7],105⟩) Q72 Tryd.func155 fun x7=>hop 1 (fun _=>sgL false [] [] false gE) <| hlp 7 (fun s8=>⟨[(2,.ptr 0 0 0),(4,.ptr 1 0 0),(5,.ptr 2 0 0),(6,vI x3.1),(8,.ptr 3 0 0),(9,.ptr 4 0 0),(38,.ref 5 0 x7.length),(39,vI (zn x7)),(40,vI s8.1)],[(Qy6 p0),Qn6,(Qkr a1),oX false false 3 (.agg [.ref 5 0 x7.length,.ref 6 0 s8.2.2.length,.nils]),oX true true 1 (vI s8.2.1),oR true 1 eI x7,oR true 1 eI s8.2.2],105⟩) (fun v=>(.exit 0,⟨[(4,.ptr 0 0 0),(5,.ptr 1 0 0),(8,.ptr 2 0 0),(9,.ptr 3 0 0)],[Qn6,(Qkr a1),oX false false 3 (.agg [.ref 4 0 x7.length,.ref 5 0 v.2.length,.nils]),oX true true 1 (vI v.1),oR true 1 eI x7,oR true 1 eI v.2],105⟩)) (Zf (Vo (live:=[2,4,5,6,8,9,38,39,40]) (keep:=[0,1,2,6,7,5]) gE) (Zf (Qmm 3 0 1 1 true true gE) (Vo (live:=[2,4,5,6,8,9,38,39,40]) (keep:=[0,1,2,3,4,5,6]) kr))) (fun s8=>?_) fun x18=>?_
 ·refine hbr 1 [41] (?_) ?_
  ·refine hbd fun a11 q12=>hop 2 (fun _=>Qq (enc:=eI) (l:=x7) (n:=s8.1) (w:=1) (ob:=5) (ro:=false) (nr:=true) (fl:=true) (a:=a11) kr kr gE q12) <| hop 0 (fun _=>Zg (enc:=eI) (l:=x7) (n:=s8.1) (w:=1) (ob:=5) (c:=0) (bx:=false) (ro:=false) (nr:=true) (fl:=true) (a:=a11) kr kr q12 gE) <| hbd fun a13 q14=>hop 8 (fun _=>Qj (enc:=eI) (l:=p0.cards) (n:=a11) (fl:=true) (w:=1) (a:=a13) kr kr gE q14) <| hop 1 (fun _=>sgL false [] [] true gE) <| hoh 0 (fun _ _ h k=>Jb (enc:=eI) (l:=s8.2.2) (m:=([a13]:(List Int))) (w:=1) (bytes:=8) (ob:=6) (nr:=true) (fl:=true) (nr':=true) (fl':=true) (b:=.ref 7 0 1) (rds:=[7]) false kr kr kr kr gE kr h k) <| hbr 5 [57] (hop 6 (fun _=>Qj (enc:=eI) (l:=p0.cards) (n:=a11) (fl:=true) (w:=1) (a:=a13) kr kr gE q14) <| hnx 5 (wz [0,1,2,3,4,5,8])) <| ?_
   refine hnx 3 (wz [0,1,2,3,4,5,8])
  refine hdx 1 (wz [1,2,3,4,5,6])
 refine hop 2 (fun _=>Qr (enc:=z1) (l:=a1.Rows) (fl:=false) kr gE) <| hoh 3 (fun _ _ h k=>mkL (enc:=eI) (z:=(0:Int)) (z0:=vI 0) (n:=zw ((zn a1.Rows)*a1.Card)) (m:=zw ((zn a1.Rows)*a1.Card)) (w:=1) (bytes:=8) [] true kr kr gE kr h k) <| hil 3 Tryd.func134 <| hop 0 (fun _=>sgL false [] [] false gE) <| hwk 3 (wl [2] [7]) <| hwk 1 (wl [4,5,8,9,75] [0,1,2,3,7,4,5,6]) <| hrg 0 Tryd.func153 <| hop 2 (fun _=>Qr (enc:=z1) (l:=a1.Rows) (fl:=false) kr gE) <| hlp 1 (fun s19=>⟨[(0,.yld 8),(6,z2 a1.Rows),(7,vI (zn a1.Rows)),(8,vI s19.1)],(Qlu (oX false false 3 (.agg [.ref 5 0 x7.length,.ref 6 0 x18.2.length,.ref 7 0 s19.2.length])) a1 x18 x7)++[oR true 1 eI s19.2,Q0s],19⟩) (fun v=>(.exit 0,⟨[],(Qlu (oX false false 3 (.agg [.ref 5 0 x7.length,.ref 6 0 x18.2.length,.ref 7 0 v.length])) a1 x18 x7)++[oR true 1 eI v,Q0s],19⟩)) (wz []) (fun s19=>?_) fun x37=>?_
 ·refine hbr 1 [9] (?_) ?_
  ·refine hbd fun a22 q23=>hop 2 (fun _=>Qj (enc:=z1) (l:=a1.Rows) (n:=s19.1) (fl:=false) (w:=1) (a:=a22) kr kr gE q23) <| hyl 6 <| hop 3 (fun _=>Qr (enc:=eI) (l:=a22) (fl:=true) kr gE) <| hlp 1 (fun s24=>⟨[(5,.ptr 1 0 0),(8,.ptr 2 0 0),(9,.ptr 3 0 0),(12,vI s19.1),(78,z1 a22),(79,vI (zn a22)),(80,vI s24.1)],(Qlu (oX false false 3 (.agg [.ref 5 0 x7.length,.ref 6 0 x18.2.length,.ref 7 0 s24.2.length])) a1 x18 x7)++[oR true 1 eI s24.2,Qtj],105⟩) (fun v=>(.exit 4,⟨[],(Qlu (oX false false 3 (.agg [.ref 5 0 x7.length,.ref 6 0 x18.2.length,.ref 7 0 v.length])) a1 x18 x7)++[oR true 1 eI v,Qtj],105⟩)) (wz []) (fun s24=>?_) fun x35=>?_
   ·refine hbr 1 [81] (?_) ?_
    ·refine hbd fun a27 q28=>hop 2 (fun _=>Qj (enc:=eI) (l:=a22) (n:=s24.1) (fl:=true) (w:=1) (a:=a27) kr kr gE q28) <| hoh 8 (fun _ _ h k=>Qt8 (k:=.i64) (a:=s19.1) (b:=x18.1) kr gE h k) <| hoh 9 (fun _ _ h k=>Qc7 (k:=.i64) (a:=s19.1) (b:=x18.1) kr gE h k) <| hbd fun a29 q30=>hop 2 (fun _=>Qq (enc:=eI) (l:=s24.2) (n:=zw ((zw ((zw ((zw ((zw (Int.tdiv s19.1 x18.1))*a1.Card))+s24.1))*x18.1))+(Int.tmod s19.1 x18.1))) (w:=1) (ob:=7) (ro:=false) (nr:=true) (fl:=true) (a:=a29) kr kr gE q30) <| hbd fun a31 q32=>hop 0 (fun _ k=>Zm (enc:=eI) (l:=s24.2) (n:=(zw ((zw ((zw ((zw ((zw (Int.tdiv s19.1 x18.1))*a1.Card))+s24.1))*x18.1))+(Int.tmod s19.1 x18.1)))) (ob:=7) (w:=1) (bx:=false) (nr:=true) (fl:=true) (c:=0) (a:=a31) (a':=a27) (v:=vI a27) false kr kr q32 kr kr kr gE kr (Q03 (S:=fun n33=>⟨[(5,.ptr 1 0 0),(8,.ptr 2 0 0),(9,.ptr 3 0 0),(12,vI s19.1),(78,z1 a22),(79,vI (zn a22)),(80,vI s24.1),(81,vB true),(82,vI s24.1),(83,.fz [vI a27]),(84,vI a27),(14,vI s24.1),(15,vI a27),(85,.ptr 2 0 2),(86,.ref 7 0 n33),(87,vI s19.1),(88,vI x18.1),(89,vI (zw (Int.tdiv s19.1 x18.1))),(90,.ptr 1 0 0),(91,vI a1.Card),(92,vI (zw ((zw (Int.tdiv s19.1 x18.1))*a1.Card))),(93,vI s24.1),(94,vI (zw ((zw ((zw (Int.tdiv s19.1 x18.1))*a1.Card))+s24.1))),(95,vI x18.1),(96,vI (zw ((zw ((zw ((zw (Int.tdiv s19.1 x18.1))*a1.Card))+s24.1))*x18.1))),(97,vI s19.1),(98,vI x18.1),(99,vI (Int.tmod s19.1 x18.1)),(100,vI (zw ((zw ((zw ((zw ((zw (Int.tdiv s19.1 x18.1))*a1.Card))+s24.1))*x18.1))+(Int.tmod s19.1 x18.1)))),(101,vI a27),(102,.ptr 7 (zt (zw ((zw ((zw ((zw ((zw (Int.tdiv s19.1 x18.1))*a1.Card))+s24.1))*x18.1))+(Int.tmod s19.1 x18.1)))) 0)],(Qlu (oX false false 3 (.agg [.ref 5 0 x7.length,.ref 6 0 x18.2.length,.ref 7 0 n33])) a1 x18 x7)++[oR true 1 eI (List.set s24.2 (zt (zw ((zw ((zw ((zw ((zw (Int.tdiv s19.1 x18.1))*a1.Card))+s24.1))*x18.1))+(Int.tmod s19.1 x18.1)))) a27),Qtj],105⟩) (ls s24.2 (zt (zw ((zw ((zw ((zw ((zw (Int.tdiv s19.1 x18.1))*a1.Card))+s24.1))*x18.1))+(Int.tmod s19.1 x18.1)))) a27) k)) <| hnx 2 (wz [])
    refine hdx 1 (wz [])
   refine hnx 4 (wz [])
  refine hdx 1 (wz [])
 refine hrt 3
theorem g_net_Factors_ok (p0:Qd):Ct Tryd.prog 100 [.agg [vI p0.Grain,eL false Aj p0.Nodes]] (Qbn p0) (fun x=>.tup [.ref 0 0 x.1.length,vI x.2]) (fun x=>[oR false 3 Za x.1]):=by
 refine hfn [] Tryd.func100 <| hop 0 (fun _=>sgL false [] [] false gE) <| hcl 3 [] (g_net_read_ok p0) fun x1 _=>hop 3 (fun _=>sgL false [] [] false gE) <| hbr 4 [14] (hwk 4 (wl [2,3] []) <| hwk 0 (Xd 2 3 true false gE) <| hrt 1) <| ?_
 refine hop 4 (fun _=>Qr (enc:=Aj) (l:=x1.1.Net.Nodes) (fl:=false) kr gE) <| hoh 0 (fun _ _ h k=>mkL (enc:=Za) (z:=((Qw.mk [] [] []):Qw)) (z0:=.agg [.nils,.nils,.nils]) (n:=(zn x1.1.Net.Nodes)) (m:=(zn x1.1.Net.Nodes)) (w:=3) (bytes:=72) [.lst true,.lst true,.lst true] false kr kr gE kr h k) <| hlp 4 (fun s5=>⟨[(4,.ptr 0 0 0),(6,.ref 1 0 s5.2.length),(22,vI (((List.replicate (zt (zn x1.1.Net.Nodes)) ((Qw.mk [] [] []):Qw)).length):Int)),(23,vI s5.1)],[oX true false 5 (.agg [vI x1.1.Net.Grain,eL false Aj x1.1.Net.Nodes,z1 x1.1.cards,eL true (AV.int .u64) x1.1.sets,z1 x1.1.order]),oR false 3 Za s5.2],34⟩) (fun v=>(.exit 0,⟨[(6,.ref 0 0 v.length)],[oR false 3 Za v],34⟩)) (wz [1,2]) (fun s5=>?_) fun x14=>?_
 ·refine hbr 1 [24] (?_) ?_
  ·refine hcl 7 [] (Qg8 x1.1 s5.1) fun x8 _=>hbd fun a10 q11=>hop 0 (fun _=>Qq (enc:=Za) (l:=s5.2) (n:=s5.1) (w:=3) (ob:=1) (ro:=false) (nr:=true) (fl:=false) (a:=a10) kr kr gE q11) <| hop 0 (fun _=>Q00 (enc:=Za) (l:=s5.2) (n:=s5.1) (ob:=1) (w:=3) (nr:=true) (fl:=false) (c:=0) (a:=a10) (a':=x8) (v0:=.agg [.ref 2 0 x8.Vars.length,.ref 3 0 x8.Cards.length,.ref 4 0 x8.W.length]) (v:=.agg [z1 x8.Vars,z1 x8.Cards,z1 x8.W]) (ids:=[2,3,4]) (es:=[(2,.row false true true true 1 (List.map eI x8.Vars)),(3,.row false true true true 1 (List.map eI x8.Cards)),(4,.row false true true true 1 (List.map eI x8.W))]) kr kr q11 kr kr (Qdt (Q6 (Xg (w:=1) (bx:=false) (ro:=false) (enc:=eI) (l:=x8.Vars) (fl:=true) kr) (Q6 (Xg (w:=1) (bx:=false) (ro:=false) (enc:=eI) (l:=x8.Cards) (fl:=true) kr) (Q6 (Xg (w:=1) (bx:=false) (ro:=false) (enc:=eI) (l:=x8.W) (fl:=true) kr) V4 (by rfl)) (by rfl)) (by rfl))) kr kr kr gE kr) <| hkl 0 [6,26] (ls s5.2 (zt s5.1) x8) <| hnx 2 (wz [0,1])
  refine hdx 1 (wz [1])
 refine hrt 4
end
section
attribute [local irreducible] RW WP
noncomputable abbrev o66_93 (p0:Qd):AObj:=oX true false 2 (.agg [vI p0.Grain,eL false Aj p0.Nodes])
noncomputable abbrev o66_94:AObj:=oX true false 4 (.agg [vI 0,.nils,.nils,.nils])
noncomputable abbrev o66_95 (x1:((List Qw) × Int)):AObj:=oR false 3 Za x1.1
noncomputable abbrev s66_96:List (Nat×AV):=[(2,.ptr 0 0 0),(4,.ptr 1 0 0),(11,.ptr 2 0 0)]
theorem g_joint_ask_ok (p0:Qd) (p1:(List (List Int))):Ct Tryd.prog 56 [.agg [vI p0.Grain,eL false Aj p0.Nodes],z2 p1] (Qd8 p0 p1) (fun x=>.tup [.agg [vI x.1.Net.Grain,eL false Aj x.1.Net.Nodes,eL false Za x.1.factors,z2 x.1.steps],vI x.2]) (fun x=>[]):=by
 refine hfn [[.keep,.lst false,.lst false,.lst false],[.keep]] Tryd.func56 <| hop 0 (fun _=>sgL false [] [] false gE) <| hop 0 (fun _=>sgL false [] [] false gE) <| hcl 2 [] (g_net_Factors_ok p0) fun x1 _=>hbr 7 [22] (hrt 6) <| ?_
 refine hop 2 (fun _=>Qr (enc:=z1) (l:=p1) (fl:=false) kr gE) <| hlp 1 (fun s5=>⟨[(2,.ptr 0 0 0),(4,.ptr 1 0 0),(6,.ref 2 0 x1.1.length),(25,z2 p1),(26,vI (zn p1)),(27,vI s5)],[(o66_93 p0),o66_94,(o66_95 x1)],89⟩) (fun x=>match x with | .inl v=>(.ret,⟨[(4,.ptr 0 0 0),(5,vI v)],[o66_94],89⟩) | .inr v=>(.exit 0,⟨[(2,.ptr 0 0 0),(4,.ptr 1 0 0),(6,.ref 2 0 x1.1.length)],[(o66_93 p0),o66_94,(o66_95 x1)],89⟩)) (wz [0,1,2]) (fun s5=>?_) (hsm (fun x15=>?_) (fun x16=>?_))
 ·refine hbr 1 [28] (?_) ?_
  ·refine hbd fun a8 q9=>hop 1 (fun _=>Qj (enc:=z1) (l:=p1) (n:=s5) (fl:=false) (w:=1) (a:=a8) kr kr gE q9) <| hcl 4 [] (g_net_CheckEvidence_ok p0 a8) fun x10 _=>hbr 3 [35] (hdx 5 (wz [1])) <| ?_
   refine hnx 3 (wz [0,1,2])
  refine hdx 1 (wz [0,1,2])
 ·refine hrt 0
 refine hoh 5 (fun _ _ h k=>mkL (enc:=fun _=>AV.nils) (z:=([]:(List Int))) (z0:=AV.nils) (n:=(zn x1.1)) (m:=(zn x1.1)) (w:=1) (bytes:=24) [] false kr kr gE kr h k) <| hop 1 (fun _=>sgL false [] [] false gE) <| hwk 1 (wfam 3 1 true (zt (zn x1.1)) eI (nr0:=true) (fl0:=false) (x0:=([]:List Int)) (enc1:=fun _=>AV.nils)) <| hlp 3 (fun s17=>⟨s66_96++[(45,.ref 3 0 x1.1.length),(46,vI (zn x1.1)),(47,vI s17.1)],[(o66_93 p0),o66_94,oX false false 4 (.agg [vI p0.Grain,eL false Aj p0.Nodes,.ref 3 0 x1.1.length,.ref 4 0 s17.2.length]),(o66_95 x1),.refs 5 (eF eI s17.2),.fam 1 true (eF eI s17.2)],89⟩) (fun v=>(.exit 2,⟨[(4,.ptr 0 0 0),(11,.ptr 1 0 0)],[o66_94,oX false false 4 (.agg [vI p0.Grain,eL false Aj p0.Nodes,.ref 2 0 x1.1.length,.ref 3 0 v.length]),(o66_95 x1),.refs 4 (eF eI v),.fam 1 true (eF eI v)],89⟩)) (wz [0,1,4,2,3,5]) (fun s17=>?_) fun x40=>?_
 ·refine hbr 1 [48] (?_) ?_
  ·refine hbd fun a20 q21=>hop 2 (fun _=>Qq (enc:=Za) (l:=x1.1) (n:=s17.1) (w:=3) (ob:=3) (ro:=false) (nr:=true) (fl:=false) (a:=a20) kr kr gE q21) <| hop 0 (fun _=>Zg (enc:=Za) (l:=x1.1) (n:=s17.1) (w:=3) (ob:=3) (c:=0) (bx:=false) (ro:=false) (nr:=true) (fl:=false) (a:=a20) kr kr q21 gE) <| hop 0 (fun _=>sgL false [] [] false gE) <| hop 8 (fun _=>Qr (enc:=Aj) (l:=p0.Nodes) (fl:=false) kr gE) <| hoh 0 (fun _ _ h k=>mkL (enc:=eI) (z:=(0:Int)) (z0:=vI 0) (n:=(zn p0.Nodes)) (m:=(zn p0.Nodes)) (w:=1) (bytes:=8) [] true kr kr gE kr h k) <| hbd fun a22 q23=>hop 0 (fun _=>Q7e (enc:=eI) (ls:=s17.2) (x:=a22) (n:=s17.1) (ob:=4) (j:=5) kr kr q23 gE) <| hop 0 (fun _=>Q7l (enc:=eI) (ls:=s17.2) (x:=a22) (n:=s17.1) (ob:=4) (j:=5) (m:=7) (q:=(List.replicate (zt (zn p0.Nodes)) (0:Int)).length) kr kr q23 kr gE kr) <| ?_
   refine hwk 0 (Zf (Q8n 4 5 7 [2,4,11,45,46,47,48,49,50,51,13,12,52,53,54,55,56,57,59] q23 (w:=1) (fl:=true) (enc:=eI) (ls:=s17.2) (x:=a22) (b:=(List.replicate (zt (zn p0.Nodes)) (0:Int))) (n:=s17.1)) (wkv (fun n24=>⟨s66_96++[(45,.ref 3 0 x1.1.length),(46,vI (zn x1.1)),(47,vI s17.1),(48,vB true),(49,vI s17.1),(50,.ptr 3 (zt s17.1) 0),(51,.agg [z1 a20.Vars,z1 a20.Cards,z1 a20.W]),(13,.ptr 6 0 0),(12,vI s17.1),(52,.ptr 2 0 3),(53,.ref 4 0 n24),(54,vI s17.1),(55,.ptr 0 0 1),(56,eL false Aj p0.Nodes),(57,vI (zn p0.Nodes)),(59,.ptr 4 (zt s17.1) 0)],[(o66_93 p0),o66_94,oX false false 4 (.agg [vI p0.Grain,eL false Aj p0.Nodes,.ref 3 0 x1.1.length,.ref 4 0 n24]),(o66_95 x1),.refs 5 (eF eI (List.set s17.2 (zt s17.1) (List.replicate (zt (zn p0.Nodes)) (0:Int)))),.fam 1 true (eF eI (List.set s17.2 (zt s17.1) (List.replicate (zt (zn p0.Nodes)) (0:Int)))),oX true false 3 (.agg [z1 a20.Vars,z1 a20.Cards,z1 a20.W]),.dead],89⟩) (ls s17.2 (zt s17.1) (List.replicate (zt (zn p0.Nodes)) (0:Int))))) <| hop 3 (fun _=>Qr (enc:=eI) (l:=a20.Vars) (fl:=true) kr gE) <| hlp 2 (fun s25=>⟨s66_96++[(12,vI s17.1),(13,.ptr 3 0 0),(14,vI s25.1),(15,vI s25.2.1),(45,.ref 4 0 x1.1.length),(46,vI (zn x1.1)),(47,vI s17.1)],[(o66_93 p0),o66_94,oX false false 4 (.agg [vI p0.Grain,eL false Aj p0.Nodes,.ref 4 0 x1.1.length,.ref 5 0 s25.2.2.length]),oX true false 3 (.agg [z1 a20.Vars,z1 a20.Cards,z1 a20.W]),(o66_95 x1),.refs 6 (eF eI s25.2.2),.fam 1 true (eF eI s25.2.2)],89⟩) (fun v=>(.exit 4,⟨s66_96++[(45,.ref 3 0 x1.1.length),(46,vI (zn x1.1)),(47,vI s17.1)],[(o66_93 p0),o66_94,oX false false 4 (.agg [vI p0.Grain,eL false Aj p0.Nodes,.ref 3 0 x1.1.length,.ref 4 0 v.length]),(o66_95 x1),.refs 5 (eF eI v),.fam 1 true (eF eI v)],89⟩)) (wz [0,1,2,6,3,4,5]) (fun s25=>?_) fun x38=>?_
   ·refine hbr 2 [65] (?_) ?_
    ·refine hbd fun a28 q29=>hop 5 (fun _=>Q7e (enc:=eI) (ls:=s25.2.2) (x:=a28) (n:=s17.1) (ob:=5) (j:=6) kr kr q29 gE) <| hop 0 (fun _=>Q8c (enc:=eI) (ls:=s25.2.2) (x:=a28) (n:=s17.1) (ob:=5) (j:=6) kr kr q29 gE) <| hbd fun a30 q31=>hop 3 (fun _=>Qj (enc:=eI) (l:=a20.Vars) (n:=s25.2.1) (fl:=true) (w:=1) (a:=a30) kr kr gE q31) <| hbd fun a32 q33=>hop 2 (fun _=>Q8t (enc:=eI) (ls:=s25.2.2) (x:=a28) (y:=a32) (n:=s17.1) (c:=a30) (w:=1) (j:=6) (fl:=true) kr kr q29 q33 kr gE) <| hop 0 (fun _=>Q53 (enc:=eI) (ls:=s25.2.2) (x:=a28) (y:=a32) (y':=s25.1) (n:=s17.1) (m:=a30) (w:=1) (j:=6) (q:=5) (c:=0) (fl:=true) (v:=vI s25.1) kr kr kr q29 q33 kr kr kr kr gE) <| hkn 0 (fun n36=>⟨s66_96++[(12,vI s17.1),(13,.ptr 3 0 0),(14,vI s25.1),(15,vI s25.2.1),(45,.ref 4 0 x1.1.length),(46,vI (zn x1.1)),(47,vI s17.1),(64,vI s25.2.1),(65,vB true),(68,.ptr 2 0 3),(69,.ref 5 0 n36),(70,vI s17.1),(71,.ptr 5 (zt s17.1) 0),(72,.ref (fid 6 (zt s17.1)) 0 a28.length),(73,.ptr 3 0 0),(74,z1 a20.Vars),(75,vI s25.2.1),(76,.fz [vI a30]),(77,vI a30),(78,vI s25.1),(79,.ptr (fid 6 (zt s17.1)) (zt a30) 0)],[(o66_93 p0),o66_94,oX false false 4 (.agg [vI p0.Grain,eL false Aj p0.Nodes,.ref 4 0 x1.1.length,.ref 5 0 n36]),oX true false 3 (.agg [z1 a20.Vars,z1 a20.Cards,z1 a20.W]),(o66_95 x1),.refs 6 (eF eI (List.set s25.2.2 (zt s17.1) (List.set a28 (zt a30) s25.1))),.fam 1 true (eF eI (List.set s25.2.2 (zt s17.1) (List.set a28 (zt a30) s25.1)))],89⟩) (ls s25.2.2 (zt s17.1) (List.set a28 (zt a30) s25.1)) <| ?_
     refine hbd fun a34 q35=>hop 4 (fun _=>Qj (enc:=eI) (l:=a20.Cards) (n:=s25.2.1) (fl:=true) (w:=1) (a:=a34) kr kr gE q35) <| hnx 6 (wz [0,1,2,3,4,5,6])
    refine hdx 1 (wz [0,1,2,4,5,6])
   refine hnx 2 (wz [0,1,2,3,4,5])
  refine hdx 1 (wz [1,2,3,4,5])
 refine hwk 3 (wl [4,5] [0,2,3,4]) <| hwk 0 (Q8v 2 3 (w:=1) (fl:=true) (enc:=eI) (ls:=x40)) <| hwk 0 (won 0 0 [F Za x1.1,F z1 x40]) <| hrt 1
theorem Qmc (p0:(List Int)) (p1:(List Int)):Ct Tryd.prog 138 [z1 p0,z1 p1] (Jx p0 p1) (fun x=>vB x) (fun x=>[]):=by
 refine hfn [] Tryd.func138 <| hop 3 (fun _=>Qr (enc:=eI) (l:=p1) (fl:=true) kr gE) <| hlp 1 (fun s1=>⟨[(0,z1 p0),(5,vB true),(8,z1 p1),(9,vI (zn p1)),(10,vI s1)],[],25⟩) (fun v=>(.exit 0,⟨[(5,vB v)],[],25⟩)) (wz []) (fun s1=>?_) fun x13=>?_
 ·refine hbr 1 [11] (?_) ?_
  ·refine hbd fun a4 q5=>hop 2 (fun _=>Qj (enc:=eI) (l:=p1) (n:=s1) (fl:=true) (w:=1) (a:=a4) kr kr gE q5) <| hbr 6 [17,16] (hnx 4 (wz [])) <| ?_
   refine hbd fun a8 q9=>hop 3 (fun _=>Qj (enc:=eI) (l:=p0) (n:=s1) (fl:=true) (w:=1) (a:=a8) kr kr gE q9) <| hbr 3 [16,22] (hnx 3 (wz [])) <| ?_
   refine hdx 2 (wz [])
  refine hdx 1 (wz [])
 refine hrt 3
noncomputable abbrev Qur (p0:Q5):AObj:=oX true false 4 (.agg [vI p0.Net.Grain,eL false Aj p0.Net.Nodes,eL false Za p0.factors,z2 p0.steps])
theorem Qe4 (p0:Q5) (p1:(List Int)):Ct Tryd.prog 139 [.agg [vI p0.Net.Grain,eL false Aj p0.Net.Nodes,eL false Za p0.factors,z2 p0.steps],z1 p1] (Y6 p0 p1) (fun x=>vI x) (fun x=>[]):=by
 refine hfn [] Tryd.func139 <| hop 0 (fun _=>sgL false [] [] false gE) <| hop 4 (fun _=>Qr (enc:=Za) (l:=p0.factors) (fl:=false) kr gE) <| hlp 1 (fun s1=>⟨[(1,z1 p1),(2,.ptr 0 0 0),(5,vI s1.1),(12,eL false Za p0.factors),(13,vI (zn p0.factors)),(14,vI s1.2)],[(Qur p0)],51⟩) (fun v=>(.exit 0,⟨[(5,vI v)],[],51⟩)) (wz [0]) (fun s1=>?_) fun x22=>?_
 ·refine hbr 1 [15] (?_) ?_
  ·refine hbd fun a4 q5=>hop 2 (fun _=>Qj (enc:=Za) (l:=p0.factors) (n:=s1.2) (fl:=false) (w:=3) (a:=a4) kr kr gE q5) <| hop 1 (fun _=>sgL false [] [] false gE) <| hop 5 (fun _=>Qr (enc:=eI) (l:=a4.Vars) (fl:=true) kr gE) <| hlp 1 (fun s6=>⟨[(1,z1 p1),(2,.ptr 0 0 0),(5,vI s1.1),(6,vI s1.2),(7,.ptr 1 0 0),(8,vI s6.1),(12,eL false Za p0.factors),(13,vI (zn p0.factors)),(14,vI s1.2),(20,z1 a4.Vars),(21,vI (zn a4.Vars)),(22,vI s6.2)],[(Qur p0),oX true false 3 (.agg [z1 a4.Vars,z1 a4.Cards,z1 a4.W])],51⟩) (fun v=>(.exit 2,⟨[(1,z1 p1),(2,.ptr 0 0 0),(5,vI s1.1),(7,.ptr 1 0 0),(8,vI v),(12,eL false Za p0.factors),(13,vI (zn p0.factors)),(14,vI s1.2)],[(Qur p0),oX true false 3 (.agg [z1 a4.Vars,z1 a4.Cards,z1 a4.W])],51⟩)) (wz [0,1]) (fun s6=>?_) fun x18=>?_
   ·refine hbr 1 [23] (?_) ?_
    ·refine hbd fun a9 q10=>hop 1 (fun _=>Qj (enc:=eI) (l:=a4.Vars) (n:=s6.2) (fl:=true) (w:=1) (a:=a9) kr kr gE q10) <| hbd fun a11 q12=>hop 6 (fun _=>Qj (enc:=eI) (l:=p1) (n:=a9) (fl:=true) (w:=1) (a:=a11) kr kr gE q12) <| hbd fun a13 q14=>hop 4 (fun _=>Qj (enc:=z1) (l:=p0.steps) (n:=s1.2) (fl:=false) (w:=1) (a:=a13) kr kr gE q14) <| hbd fun a15 q16=>hop 2 (fun _=>Qj (enc:=eI) (l:=a13) (n:=a9) (fl:=true) (w:=1) (a:=a15) kr kr gE q16) <| hnx 6 (wz [0,1])
    refine hdx 1 (wz [0,1])
   refine hbd fun a19 q20=>hop 4 (fun _=>Qj (enc:=eI) (l:=a4.W) (n:=x18) (fl:=true) (w:=1) (a:=a19) kr kr gE q20) <| hnx 5 (wz [0])
  refine hdx 1 (wz [])
 refine hrt 3
noncomputable abbrev Q0t (p0:Qd):AObj:=oX true false 2 (.agg [vI p0.Grain,eL false Aj p0.Nodes])
noncomputable abbrev Qyp (p1:(List Int)):AObj:=.row false true true false 1 [z1 p1]
noncomputable abbrev Qi6 (x1:(Q5 × Int)):AObj:=oX true false 4 (.agg [vI x1.1.Net.Grain,eL false Aj x1.1.Net.Nodes,eL false Za x1.1.factors,z2 x1.1.steps])
noncomputable abbrev Q3y:AObj:=oX false false 1 (.mp 8)
noncomputable abbrev Q3r (p1:(List Int)):AObj:=oX true false 1 (z1 p1)
noncomputable abbrev Qgj:AObj:=.loop 42 [(2,.ptr 3 0 0),(6,.ptr 4 0 0),(7,.ptr 5 0 0),(14,.fn (.func 137) [] [.ptr 6 0 0,.ptr 7 0 0])] [15] (cA Tryd.f59 [true,true,false,true,true]) (cB Tryd.f59 [true,true,false,true,true]) .ready none
noncomputable abbrev Qql:AObj:=.loop 42 [(2,.ptr 3 0 0),(6,.ptr 4 0 0),(7,.ptr 5 0 0),(14,.fn (.func 137) [] [.ptr 6 0 0,.ptr 7 0 0])] [15] (cA Tryd.f59 [true,true,false,true,true]) (cB Tryd.f59 [true,true,false,true,true]) .busy none
noncomputable abbrev Qas (a0:AObj) (p0:Qd) (p1:(List Int)) (x1:(Q5 × Int)):List AObj:=[(Q0t p0),(Qyp p1),(Qi6 x1),(Qi6 x1),Q3y,a0,(Qi6 x1),(Q3r p1)]
noncomputable abbrev l69_106 (p0:Qd) (p1:(List Int)) (x1:(Q5 × Int)) (x58:(Int × (List (Ag × Int)))):List AObj:=[(Q0t p0),(Qyp p1),(Qi6 x1),(Qi6 x1),oX false false 1 (.mp 6),oX true true 1 (vI x58.1),Zh Am eI x58.2]
noncomputable abbrev Qio:List (Nat×AV):=[(0,.yld 9),(1,.ptr 6 0 0),(2,.ptr 7 0 0)]
theorem Kr (p0:Qd) (p1:(List Int)) (p2:Int):Ct Tryd.prog 19 [.agg [vI p0.Grain,eL false Aj p0.Nodes],z1 p1,vI p2] (X4 p0 p1 p2) (fun x=>.tup [.ref 0 0 x.1.length,vI x.2]) (fun x=>[oR true 2 Ak x.1]):=by
 refine hfn [] Tryd.func19 <| hop 0 (fun _=>sgL false [] [] false gE) <| hop 4 (fun _=>sgL false [] [.lst true] false gE) <| hcl 0 [] (g_joint_ask_ok p0 [p1]) fun x1 _=>hop 3 (fun _=>sgL false [] [] false gE) <| hbr 4 [19] (hwk 4 (wl [6,7] []) <| hwk 0 (Xd 6 2 true true gE) <| hrt 1) <| ?_
 refine hbr 4 [22,23] (hwk 10 (wl [6,7] []) <| hwk 0 (Xd 6 2 true true gE) <| hrt 1) <| ?_
 refine hop 4 (fun _=>Qr (enc:=Aj) (l:=x1.1.Net.Nodes) (fl:=false) kr gE) <| hbr 2 [29,30] (hwk 3 (wl [6,7] []) <| hwk 0 (Xd 6 2 true true gE) <| hrt 1) <| ?_
 refine hil 3 Tryd.func59 <| hop 0 (fun _=>sgL false [] [] false gE) <| hop 3 (fun _=>sgL false [] [] false gE) <| hil 5 Tryd.func101 <| hop 0 (fun _=>sgL false [] [] false gE) <| hop 0 (fun _=>sgL false [] [] false gE) <| hwk 3 (wk_gcK (live:=[4]) (keep:=[7,8]) 4 Am eI [] (fun f a=>rfl) (fun f a=>rfl) kr gE) <| hwk 1 (wk_gcK (live:=[2,6,7,14]) (keep:=[3,5,6,7,8,4]) 4 Am eI [] (fun f a=>rfl) (fun f a=>rfl) kr gE) <| hrg 0 Tryd.func137 <| ?_
 refine hop 3 (fun _=>Qr (enc:=Aj) (l:=x1.1.Net.Nodes) (fl:=false) kr gE) <| hoh 0 (fun _ _ h k=>mkL (enc:=eI) (z:=(0:Int)) (z0:=vI 0) (n:=(zn x1.1.Net.Nodes)) (m:=(zn x1.1.Net.Nodes)) (w:=1) (bytes:=8) [] true kr kr gE kr h k) <| hlp 2 (fun s9=>⟨Qio++[(4,.ref 10 0 s9.2.2.2.length),(5,vI s9.1)],(Qas (oX true true 1 (vI s9.2.1)) p0 p1 x1)++[Zh Am eI s9.2.2.1,Qgj,oR true 1 eI s9.2.2.2],61⟩) (fun v=>(.ret,⟨[],(Qas (oX true true 1 (vI v.1)) p0 p1 x1)++[Zh Am eI v.2,Qgj],61⟩)) (wk_gcK (live:=[0,1,2,4,5]) (keep:=[10]) 8 Am eI [] (fun f a=>rfl) (fun f a=>rfl) kr kr) (fun s9=>?_) fun x58=>?_
 ·refine hcl 2 [F eI s9.2.2.2] (Qmc s9.2.2.2 p1) fun x10 _=>hbr 1 [16,17] (?_) ?_
  ·refine hcl 4 [F eI s9.2.2.2] (Qe4 x1.1 s9.2.2.2) fun x14 _=>hyl 2 <| hop 0 (fun _=>sgL false [] [] false gE) <| hlp 10 (fun s16=>⟨[(6,.ptr 4 0 0),(8,.ptr 11 0 0),(21,.ref 10 0 s9.2.2.2.length),(22,vI (zn s9.2.2.2)),(23,vI s16.1)],(Qas (oX true true 1 (vI (zw (s9.2.1+x14)))) p0 p1 x1)++[Zh Am eI s16.2,Qql,oR true 1 eI s9.2.2.2,oX false false 3 (.agg [vI s9.1,vI x14,.ref 10 0 s9.2.2.2.length])],42⟩) (fun v=>(.exit 2,⟨[],(Qas (oX true true 1 (vI (zw (s9.2.1+x14)))) p0 p1 x1)++[Zh Am eI v,Qql,oR true 1 eI s9.2.2.2],42⟩)) (wk_gcK (live:=[6,8,21,22,23]) (keep:=[11]) 8 Am eI s9.2.2.1 (fun f a=>rfl) (fun f a=>rfl) kr kr) (fun s16=>?_) fun x22=>?_
   ·refine hbr 1 [24] (?_) ?_
    ·refine hbd fun a19 q20=>hop 2 (fun _=>Qq (enc:=eI) (l:=s9.2.2.2) (n:=s16.1) (w:=1) (ob:=10) (ro:=false) (nr:=true) (fl:=true) (a:=a19) kr kr gE q20) <| hop 0 (fun _=>Zg (enc:=eI) (l:=s9.2.2.2) (n:=s16.1) (w:=1) (ob:=10) (c:=0) (bx:=false) (ro:=false) (nr:=true) (fl:=true) (a:=a19) kr kr q20 gE) <| htw 2 4 8 [0,1,2,3,4,5,6,7,8,9,10] [0,1,2,3,5,6,8,4,7,9,10] (⟨[(6,.ptr 4 0 0),(8,.ptr 11 0 0),(21,.ref 10 0 s9.2.2.2.length),(22,vI (zn s9.2.2.2)),(23,vI s16.1)],(Qas (oX true true 1 (vI (zw (s9.2.1+x14)))) p0 p1 x1)++[Zh Am eI (kput Ap s16.2 (Ag.mk s16.1 a19) (zw (((kget Ap s16.2 (Ag.mk s16.1 a19)).getD 0)+x14))),Qql,oR true 1 eI s9.2.2.2,oX false false 3 (.agg [vI s9.1,vI x14,.ref 10 0 s9.2.2.2.length])],42⟩) ?_ ?_ ?_
     ·refine hop 4 (fun _=>Qse (ob:=8) (kt:=185) (c:=false) (ke:=Am) (enc:=eI) (e:=Ap) (l:=s16.2) (n:=(Ag.mk s16.1 a19)) (z:=0) kr (fun _ _=>by kernel_rfl) kr (fun _=>rfl) gE) <| hop 3 (fun _=>Q69 (ob:=8) (kt:=185) (ke:=Am) (enc:=eI) (e:=Ap) (l:=s16.2) (n:=(Ag.mk s16.1 a19)) (z:=0) kr (fun _ _=>by kernel_rfl) kr (fun _=>rfl) gE kr) <| hop 1 (fun _=>Q63 (ob:=8) (ke:=Am) (enc:=eI) (e:=Ap) (l:=s16.2) (n:=(Ag.mk s16.1 a19)) (v:=zw (((kget Ap s16.2 (Ag.mk s16.1 a19)).getD 0)+x14)) (w:=(kget Ap s16.2 (Ag.mk s16.1 a19)).getD 0) kr kr gE kr) <| htz 0 (wk_gcK (live:=[6,8,21,22,23]) (keep:=[11]) 8 Am eI (kput Ap s16.2 (Ag.mk s16.1 a19) (zw (((kget Ap s16.2 (Ag.mk s16.1 a19)).getD 0)+x14))) (fun f a=>rfl) (fun f a=>rfl) kr kr)
     ·refine hop 6 (fun _=>Q69 (ob:=8) (kt:=185) (ke:=Am) (enc:=eI) (e:=Ap) (l:=s16.2) (n:=(Ag.mk s16.1 a19)) (z:=0) kr (fun _ _=>by kernel_rfl) kr (fun _=>rfl) gE kr) <| hop 0 (fun _=>Q6f (ob:=8) (kt:=185) (ke:=Am) (enc:=eI) (e:=Ap) (l:=s16.2) (n:=(Ag.mk s16.1 a19)) (z:=0) (w:=(kget Ap s16.2 (Ag.mk s16.1 a19)).getD 0) kr (fun _ _=>by kernel_rfl) kr (fun _=>rfl) (by simp [Ap]) gE) <| hop 2 (fun _=>Q63 (ob:=8) (ke:=Am) (enc:=eI) (e:=Ap) (l:=s16.2) (n:=(Ag.mk s16.1 a19)) (v:=zw (((kget Ap s16.2 (Ag.mk s16.1 a19)).getD 0)+x14)) (w:=(kget Ap s16.2 (Ag.mk s16.1 a19)).getD 0) kr kr gE kr) <| htz 0 (wk_gcK (live:=[6,8,21,22,23]) (keep:=[11]) 8 Am eI (kput Ap s16.2 (Ag.mk s16.1 a19) (zw (((kget Ap s16.2 (Ag.mk s16.1 a19)).getD 0)+x14))) (fun f a=>rfl) (fun f a=>rfl) kr kr)
     refine hnx 2 (wk_gcK (live:=[6,8,21,22,23]) (keep:=[11]) 8 Am eI (kput Ap s16.2 (Ag.mk s16.1 a19) (zw (((kget Ap s16.2 (Ag.mk s16.1 a19)).getD 0)+x14))) (fun f a=>rfl) (fun f a=>rfl) kr kr)
    refine hdx 1 (wk_gcK (live:=[]) (keep:=[]) 8 Am eI s16.2 (fun f a=>rfl) (fun f a=>rfl) kr kr)
   refine hlp 7 (fun s23=>⟨Qio++[(4,.ref 10 0 s23.2.length),(5,vI s9.1),(6,vI s23.1)],(Qas (oX true true 1 (vI (zw (s9.2.1+x14)))) p0 p1 x1)++[Zh Am eI x22,Qgj,oR true 1 eI s23.2],61⟩) (fun v=>(.exit 2,⟨Qio++[(4,.ref 10 0 v.2.length),(5,vI s9.1),(6,vI v.1)],(Qas (oX true true 1 (vI (zw (s9.2.1+x14)))) p0 p1 x1)++[Zh Am eI x22,Qgj,oR true 1 eI v.2],61⟩)) (wk_gcK (live:=[0,1,2,4,5,6]) (keep:=[10]) 8 Am eI x22 (fun f a=>rfl) (fun f a=>rfl) kr kr) (fun s23=>?_) fun x34=>?_
   ·refine hbr 4 [32,33] (?_) ?_
    ·refine hbd fun a26 q27=>hop 2 (fun _=>Qq (enc:=eI) (l:=s23.2) (n:=s23.1) (w:=1) (ob:=10) (ro:=false) (nr:=true) (fl:=true) (a:=a26) kr kr gE q27) <| hop 0 (fun _=>Zg (enc:=eI) (l:=s23.2) (n:=s23.1) (w:=1) (ob:=10) (c:=0) (bx:=false) (ro:=false) (nr:=true) (fl:=true) (a:=a26) kr kr q27 gE) <| hbd fun a28 q29=>hop 4 (fun _=>Qj (enc:=Aj) (l:=x1.1.Net.Nodes) (n:=s23.1) (fl:=false) (w:=3) (a:=a28) kr kr gE q29) <| hbr 5 [46,47] (?_) ?_
     ·refine hop 3 (fun _=>Qq (enc:=eI) (l:=s23.2) (n:=s23.1) (w:=1) (ob:=10) (ro:=false) (nr:=true) (fl:=true) (a:=a26) kr kr gE q27) <| hop 0 (fun _=>Zm (enc:=eI) (l:=s23.2) (n:=s23.1) (ob:=10) (w:=1) (bx:=false) (nr:=true) (fl:=true) (c:=0) (a:=a26) (a':=0) (v:=vI 0) false kr kr q27 kr kr kr gE kr) <| hkl 0 [4,34,48] (ls s23.2 (zt s23.1) 0) <| hnx 3 (wk_gcK (live:=[0,1,2,4,5,6]) (keep:=[10]) 8 Am eI x22 (fun f a=>rfl) (fun f a=>rfl) kr kr)
     refine hdx 1 (wk_gcK (live:=[0,1,2,4,5,6]) (keep:=[10]) 8 Am eI x22 (fun f a=>rfl) (fun f a=>rfl) kr kr)
    refine hdx 15 (wk_gcK (live:=[0,1,2,4,5,6]) (keep:=[10]) 8 Am eI x22 (fun f a=>rfl) (fun f a=>rfl) kr kr)
   refine hbr 2 [54] (hdx 1 (wk_gcK (live:=[]) (keep:=[]) 8 Am eI x22 (fun f a=>rfl) (fun f a=>rfl) kr kr)) <| ?_
   refine hbd fun a37 q38=>hop 3 (fun _=>Qq (enc:=eI) (l:=x34.2) (n:=x34.1) (w:=1) (ob:=10) (ro:=false) (nr:=true) (fl:=true) (a:=a37) kr kr gE q38) <| hop 0 (fun _=>Zg (enc:=eI) (l:=x34.2) (n:=x34.1) (w:=1) (ob:=10) (c:=0) (bx:=false) (ro:=false) (nr:=true) (fl:=true) (a:=a37) kr kr q38 gE) <| hop 1 (fun _=>Qq (enc:=eI) (l:=x34.2) (n:=x34.1) (w:=1) (ob:=10) (ro:=false) (nr:=true) (fl:=true) (a:=a37) kr kr gE q38) <| hop 0 (fun _=>Zm (enc:=eI) (l:=x34.2) (n:=x34.1) (ob:=10) (w:=1) (bx:=false) (nr:=true) (fl:=true) (c:=0) (a:=a37) (a':=zw (a37+1)) (v:=vI (zw (a37+1))) false kr kr q38 kr kr kr gE kr) <| hkl 0 [4,55] (ls x34.2 (zt x34.1) (zw (a37+1))) <| hnx 3 (wk_gcK (live:=[0,1,2,4,5]) (keep:=[10]) 8 Am eI x22 (fun f a=>rfl) (fun f a=>rfl) kr kr)
  refine hlp 15 (fun s40=>⟨Qio++[(4,.ref 10 0 s40.2.length),(5,vI s9.1),(6,vI s40.1)],(Qas (oX true true 1 (vI s9.2.1)) p0 p1 x1)++[Zh Am eI s9.2.2.1,Qgj,oR true 1 eI s40.2],61⟩) (fun v=>(.exit 2,⟨Qio++[(4,.ref 10 0 v.2.length),(5,vI s9.1),(6,vI v.1)],(Qas (oX true true 1 (vI s9.2.1)) p0 p1 x1)++[Zh Am eI s9.2.2.1,Qgj,oR true 1 eI v.2],61⟩)) (wk_gcK (live:=[0,1,2,4,5,6]) (keep:=[10]) 8 Am eI s9.2.2.1 (fun f a=>rfl) (fun f a=>rfl) kr kr) (fun s40=>?_) fun x51=>?_
  ·refine hbr 4 [32,33] (?_) ?_
   ·refine hbd fun a43 q44=>hop 2 (fun _=>Qq (enc:=eI) (l:=s40.2) (n:=s40.1) (w:=1) (ob:=10) (ro:=false) (nr:=true) (fl:=true) (a:=a43) kr kr gE q44) <| hop 0 (fun _=>Zg (enc:=eI) (l:=s40.2) (n:=s40.1) (w:=1) (ob:=10) (c:=0) (bx:=false) (ro:=false) (nr:=true) (fl:=true) (a:=a43) kr kr q44 gE) <| hbd fun a45 q46=>hop 4 (fun _=>Qj (enc:=Aj) (l:=x1.1.Net.Nodes) (n:=s40.1) (fl:=false) (w:=3) (a:=a45) kr kr gE q46) <| hbr 5 [46,47] (?_) ?_
    ·refine hop 3 (fun _=>Qq (enc:=eI) (l:=s40.2) (n:=s40.1) (w:=1) (ob:=10) (ro:=false) (nr:=true) (fl:=true) (a:=a43) kr kr gE q44) <| hop 0 (fun _=>Zm (enc:=eI) (l:=s40.2) (n:=s40.1) (ob:=10) (w:=1) (bx:=false) (nr:=true) (fl:=true) (c:=0) (a:=a43) (a':=0) (v:=vI 0) false kr kr q44 kr kr kr gE kr) <| hkl 0 [4,34,48] (ls s40.2 (zt s40.1) 0) <| hnx 3 (wk_gcK (live:=[0,1,2,4,5,6]) (keep:=[10]) 8 Am eI s9.2.2.1 (fun f a=>rfl) (fun f a=>rfl) kr kr)
    refine hdx 1 (wk_gcK (live:=[0,1,2,4,5,6]) (keep:=[10]) 8 Am eI s9.2.2.1 (fun f a=>rfl) (fun f a=>rfl) kr kr)
   refine hdx 15 (wk_gcK (live:=[0,1,2,4,5,6]) (keep:=[10]) 8 Am eI s9.2.2.1 (fun f a=>rfl) (fun f a=>rfl) kr kr)
  refine hbr 2 [54] (hdx 1 (wk_gcK (live:=[]) (keep:=[]) 8 Am eI s9.2.2.1 (fun f a=>rfl) (fun f a=>rfl) kr kr)) <| ?_
  refine hbd fun a54 q55=>hop 3 (fun _=>Qq (enc:=eI) (l:=x51.2) (n:=x51.1) (w:=1) (ob:=10) (ro:=false) (nr:=true) (fl:=true) (a:=a54) kr kr gE q55) <| hop 0 (fun _=>Zg (enc:=eI) (l:=x51.2) (n:=x51.1) (w:=1) (ob:=10) (c:=0) (bx:=false) (ro:=false) (nr:=true) (fl:=true) (a:=a54) kr kr q55 gE) <| hop 1 (fun _=>Qq (enc:=eI) (l:=x51.2) (n:=x51.1) (w:=1) (ob:=10) (ro:=false) (nr:=true) (fl:=true) (a:=a54) kr kr gE q55) <| hop 0 (fun _=>Zm (enc:=eI) (l:=x51.2) (n:=x51.1) (ob:=10) (w:=1) (bx:=false) (nr:=true) (fl:=true) (c:=0) (a:=a54) (a':=zw (a54+1)) (v:=vI (zw (a54+1))) false kr kr q55 kr kr kr gE kr) <| hkl 0 [4,55] (ls x51.2 (zt x51.1) (zw (a54+1))) <| hnx 3 (wk_gcK (live:=[0,1,2,4,5]) (keep:=[10]) 8 Am eI s9.2.2.1 (fun f a=>rfl) (fun f a=>rfl) kr kr)
 refine hbr 2 [40] (hwk 3 (wl [4,5] []) <| hwk 12 (wl [6,7] []) <| hwk 0 (Xd 6 2 true true gE) <| hrt 1) <| ?_
 refine hwk 4 (wk_gcK (live:=[4,5]) (keep:=[3,4,5,8]) 8 Am eI x58.2 (fun f a=>rfl) (fun f a=>rfl) kr gE) <| hil 11 Tryd.func102 <| hbd fun a61 q62=>hop 6 (fun _=>Qj (enc:=Aj) (l:=x1.1.Net.Nodes) (n:=p2) (fl:=false) (w:=3) (a:=a61) kr kr gE q62) <| hoh 2 (fun _ _ h k=>mkL (enc:=Ak) (z:=((Qm.mk 0 0):Qm)) (z0:=.agg [vI 0,vI 0]) (n:=a61.Card) (m:=a61.Card) (w:=2) (bytes:=16) [] true kr kr gE kr h k) <| hlp 4 (fun s63=>⟨[(0,vI p2),(2,.ptr 4 0 0),(3,.ptr 5 0 0),(7,.ref 7 0 s63.2.length),(20,vI (((List.replicate (zt a61.Card) ((Qm.mk 0 0):Qm)).length):Int)),(21,vI s63.1)],(l69_106 p0 p1 x1 x58)++[oR true 2 Ak s63.2],43⟩) (fun x=>match x with | .inl v=>(.ret,⟨[(5,.nils),(6,vI v)],(l69_106 p0 p1 x1 x58),43⟩) | .inr v=>(.exit 0,⟨[(7,.ref 7 0 v.length)],(l69_106 p0 p1 x1 x58)++[oR true 2 Ak v],43⟩)) (wk_gcK (live:=[0,2,3,7,20,21]) (keep:=[7]) 6 Am eI x58.2 (fun f a=>rfl) (fun f a=>rfl) kr kr) (fun s63=>?_) (hsm (fun x74=>?_) (fun x75=>?_))
 ·refine hbr 1 [22] (?_) ?_
  ·refine hop 8 (fun _=>Qse (ob:=6) (kt:=185) (c:=false) (ke:=Am) (enc:=eI) (e:=Ap) (l:=x58.2) (n:=(Ag.mk p2 s63.1)) (z:=0) kr (fun _ _=>by kernel_rfl) kr (fun _=>rfl) gE) <| hcl 1 [] (g_frac_Make_ok ((kget Ap x58.2 (Ag.mk p2 s63.1)).getD 0) x58.1) fun x66 _=>hbr 8 [35] (hdx 4 (wk_gcK (live:=[5,6]) (keep:=[]) 6 Am eI x58.2 (fun f a=>rfl) (fun f a=>rfl) kr kr)) <| ?_
   refine hbd fun a70 q71=>hop 4 (fun _=>Qq (enc:=Ak) (l:=s63.2) (n:=s63.1) (w:=2) (ob:=7) (ro:=false) (nr:=true) (fl:=true) (a:=a70) kr kr gE q71) <| hop 0 (fun _=>Zm (enc:=Ak) (l:=s63.2) (n:=s63.1) (ob:=7) (w:=2) (bx:=false) (nr:=true) (fl:=true) (c:=0) (a:=a70) (a':=x66.1) (v:=.agg [vI x66.1.N,vI x66.1.D]) false kr kr q71 kr kr kr gE kr) <| hkl 0 [7,37] (ls s63.2 (zt s63.1) x66.1) <| hnx 2 (wk_gcK (live:=[0,2,3,7,20,21]) (keep:=[7]) 6 Am eI x58.2 (fun f a=>rfl) (fun f a=>rfl) kr kr)
  refine hdx 1 (wk_gcK (live:=[7]) (keep:=[7]) 6 Am eI x58.2 (fun f a=>rfl) (fun f a=>rfl) kr kr)
 ·refine hwk 4 (wl [6,7] []) <| hwk 0 (Xd 6 2 true true gE) <| hrt 1
 refine hwk 3 (wk_gcK (live:=[5,6]) (keep:=[7]) 6 Am eI x58.2 (fun f a=>rfl) (fun f a=>rfl) kr gE) <| hrt 6
noncomputable abbrev Qmy:AObj:=oX false false 1 (.fn (.func 103) [] [.ptr 0 0 0,.ptr 1 0 0,.ptr 2 0 0])
theorem Qng (p0:(List Int)) (p1:Int):Ct Tryd.prog 60 [eL true (AV.int .u64) p0,.int .u64 p1] (Qbq p0 p1) (fun x=>.int .u64 x) (fun x=>[]):=by
 refine hfn [] Tryd.func60 <| hop 0 (fun _=>sgL false [] [] false gE) <| hop 3 (fun _=>sgL false [] [] false gE) <| hrc 4 3 (fun s1=>⟨[(0,.int .u64 s1.1),(1,.ptr 0 0 0),(2,.ptr 1 0 0),(3,.ptr 2 0 0)],[oX true false 1 (eL true (AV.int .u64) p0),oX true true 1 (.int .u64 s1.2),Qmy],29⟩) (fun v=>⟨[],[oX true false 1 (eL true (AV.int .u64) p0),oX true true 1 (.int .u64 v),Qmy],29⟩) Tryd.func103 (fun r2 i3 s1=>?_) fun x14=>?_
 ·refine hop 1 (fun _=>Qr (enc:=(AV.int .u64)) (l:=p0) (fl:=true) kr gE) <| hlp 1 (fun s4=>⟨[(0,.int .u64 s1.1),(1,.ptr 0 0 0),(2,.ptr 1 0 0),(3,.ptr 2 0 0),(7,vI (zn p0)),(8,vI s4.1)],[oX true false 1 (eL true (AV.int .u64) p0),oX true true 1 (.int .u64 s4.2),Qmy],29⟩) (fun v=>(.exit 0,⟨[],[oX true false 1 (eL true (AV.int .u64) p0),oX true true 1 (.int .u64 v),Qmy],29⟩)) (wz []) (fun s4=>?_) fun x13=>?_
  ·refine hbr 1 [9] (?_) ?_
   ·refine hoh 7 (fun _ _ h k=>Yh (k:=.u64) (k':=.i64) (a:=zv (zb s1.1 &&& ~~~ zb s4.2).toNat) (b:=s4.1) kr gE h k) <| hbr 2 [17] (?_) ?_
    ·refine hoh 4 (fun _ _ h k=>Qdp (k:=.u64) (k':=.i64) (a:=1) (b:=s4.1) kr gE h k) <| hbd fun a9 q10=>hop 6 (fun _=>Qj (enc:=(AV.int .u64)) (l:=p0) (n:=s4.1) (fl:=true) (w:=1) (a:=a9) kr kr gE q10) <| hri 1 3 (fun v=>[(1,oX true true 1 (.int .u64 v))]) [1] Tryd.func103 (Qz4 kr) (fun v=>Qz4 kr) i3 fun x11=>hnx 2 (wz [])
    refine hnx 3 (wz [])
   refine hdx 1 (wz [])
  refine hre 0 (wz [])
 refine hrt 3
theorem g_net_Descendants_ok (p0:Qd) (p1:Int):Ct Tryd.prog 22 [.agg [vI p0.Grain,eL false Aj p0.Nodes],.int .u64 p1] (Vt p0 p1) (fun x=>.tup [.int .u64 x.1,vI x.2]) (fun x=>[]):=by
 refine hfn [] Tryd.func22 <| hop 0 (fun _=>sgL false [] [] false gE) <| hcl 3 [] (g_net_read_ok p0) fun x1 _=>hop 3 (fun _=>sgL false [] [] false gE) <| hbr 4 [18] (hrt 5) <| ?_
 refine hop 5 (fun _=>Qr (enc:=Aj) (l:=x1.1.Net.Nodes) (fl:=false) kr gE) <| hoh 0 (fun _ _ h k=>Yh (k:=.u64) (k':=.i64) (a:=p1) (b:=(zn x1.1.Net.Nodes)) kr gE h k) <| hbr 1 [26] (hrt 4) <| ?_
 refine hop 3 (fun _=>Qr (enc:=(AV.int .u64)) (l:=x1.1.sets) (fl:=true) kr gE) <| hoh 0 (fun _ _ h k=>mkL (enc:=(AV.int .u64)) (z:=(0:Int)) (z0:=.int .u64 0) (n:=(zn x1.1.sets)) (m:=(zn x1.1.sets)) (w:=1) (bytes:=8) [] true kr kr gE kr h k) <| hop 3 (fun _=>Qr (enc:=(AV.int .u64)) (l:=x1.1.sets) (fl:=true) kr gE) <| hlp 1 (fun s7=>⟨[(1,.int .u64 p1),(8,.ref 0 0 s7.2.length),(32,eL true (AV.int .u64) x1.1.sets),(33,vI (zn x1.1.sets)),(34,vI s7.1)],[oR true 1 (AV.int .u64) s7.2],61⟩) (fun v=>(.exit 0,⟨[(1,.int .u64 p1),(8,.ref 0 0 v.length)],[oR true 1 (AV.int .u64) v],61⟩)) (wz [2]) (fun s7=>?_) fun x21=>?_
 ·refine hbr 1 [35] (?_) ?_
  ·refine hbd fun a10 q11=>hop 2 (fun _=>Qj (enc:=(AV.int .u64)) (l:=x1.1.sets) (n:=s7.1) (fl:=true) (w:=1) (a:=a10) kr kr gE q11) <| hlp 6 (fun s12=>⟨[(1,.int .u64 p1),(8,.ref 0 0 s12.2.length),(9,vI s7.1),(10,.int .u64 a10),(32,eL true (AV.int .u64) x1.1.sets),(33,vI (zn x1.1.sets)),(34,vI s7.1),(40,vI (zn s7.2)),(41,vI s12.1)],[oR true 1 (AV.int .u64) s12.2],61⟩) (fun v=>(.exit 2,⟨[(1,.int .u64 p1),(8,.ref 0 0 v.length),(32,eL true (AV.int .u64) x1.1.sets),(33,vI (zn x1.1.sets)),(34,vI s7.1)],[oR true 1 (AV.int .u64) v],61⟩)) (wz [0]) (fun s12=>?_) fun x19=>?_
   ·refine hbr 1 [42] (?_) ?_
    ·refine hbd fun a15 q16=>hop 6 (fun _=>Qq (enc:=(AV.int .u64)) (l:=s12.2) (n:=s12.1) (w:=1) (ob:=0) (ro:=false) (nr:=true) (fl:=true) (a:=a15) kr kr gE q16) <| hop 0 (fun _=>Zg (enc:=(AV.int .u64)) (l:=s12.2) (n:=s12.1) (w:=1) (ob:=0) (c:=0) (bx:=false) (ro:=false) (nr:=true) (fl:=true) (a:=a15) kr kr q16 gE) <| hoh 2 (fun _ _ h k=>Yh (k:=.u64) (k':=.i64) (a:=a10) (b:=s12.1) kr gE h k) <| hoh 2 (fun _ _ h k=>Qdp (k:=.u64) (k':=.i64) (a:=zv (zb (Int.fdiv a10 (2^min (zt s12.1) zk)) &&& zb 1).toNat) (b:=s7.1) kr gE h k) <| hop 1 (fun _=>Qq (enc:=(AV.int .u64)) (l:=s12.2) (n:=s12.1) (w:=1) (ob:=0) (ro:=false) (nr:=true) (fl:=true) (a:=a15) kr kr gE q16) <| hop 0 (fun _=>Zm (enc:=(AV.int .u64)) (l:=s12.2) (n:=s12.1) (ob:=0) (w:=1) (bx:=false) (nr:=true) (fl:=true) (c:=0) (a:=a15) (a':=zv (zb a15 ||| zb (zv ((zv (zb (Int.fdiv a10 (2^min (zt s12.1) zk)) &&& zb 1).toNat)*2^min (zt s7.1) zk))).toNat) (v:=.int .u64 (zv (zb a15 ||| zb (zv ((zv (zb (Int.fdiv a10 (2^min (zt s12.1) zk)) &&& zb 1).toNat)*2^min (zt s7.1) zk))).toNat)) false kr kr q16 kr kr kr gE kr) <| hkl 0 [8,44] (ls s12.2 (zt s12.1) (zv (zb a15 ||| zb (zv ((zv (zb (Int.fdiv a10 (2^min (zt s12.1) zk)) &&& zb 1).toNat)*2^min (zt s7.1) zk))).toNat)) <| hnx 2 (wz [0])
    refine hdx 1 (wz [0])
   refine hnx 2 (wz [0])
  refine hdx 1 (wz [0])
 refine hcl 2 [F (AV.int .u64) x21] (Qng x21 p1) fun x22 _=>hrt 3
end
section
attribute [local irreducible] RW WP
noncomputable abbrev Qmq (p1:Af):AObj:=oX true true 9 (.agg [.int .u8 p1.Which,.int .u8 p1.V.1,.int .u8 p1.V.2.1,.int .u8 p1.V.2.2.1,.int .u8 p1.V.2.2.2.1,.int .u8 p1.V.2.2.2.2.1,.int .u8 p1.V.2.2.2.2.2.1,.int .u8 p1.V.2.2.2.2.2.2.1,.int .u8 p1.V.2.2.2.2.2.2.2])
noncomputable abbrev Qvw (p2:Af):AObj:=oX true true 9 (.agg [.int .u8 p2.Which,.int .u8 p2.V.1,.int .u8 p2.V.2.1,.int .u8 p2.V.2.2.1,.int .u8 p2.V.2.2.2.1,.int .u8 p2.V.2.2.2.2.1,.int .u8 p2.V.2.2.2.2.2.1,.int .u8 p2.V.2.2.2.2.2.2.1,.int .u8 p2.V.2.2.2.2.2.2.2])
noncomputable abbrev Qps (x5:Qd):AObj:=oX false false 2 (.agg [vI x5.Grain,.ref 5 0 x5.Nodes.length])
theorem g_law32_ActRoots_ok (p0:Qe) (p1:Af) (p2:Af) (p3:Int):Ct Tryd.prog 4 [.agg [.int .u8 p0.Grain,eL false Al p0.Nodes,eL true (AV.int .u8) p0.Order],.agg [.int .u8 p1.Which,.int .u8 p1.V.1,.int .u8 p1.V.2.1,.int .u8 p1.V.2.2.1,.int .u8 p1.V.2.2.2.1,.int .u8 p1.V.2.2.2.2.1,.int .u8 p1.V.2.2.2.2.2.1,.int .u8 p1.V.2.2.2.2.2.2.1,.int .u8 p1.V.2.2.2.2.2.2.2],.agg [.int .u8 p2.Which,.int .u8 p2.V.1,.int .u8 p2.V.2.1,.int .u8 p2.V.2.2.1,.int .u8 p2.V.2.2.2.1,.int .u8 p2.V.2.2.2.2.1,.int .u8 p2.V.2.2.2.2.2.1,.int .u8 p2.V.2.2.2.2.2.2.1,.int .u8 p2.V.2.2.2.2.2.2.2],.int .u8 p3] (Qb5 p0 p1 p2 p3) (fun x=>vB x) (fun x=>[]):=by
 refine hfn [] Tryd.func4 <| hop 0 (fun _=>sgL false [] [] false gE) <| hcl 3 [] (g_law32_works_ok ) fun x1 _=>hbr 1 [29] (hrt 3) <| ?_
 refine hcl 2 [] (Qji p0) fun x5 _=>hop 0 (fun _=>sgL false [] [] false gE) <| hoh 6 (fun _ _ h k=>Qc7 (k:=.i64) (a:=zw (p3)) (b:=(zn x5.Nodes)) kr gE h k) <| hoh 4 (fun _ _ h k=>mkL (enc:=eI) (z:=(0:Int)) (z0:=vI 0) (n:=(zn x5.Nodes)) (m:=(zn x5.Nodes)) (w:=1) (bytes:=8) [] true kr kr gE kr h k) <| hoh 4 (fun _ _ h k=>mkL (enc:=eI) (z:=(0:Int)) (z0:=vI 0) (n:=(zn x5.Nodes)) (m:=(zn x5.Nodes)) (w:=1) (bytes:=8) [] true kr kr gE kr h k) <| hcl 4 [F Aj x5.Nodes] (g_ref05_Known_Of_ok (Af.mk p1.Which (p1.V.1,p1.V.2.1,p1.V.2.2.1,p1.V.2.2.2.1,p1.V.2.2.2.2.1,p1.V.2.2.2.2.2.1,p1.V.2.2.2.2.2.2.1,p1.V.2.2.2.2.2.2.2)) x5) fun x7 _=>hlp 2 (fun s9=>⟨[(5,.ptr 0 0 0),(6,.ptr 1 0 0),(9,.ptr 2 0 0),(10,vI (Int.tmod (zw (p3)) (zn x5.Nodes))),(11,.ref 3 0 s9.2.2.1.length),(12,.ref 4 0 s9.2.2.2.length),(13,.int .u64 s9.1),(48,.ref 5 0 x7.length),(49,vI (zn x7)),(50,vI s9.2.1)],[(Qmq p1),(Qvw p2),oX false false 2 (.agg [vI x5.Grain,.ref 6 0 x5.Nodes.length]),oR true 1 eI s9.2.2.1,oR true 1 eI s9.2.2.2,oR true 1 eI x7,oR false 3 Aj x5.Nodes],177⟩) (fun v=>(.exit 0,⟨[(5,.ptr 0 0 0),(6,.ptr 1 0 0),(9,.ptr 2 0 0),(10,vI (Int.tmod (zw (p3)) (zn x5.Nodes))),(11,.ref 3 0 v.2.1.length),(12,.ref 4 0 v.2.2.length),(13,.int .u64 v.1)],[(Qmq p1),(Qvw p2),(Qps x5),oR true 1 eI v.2.1,oR true 1 eI v.2.2,oR false 3 Aj x5.Nodes],177⟩)) (wz [1,2,4,5,6,7,3]) (fun s9=>?_) fun x30=>?_
 ·refine hbr 1 [51] (?_) ?_
  ·refine hbd fun a12 q13=>hop 2 (fun _=>Qq (enc:=eI) (l:=x7) (n:=s9.2.1) (w:=1) (ob:=5) (ro:=false) (nr:=true) (fl:=true) (a:=a12) kr kr gE q13) <| hop 0 (fun _=>Zg (enc:=eI) (l:=x7) (n:=s9.2.1) (w:=1) (ob:=5) (c:=0) (bx:=false) (ro:=false) (nr:=true) (fl:=true) (a:=a12) kr kr q13 gE) <| hbd fun a14 q15=>hop 6 (fun _=>Qq (enc:=eI) (l:=s9.2.2.2) (n:=s9.2.1) (w:=1) (ob:=4) (ro:=false) (nr:=true) (fl:=true) (a:=a14) kr kr gE q15) <| hop 0 (fun _=>Zm (enc:=eI) (l:=s9.2.2.2) (n:=s9.2.1) (ob:=4) (w:=1) (bx:=false) (nr:=true) (fl:=true) (c:=0) (a:=a14) (a':=-1) (v:=vI (-1)) false kr kr q15 kr kr kr gE kr) <| hkl 0 [12,55] (ls s9.2.2.2 (zt s9.2.1) (-1)) <| hbd fun a16 q17=>hop 0 (fun _=>Qq (enc:=eI) (l:=s9.2.2.1) (n:=s9.2.1) (w:=1) (ob:=3) (ro:=false) (nr:=true) (fl:=true) (a:=a16) kr kr gE q17) <| ?_
   refine hop 0 (fun _=>Zm (enc:=eI) (l:=s9.2.2.1) (n:=s9.2.1) (ob:=3) (w:=1) (bx:=false) (nr:=true) (fl:=true) (c:=0) (a:=a16) (a':=-1) (v:=vI (-1)) false kr kr q17 kr kr kr gE kr) <| hkl 0 [11,57] (ls s9.2.2.1 (zt s9.2.1) (-1)) <| hbd fun a18 q19=>hop 3 (fun _=>Qq (enc:=Aj) (l:=x5.Nodes) (n:=s9.2.1) (w:=3) (ob:=6) (ro:=false) (nr:=true) (fl:=false) (a:=a18) kr kr gE q19) <| hop 1 (fun _=>Zg (enc:=Aj) (l:=x5.Nodes) (n:=s9.2.1) (w:=3) (ob:=6) (c:=1) (bx:=false) (ro:=false) (nr:=true) (fl:=false) (a:=a18) kr kr q19 gE) <| hop 0 (fun _=>Qr (enc:=eI) (l:=a18.Parents) (fl:=true) kr gE) <| hbr 1 [68] (?_) ?_
   ·refine hop 4 (fun _=>Qq (enc:=eI) (l:=(List.set s9.2.2.2 (zt s9.2.1) (-1))) (n:=s9.2.1) (w:=1) (ob:=4) (ro:=false) (nr:=true) (fl:=true) (a:=(-1)) kr kr gE (Qf7 (-1) q15)) <| hop 0 (fun _=>Zm (enc:=eI) (l:=(List.set s9.2.2.2 (zt s9.2.1) (-1))) (n:=s9.2.1) (ob:=4) (w:=1) (bx:=false) (nr:=true) (fl:=true) (c:=0) (a:=(-1)) (a':=a12) (v:=vI a12) false kr kr (Qf7 (-1) q15) kr kr kr gE kr) <| hkl 0 [12,55,69] (ls (List.set s9.2.2.2 (zt s9.2.1) (-1)) (zt s9.2.1) a12) <| hbr 2 [74] (hoh 3 (fun _ _ h k=>Qdp (k:=.u64) (k':=.i64) (a:=1) (b:=s9.2.1) kr gE h k) <| hnx 4 (wz [0,1,2,3,4,5,6])) <| ?_
    refine hnx 3 (wz [0,1,2,3,4,5,6])
   refine hbr 3 [74] (hoh 3 (fun _ _ h k=>Qdp (k:=.u64) (k':=.i64) (a:=1) (b:=s9.2.1) kr gE h k) <| hnx 4 (wz [0,1,2,3,4,5,6])) <| ?_
   refine hnx 3 (wz [0,1,2,3,4,5,6])
  refine hdx 1 (wz [0,1,2,3,4,6])
 refine hcl 2 [F Aj x5.Nodes] (g_ref05_Known_Of_ok (Af.mk p2.Which (p2.V.1,p2.V.2.1,p2.V.2.2.1,p2.V.2.2.2.1,p2.V.2.2.2.2.1,p2.V.2.2.2.2.2.1,p2.V.2.2.2.2.2.2.1,p2.V.2.2.2.2.2.2.2)) x5) fun x31 _=>hlp 4 (fun s33=>⟨[(5,.ptr 0 0 0),(9,.ptr 1 0 0),(10,vI (Int.tmod (zw (p3)) (zn x5.Nodes))),(11,.ref 2 0 x30.2.1.length),(12,.ref 3 0 x30.2.2.length),(13,.int .u64 x30.1),(16,.ref 4 0 s33.2.length),(84,vI (zn x31)),(85,vI s33.1)],[(Qmq p1),(Qps x5),oR true 1 eI x30.2.1,oR true 1 eI x30.2.2,oR true 1 eI s33.2,oR false 3 Aj x5.Nodes],177⟩) (fun v=>(.exit 2,⟨[(5,.ptr 0 0 0),(9,.ptr 1 0 0),(10,vI (Int.tmod (zw (p3)) (zn x5.Nodes))),(11,.ref 2 0 x30.2.1.length),(12,.ref 3 0 x30.2.2.length),(13,.int .u64 x30.1),(16,.ref 4 0 v.length)],[(Qmq p1),(Qps x5),oR true 1 eI x30.2.1,oR true 1 eI x30.2.2,oR true 1 eI v,oR false 3 Aj x5.Nodes],177⟩)) (wz [0,2,3,4,6,5]) (fun s33=>?_) fun x44=>?_
 ·refine hbr 1 [86] (?_) ?_
  ·refine hbd fun a36 q37=>hop 5 (fun _=>Qq (enc:=eI) (l:=x30.2.2) (n:=s33.1) (w:=1) (ob:=3) (ro:=false) (nr:=true) (fl:=true) (a:=a36) kr kr gE q37) <| hop 0 (fun _=>Zg (enc:=eI) (l:=x30.2.2) (n:=s33.1) (w:=1) (ob:=3) (c:=0) (bx:=false) (ro:=false) (nr:=true) (fl:=true) (a:=a36) kr kr q37 gE) <| hbr 1 [92] (?_) ?_
   ·refine hop 5 (fun _=>Qq (enc:=eI) (l:=x30.2.2) (n:=s33.1) (w:=1) (ob:=3) (ro:=false) (nr:=true) (fl:=true) (a:=a36) kr kr gE q37) <| hop 0 (fun _=>Zg (enc:=eI) (l:=x30.2.2) (n:=s33.1) (w:=1) (ob:=3) (c:=0) (bx:=false) (ro:=false) (nr:=true) (fl:=true) (a:=a36) kr kr q37 gE) <| hbd fun a40 q41=>hop 0 (fun _=>Qq (enc:=eI) (l:=s33.2) (n:=s33.1) (w:=1) (ob:=4) (ro:=false) (nr:=true) (fl:=true) (a:=a40) kr kr gE q41) <| hop 0 (fun _=>Zm (enc:=eI) (l:=s33.2) (n:=s33.1) (ob:=4) (w:=1) (bx:=false) (nr:=true) (fl:=true) (c:=0) (a:=a40) (a':=a36) (v:=vI a36) false kr kr q41 kr kr kr gE kr) <| hkl 0 [16,93] (ls s33.2 (zt s33.1) a36) <| hnx 2 (wz [0,1,2,3,4,5])
   refine hnx 3 (wz [0,1,2,3,4,5])
  refine hdx 1 (wz [0,1,2,3,4,5])
 refine hcl 4 [F Aj x5.Nodes,F eI x30.2.2,F eI x44] (g_act_Effect_ok x5 x30.2.2 x44 (Int.tmod (zw (p3)) (zn x5.Nodes))) fun x45 _=>hcl 8 [F Aj x5.Nodes,F eI x44] (Kr x5 x44 (Int.tmod (zw (p3)) (zn x5.Nodes))) fun x47 _=>hbq 8 [117,118] (fun q50=>?_) (fun q50=>?_)
 ·refine hbr 3 [120,121] (hrt 17) <| ?_
  refine hcl 2 [F Ak x45.1,F Ak x47.1] (Ku x45.1 x47.1) fun x53 _=>hbr 4 [125,126,127,128] (hrt 10) <| ?_
  refine hkb 3 [130,131] (Q28 q50) <| hcl 7 [F Aj x5.Nodes] (g_net_Descendants_ok x5 x30.1) fun x58 _=>hbr 7 [143] (hrt 3) <| ?_
  refine hoh 3 (fun _ _ h k=>Yh (k:=.u64) (k':=.i64) (a:=x58.1) (b:=Int.tmod (zw (p3)) (zn x5.Nodes)) kr gE h k) <| hbr 2 [148] (hrt 3) <| ?_
  refine hcl 5 [F Aj x5.Nodes] (us:=[.agg [.int .u8 p1.Which,.int .u8 p1.V.1,.int .u8 p1.V.2.1,.int .u8 p1.V.2.2.1,.int .u8 p1.V.2.2.2.1,.int .u8 p1.V.2.2.2.2.1,.int .u8 p1.V.2.2.2.2.2.1,.int .u8 p1.V.2.2.2.2.2.2.1,.int .u8 p1.V.2.2.2.2.2.2.2],.agg [vI x5.Grain,eL false Aj x5.Nodes]]) (rv:=fun x64=>z1 x64) (ro:=fun x64=>[]) (fun x64 q65=>Q3.froz (g_ref05_Known_Of_ok (Af.mk p1.Which (p1.V.1,p1.V.2.1,p1.V.2.2.1,p1.V.2.2.2.1,p1.V.2.2.2.2.1,p1.V.2.2.2.2.2.1,p1.V.2.2.2.2.2.2.1,p1.V.2.2.2.2.2.2.2)) x5 x64 q65) (Xg (w:=1) (bx:=false) (ro:=false) (enc:=eI) (l:=x64) (fl:=true) rfl)) fun x64 _=>hcl 2 [F Aj x5.Nodes,F eI x30.2.1] (us:=[.agg [vI x5.Grain,eL false Aj x5.Nodes],z1 x64,z1 x30.2.1,vI (Int.tmod (zw (p3)) (zn x5.Nodes))]) (rv:=fun x66=>.tup [eL true Ak x66.1,vI x66.2]) (ro:=fun x66=>[]) (fun x66 q67=>Q3.froz (g_act_Effect_ok x5 x64 x30.2.1 (Int.tmod (zw (p3)) (zn x5.Nodes)) x66 q67) (Quj (Q6 (Xg (w:=2) (bx:=false) (ro:=false) (enc:=Ak) (l:=x66.1) (fl:=true) rfl) (Q6 rfl V4 (by rfl)) (by rfl)))) fun x66 _=>hcl 8 [F Aj x5.Nodes,F eI x30.2.1] (Kr x5 x30.2.1 (Int.tmod (zw (p3)) (zn x5.Nodes))) fun x68 _=>hbr 8 [167,168] (?_) ?_
  ·refine hbr 4 [170,171,172] (hcl 2 [F Ak x68.1] (Ku x66.1 x68.1) fun x74 _=>hrt 3) <| ?_
   refine hrt 6
  refine hrt 10
 refine hkb 13 [130,131] (Q28 q50) <| hbr 4 [133,134,135] (hrt 3) <| ?_
 refine hcl 3 [F Aj x5.Nodes] (g_net_Descendants_ok x5 x30.1) fun x79 _=>hbr 7 [143] (hrt 3) <| ?_
 refine hoh 3 (fun _ _ h k=>Yh (k:=.u64) (k':=.i64) (a:=x79.1) (b:=Int.tmod (zw (p3)) (zn x5.Nodes)) kr gE h k) <| hbr 2 [148] (hrt 3) <| ?_
 refine hcl 5 [F Aj x5.Nodes] (us:=[.agg [.int .u8 p1.Which,.int .u8 p1.V.1,.int .u8 p1.V.2.1,.int .u8 p1.V.2.2.1,.int .u8 p1.V.2.2.2.1,.int .u8 p1.V.2.2.2.2.1,.int .u8 p1.V.2.2.2.2.2.1,.int .u8 p1.V.2.2.2.2.2.2.1,.int .u8 p1.V.2.2.2.2.2.2.2],.agg [vI x5.Grain,eL false Aj x5.Nodes]]) (rv:=fun x85=>z1 x85) (ro:=fun x85=>[]) (fun x85 q86=>Q3.froz (g_ref05_Known_Of_ok (Af.mk p1.Which (p1.V.1,p1.V.2.1,p1.V.2.2.1,p1.V.2.2.2.1,p1.V.2.2.2.2.1,p1.V.2.2.2.2.2.1,p1.V.2.2.2.2.2.2.1,p1.V.2.2.2.2.2.2.2)) x5 x85 q86) (Xg (w:=1) (bx:=false) (ro:=false) (enc:=eI) (l:=x85) (fl:=true) rfl)) fun x85 _=>hcl 2 [F Aj x5.Nodes,F eI x30.2.1] (us:=[.agg [vI x5.Grain,eL false Aj x5.Nodes],z1 x85,z1 x30.2.1,vI (Int.tmod (zw (p3)) (zn x5.Nodes))]) (rv:=fun x87=>.tup [eL true Ak x87.1,vI x87.2]) (ro:=fun x87=>[]) (fun x87 q88=>Q3.froz (g_act_Effect_ok x5 x85 x30.2.1 (Int.tmod (zw (p3)) (zn x5.Nodes)) x87 q88) (Quj (Q6 (Xg (w:=2) (bx:=false) (ro:=false) (enc:=Ak) (l:=x87.1) (fl:=true) rfl) (Q6 rfl V4 (by rfl)) (by rfl)))) fun x87 _=>hcl 8 [F Aj x5.Nodes,F eI x30.2.1] (Kr x5 x30.2.1 (Int.tmod (zw (p3)) (zn x5.Nodes))) fun x89 _=>hbr 8 [167,168] (?_) ?_
 ·refine hbr 4 [170,171,172] (hcl 2 [F Ak x89.1] (Ku x87.1 x89.1) fun x95 _=>hrt 3) <| ?_
  refine hrt 6
 refine hrt 10
end
end Go.Ab
namespace Go.Ab
open Go
theorem J5 {σ ρ:Type} {body:σ->Option (Qh σ ρ)} (I:σ->Prop) (m:σ->Nat) (Q:ρ->Prop)
  (step:∀s,I s->(∃s',body s=some (.next s')/\I s'/\m s' < m s)\/(∃r,body s=some (.done r)/\Q r)) :
  ∀(n:Nat) (s:σ),I s->m s < n->∃r,Qc n body s=some r/\Q r
 | 0,s,_,h=>by omega
 | n+1,s,hI,h=>by
  unfold Qc
  rcases step s hI with ⟨s',h1,h2,h3⟩ | ⟨r,h1,h2⟩
  ·rw [h1]
   exact J5 I m Q step n s' h2 (by omega)
  rw [h1]
  exact ⟨r,rfl,h2⟩
theorem Qrd {σ ρ:Type} {body:σ->Option (Qh σ ρ)} (I:σ->Prop) (m:σ->Nat) (r:ρ)
  (step:∀s,I s->(∃s',body s=some (.next s')/\I s'/\m s' < m s)\/body s=some (.done r)) (s:σ) (hI:I s) (hm:m s < 1152921504606846976):Qc fuel body s=some r:=by
 obtain ⟨r',h1,h2⟩:=J5 I m (fun x=>x=r) (fun s hs=>(step s hs).imp id fun h=>⟨r,h,rfl⟩) fuel s hI hm
 rw [h1,h2]
theorem V2 {σ ρ:Type} {body:σ->Option (Qh σ ρ)} (I:σ->Prop) (m:σ->Nat) (Q:ρ->Prop)
  (step:∀s,I s->(∃s',body s=some (.next s')/\I s'/\m s' < m s)\/(∃r,body s=some (.done r)/\Q r)) (s:σ) (hI:I s) (hm:m s < 1152921504606846976):∃r,Qc fuel body s=some r/\Q r :=
 J5 I m Q step fuel s hI hm
theorem Qsv {σ ρ:Type} {body:σ->Option (Qh σ ρ)} (f:Nat -> σ) (n:Nat) (r:ρ) (step:∀k,k < n->body (f k)=some (.next (f (k+1)))) (done:body (f n)=some (.done r)) (hn:n < 1152921504606846976) :
  Qc fuel body (f 0)=some r:=by
 have key:∀(j N k:Nat),k+j=n->j < N->Qc N body (f k)=some r:=by
  intro j
  induction j with
  | zero =>
   intro N k hk hN
   obtain ⟨N,rfl⟩:∃M,N=M+1:=⟨N - 1,by omega⟩
   have:k=n:=by omega
   subst this
   simp [Qc,done]
  | succ j ih =>
   intro N k hk hN
   obtain ⟨N,rfl⟩:∃M,N=M+1:=⟨N - 1,by omega⟩
   simp only [Qc,step k (by omega)]
   exact ih N (k+1) (by omega) (by omega)
 exact key n fuel 0 (by omega) hn
theorem Xx {σ ρ:Type} {body:σ->Option (Qh σ ρ)} {s0:σ} (f:Nat -> σ) (n:Nat) (r:ρ) (h0:f 0=s0) (step:∀k,k < n->body (f k)=some (.next (f (k+1)))) (done:body (f n)=some (.done r)) (hn:n < 1152921504606846976) :
  Qc fuel body s0=some r:=by rw [<-h0]; exact Qsv f n r step done hn
theorem w64 {n:Int} (h:-9223372036854775808<=n/\n<=9223372036854775807):zw n=n:=by show IntKind.wrap .i64 n=n; rw [IntKind.wrap_i64]; omega
theorem Y4 {α:Type} {l:List α} {k:Nat} (h:k < l.length):lkI l (k:Int)=some l[k]:=by
 unfold lkI
 rw [aI (by omega),aQ,aG h]
theorem Qnv {a b:Int} (h:0<=a):Int.tdiv a b=a / b:=Int.tdiv_eq_ediv_of_nonneg h
theorem Kn {a b:Int} (h:0<=a):Int.tmod a b=a % b:=Int.tmod_eq_emod_of_nonneg h
def dgs (n:Nat):List Int:=if h:n=0 then [] else ((n % 10000:Nat):Int)::dgs (n / 10000)
termination_by n
decreasing_by omega
def Qqr:List Int->Nat
 | []=>0
 | x::l=>x.toNat + 10000*Qqr l
def Quq (l:List Int):Prop:=∀x∈l,0<=x/\x < 10000
theorem Qjc:dgs 0=[]:=by rw [dgs]; simp
theorem Qqg {n:Nat} (h:n≠0):dgs n=((n % 10000:Nat):Int)::dgs (n / 10000):=by rw [dgs]; simp [h]
theorem Q2c (n:Nat):Qqr (dgs n)=n:=by
 induction n using Nat.strongRecOn with
 | _ n ih =>
  by_cases h:n=0
  ·subst h; rw [Qjc]; rfl
  rw [Qqg h]
  simp only [Qqr]
  rw [ih (n / 10000) (by omega)]
  omega
theorem Q16 (n:Nat):Quq (dgs n):=by
 induction n using Nat.strongRecOn with
 | _ n ih =>
  by_cases h:n=0
  ·subst h; rw [Qjc]; intro x hx; cases hx
  rw [Qqg h]
  intro x hx
  rcases cC.1 hx with rfl | hx
  ·omega
  exact ih (n / 10000) (by omega) x hx
theorem Q0d {x:Int} {l:List Int}:Quq (x::l)↔(0<=x/\x < 10000)/\Quq l:=by simp [Quq]
theorem Q3o {l:List Int} (h:Quq l):Qqr l < 10000^l.length:=by
 induction l with
 | nil=>simp [Qqr]
 | cons x l ih =>
  rw [Q0d] at h
  have:=ih h.2
  simp only [Qqr,dG,Nat.pow_succ]
  omega
theorem Qe2 {n K:Nat} (h:n < 10000^K):(dgs n).length<=K:=by
 induction K generalizing n with
 | zero=>simp at h; subst h; rw [Qjc]; simp
 | succ K ih =>
  by_cases h0:n=0
  ·subst h0; rw [Qjc]; simp
  rw [Qqg h0]
  simp only [dG]
  have:=ih (n:=n / 10000) (by rw [Nat.pow_succ] at h; omega)
  omega
theorem Qti (n:Nat):n < 10000^(dgs n).length:=by
 have:=Q3o (Q16 n)
 rwa [Q2c] at this
end Go.Ab
namespace Go.Ab
open Go
def msk:Nat -> (Nat -> Bool)->Nat
 | 0,_=>0
 | n+1,p=>msk n p ||| (if p n then 2^n else 0)
theorem Qge (n:Nat) (p:Nat -> Bool) (i:Nat):(msk n p).testBit i=(decide (i < n) && p i):=by
 induction n with
 | zero=>simp [msk]
 | succ n ih =>
  unfold msk
  rw [bF,ih]
  by_cases h:i=n
  ·subst h
   cases hp:p i <;> simp [hp]
  have e:decide (i < n+1)=decide (i < n):=by by_cases h2:i < n <;> simp [h2] <;> omega
  rw [e]
  cases hp:p n
  ·simp
  simp only [eK,dA]
  have e2:¬ n=i:=fun e=>h e.symm
  simp [e2]
theorem Qco {n:Nat} (h:n < 18446744073709551616):zv (n:Int)=(n:Int):=by
 simp [IntKind.wrap,IntKind.bits,IntKind.signed]; omega
theorem Qda {a:Nat} (h:a < 18446744073709551616):(zb (a:Int)).toNat = a:=by
 show (BitVec.ofInt IntKind.u64.bits (a:Int)).toNat = a
 rw [BitVec.ofInt_natCast,BitVec.toNat_ofNat]
 exact Nat.mod_eq_of_lt h
theorem Qn2 {a k:Nat}:Int.fdiv (a:Int) ((2:Int)^k)=((a / 2^k:Nat):Int):=by
 rw [Int.fdiv_eq_ediv_of_nonneg _ (by exact_mod_cast eC (2^k))]
 simp
theorem Qxt {a k:Nat} (ha:a < 18446744073709551616) (hk:k < 64) :
  zv (zb (Int.fdiv (a:Int) (2^min (Int.toNat (k:Int)) zk)) &&& zb 1).toNat = ((a.testBit k).toNat : Int):=by
 have hb:zk=64:=rfl
 have e0:min (Int.toNat (k:Int)) zk=k:=by rw [hb,aQ]; omega
 rw [e0,Qn2]
 have h1:a / 2^k < 18446744073709551616:=Nat.lt_of_le_of_lt (Nat.div_le_self _ _) ha
 have e1:(zb ((a / 2^k:Nat):Int) &&& zb 1).toNat = (a / 2^k) % 2:=by
  rw [BitVec.toNat_and,Qda h1,show (zb 1).toNat = 1 from rfl,Nat.and_one_is_mod]
 rw [e1,Qco (by omega)]
 have e2:a.testBit k=((a / 2^k) % 2==1):=by rw [Nat.testBit_eq_decide_div_mod_eq]; rfl
 rw [e2]
 rcases Nat.mod_two_eq_zero_or_one (a / 2^k) with h | h <;> rw [h] <;> rfl
def cnt:Nat -> (Nat -> Bool)->Nat
 | 0,_=>0
 | n+1,p=>cnt n p+(p n).toNat
theorem Qmf {n:Nat} {p q:Nat -> Bool} (h:∀i,i < n->p i=q i):cnt n p=cnt n q:=by
 induction n with
 | zero=>rfl
 | succ n ih=>simp only [cnt]; rw [ih fun i hi=>h i (by omega),h n (by omega)]
theorem Q48 (n:Nat) (p:Nat -> Bool):cnt n p<=n:=by
 induction n with
 | zero=>exact aZ _
 | succ n ih =>
  simp only [cnt]; have:(p n).toNat <= 1:=by cases p n <;> decide
  omega
theorem Q1j {n:Nat} {p q:Nat -> Bool} (h:∀i,i < n->p i=true->q i=true):cnt n p<=cnt n q:=by
 induction n with
 | zero=>exact aZ _
 | succ n ih =>
  simp only [cnt]
  have h1:=ih fun i hi=>h i (by omega)
  have h2:=h n (by omega)
  cases hp:p n with
  | false =>
   have:false.toNat = 0:=rfl
   omega
  | true=>rw [h2 hp]; omega
theorem Q3z {n:Nat} {p:Nat -> Bool} {i:Nat} (hi:i < n) (h:p i=true):0 < cnt n p:=by
 induction n with
 | zero=>omega
 | succ n ih =>
  simp only [cnt]
  by_cases e:i=n
  ·subst e; rw [h]; show 0 < _+1; omega
  have:=ih (by omega); omega
theorem Qvy {n v:Nat} {p:Nat -> Bool} (hv:v < n) (h:p v=true):cnt n (fun i=>p i && !decide (v=i))+1=cnt n p:=by
 induction n with
 | zero=>omega
 | succ n ih =>
  simp only [cnt]
  by_cases e:v=n
  ·subst e
   rw [Qmf (n:=v) (q:=p) fun i hi=>by simp; intro _; omega,h]
   simp
  have:=ih (by omega)
  have e2:(p n && !decide (v=n))=p n:=by simp; intro _; exact e
  rw [e2]; omega
theorem Qcr {k:Nat} (h:k < 9223372036854775807):zw ((k:Int)+1)=((k+1:Nat):Int):=by rw [w64 (by omega)]; omega
theorem Qjh {τ ρ σ:Type} {n k0:Nat} (hk:k0<=n) (hn:n < 1152921504606846976) (mkS:Int->τ->σ) {body:σ->Option (Qh σ ρ)} (I:Nat -> τ->Prop) (Q:ρ->Prop)
  (step:∀(k:Nat) (t:τ),k0<=k->k < n->I k t->(∃t',body (mkS (k:Int) t)=some (.next (mkS (zw ((k:Int)+1)) t'))/\I (k+1) t')\/(∃r,body (mkS (k:Int) t)=some (.done r)/\Q r))
  (done:∀t,I n t->∃r,body (mkS (n:Int) t)=some (.done r)/\Q r) (t0:τ) (h0:I k0 t0):∃r,Qc fuel body (mkS (k0:Int) t0)=some r/\Q r:=by
 have key:∀(j N k:Nat) (t:τ),k+j=n->k0<=k->j < N->I k t->∃r,Qc N body (mkS (k:Int) t)=some r/\Q r:=by
  intro j
  induction j with
  | zero =>
   intro N k t e hk hN hI
   obtain ⟨N,rfl⟩:∃M,N=M+1:=⟨N - 1,by omega⟩
   have:k=n:=by omega
   subst this
   obtain ⟨r,b1,b2⟩:=done t hI
   simp only [Qc,b1]
   exact ⟨r,rfl,b2⟩
  | succ j ih =>
   intro N k t e hk hN hI
   obtain ⟨N,rfl⟩:∃M,N=M+1:=⟨N - 1,by omega⟩
   rcases step k t hk (by omega) hI with ⟨t',b1,b2⟩ | ⟨r,b1,b2⟩
   ·rw [Qcr (by omega)] at b1
    simp only [Qc,b1]
    exact ih N (k+1) t' (by omega) (by omega) (by omega) b2
   simp only [Qc,b1]
   exact ⟨r,rfl,b2⟩
 exact key (n - k0) fuel k0 t0 (by omega) (aZ _) (by show n - k0 < 1152921504606846976; omega) h0
theorem Xy {τ ρ σ:Type} {n k0:Nat} (hk:k0<=n) (hn:n < 1152921504606846976) (mkS:Int->τ->σ) {body:σ->Option (Qh σ ρ)} (T:Nat -> τ) (r:ρ)
  (step:∀(k:Nat),k0<=k->k < n->body (mkS (k:Int) (T k))=some (.next (mkS (zw ((k:Int)+1)) (T (k+1)))))
  (done:body (mkS (n:Int) (T n))=some (.done r)):Qc fuel body (mkS (k0:Int) (T k0))=some r:=by
 obtain ⟨r',h1,h2⟩:=Qjh hk hn mkS (body:=body) (fun k t=>t=T k) (fun x=>x=r) (fun k t a b c=>.inl ⟨T (k+1),by rw [c]; exact step k a b,rfl⟩) (fun t h=>⟨r,by rw [h]; exact done,rfl⟩) (T k0) rfl
 rw [h1,h2]
theorem dlt {k n:Nat} (h:k < n):decide ((k:Int) < (n:Int))=true:=cT (by omega)
theorem nlt (n:Nat):¬ (decide ((n:Int) < (n:Int))=true):=by simp
def nI (l:List Nat):List Int:=l.map fun (k:Nat)=>(k:Int)
theorem Qdl (l:List Nat):(nI l).length=l.length:=by simp [nI]
theorem Qmk {l:List Nat} {k:Nat} (h:k < l.length):lkI (nI l) (k:Int)=some (l[k]:Int):=by rw [Y4 (by rwa [Qdl])]; simp [nI]
end Go.Ab
