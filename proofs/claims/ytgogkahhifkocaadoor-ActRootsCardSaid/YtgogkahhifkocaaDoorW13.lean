/- Functions. No conditions. -/
import Derived.Test.YtgogkahhifkocaaDoorProg
import Derived.Shelf.Lays2
import Derived.Test.YtgogkahhifkocaaDoorW11
import Derived.KernelRfl
import Derived.Test.YtgogkahhifkocaaDoorW12
set_option maxRecDepth 100000
set_option maxHeartbeats 4000000
set_option linter.all false
namespace Go.Ab
open Go Go.Shelf Go.Proofs
def Qz5:Go.Shelf.Ren:=⟨fun | 21=>155 | 27=>162 | 28=>163 | 35=>170 | 39=>172 | n=>n,fun | 22=>34 | 3=>3 | 4=>4 | 0=>0 | n=>n,fun | n=>n⟩
theorem Q72:Go.Proofs.Lays2.n21 Tryd.prog Qz5:={
 mixed:=by kernel_rfl,
 f21:=Tryd.func155.trans (congrArg some (by kernel_rfl)),
 f27:=Tryd.func162.trans (congrArg some (by kernel_rfl)),
 f28:=Tryd.func163.trans (congrArg some (by kernel_rfl)),
 f35:=Tryd.func170.trans (congrArg some (by kernel_rfl)),
 f39:=Tryd.func172.trans (congrArg some (by kernel_rfl)),
 t0:=Tryd.underlying0,
 a0:=Tryd.isAgg0,
 z0:=Tryd.sizeOf0,
 v0:=Tryd.zeroValue0,
 t3:=Tryd.underlying3,
 a3:=Tryd.isAgg3,
 z3:=Tryd.sizeOf3,
 v3:=Tryd.zeroValue3,
 t4:=Tryd.underlying4,
 a4:=Tryd.isAgg4,
 z4:=Tryd.sizeOf4,
 v4:=Tryd.zeroValue4,
 t22:=Tryd.underlying34,
 a22:=Tryd.isAgg34,
 z22:=Tryd.sizeOf34,
 v22:=Tryd.zeroValue34,
 i3:=by kernel_rfl }
end Go.Ab
namespace Go.Ab
open Go Go.Proofs
theorem Qsx:Qhj Tryd.prog 48=true:=by kernel_rfl
section
attribute [local irreducible] RW WP
noncomputable abbrev o1_1 (p0:Qz):AObj:=oX true false 5 (.agg [vI p0.Net.Grain,eL false Aj p0.Net.Nodes,z1 p0.cards,eL true (AV.int .u64) p0.sets,z1 p0.order])
noncomputable abbrev o1_2 (p1:Ad):AObj:=oX true false 3 (.agg [vI p1.Card,z1 p1.Parents,z2 p1.Rows])
noncomputable abbrev o1_3:AObj:=oX true true 1 (vB false)
noncomputable abbrev o1_4:AObj:=.loop 66 [(2,.ptr 0 0 0),(3,.ptr 1 0 0),(4,.ptr 2 0 0),(34,.fn (.func 153) [] [.ptr 3 0 0])] [35,36] (cA Tryd.f90 [true,true,true,true,false,true,true]) (cB Tryd.f90 [true,true,true,true,false,true,true]) .ready none
noncomputable abbrev o1_5:AObj:=.loop 66 [(2,.ptr 0 0 0),(3,.ptr 1 0 0),(4,.ptr 2 0 0),(34,.fn (.func 153) [] [.ptr 3 0 0])] [35,36] (cA Tryd.f90 [true,true,true,true,false,true,true]) (cB Tryd.f90 [true,true,true,true,false,true,true]) .busy none
theorem Qg9 (p0:Qz) (p1:Ad):Ct Tryd.prog 90 [.agg [vI p0.Net.Grain,eL false Aj p0.Net.Nodes,z1 p0.cards,eL true (AV.int .u64) p0.sets,z1 p0.order],.agg [vI p1.Card,z1 p1.Parents,z2 p1.Rows]] (Vz p0 p1) (fun x=>vB x) (fun x=>[]):=by
 refine hfn [] Tryd.func90 <| hop 0 (fun _=>sgL false [] [] false gE) <| hop 0 (fun _=>sgL false [] [] false gE) <| hop 4 (fun _=>Qr (enc:=eI) (l:=p1.Parents) (fl:=true) kr gE) <| hlp 1 (fun s1=>⟨[(2,.ptr 0 0 0),(3,.ptr 1 0 0),(4,.ptr 2 0 0),(5,vI s1.1),(14,z1 p1.Parents),(15,vI (zn p1.Parents)),(16,vI s1.2)],[(o1_1 p0),(o1_2 p1),o1_3],66⟩) (fun v=>(.exit 0,⟨[(2,.ptr 0 0 0),(3,.ptr 1 0 0),(4,.ptr 2 0 0),(5,vI v)],[(o1_1 p0),(o1_2 p1),o1_3],66⟩)) (wz [0,1,2]) (fun s1=>?_) fun x9=>?_
 ·refine hbr 1 [17] (?_) ?_
  ·refine hbd fun a4 q5=>hop 1 (fun _=>Qj (enc:=eI) (l:=p1.Parents) (n:=s1.2) (fl:=true) (w:=1) (a:=a4) kr kr gE q5) <| hbd fun a6 q7=>hop 6 (fun _=>Qj (enc:=eI) (l:=p0.cards) (n:=a4) (fl:=true) (w:=1) (a:=a6) kr kr gE q7) <| hnx 5 (wz [0,1,2])
  refine hdx 1 (wz [0,1,2])
 refine hop 2 (fun _=>Qr (enc:=z1) (l:=p1.Rows) (fl:=false) kr gE) <| hbr 2 [32] (hrt 3) <| ?_
 refine hil 2 Tryd.func134 <| hop 0 (fun _=>sgL false [] [] false gE) <| hwk 3 (wl [2] [3]) <| hwk 1 (wl [2,3,4,34] [0,1,2,3]) <| hrg 0 Tryd.func153 <| hop 2 (fun _=>Qr (enc:=z1) (l:=p1.Rows) (fl:=false) kr gE) <| hlp 1 (fun s12=>⟨[(0,.yld 4),(6,z2 p1.Rows),(7,vI (zn p1.Rows)),(8,vI s12)],[(o1_1 p0),(o1_2 p1),o1_3,(o1_2 p1),o1_4],19⟩) (fun x=>match x with | .inl v=>(.ret,⟨[],[(o1_1 p0),(o1_2 p1),o1_3,(o1_2 p1),.loop 66 [(2,.ptr 0 0 0),(3,.ptr 1 0 0),(4,.ptr 2 0 0),(34,.fn (.func 153) [] [.ptr 3 0 0])] [35,36] (cA Tryd.f90 [true,true,true,true,false,true,true]) (cB Tryd.f90 [true,true,true,true,false,true,true]) .done (some .ret)],19⟩) | .inr v=>(.exit 0,⟨[],[(o1_1 p0),(o1_2 p1),o1_3,(o1_2 p1),o1_4],19⟩)) (wz []) (fun s12=>?_) (hsm (fun x34=>?_) (fun x35=>?_))
 ·refine hbr 1 [9] (?_) ?_
  ·refine hbd fun a15 q16=>hop 2 (fun _=>Qj (enc:=z1) (l:=p1.Rows) (n:=s12) (fl:=false) (w:=1) (a:=a15) kr kr gE q16) <| hyl 6 <| hop 6 (fun _=>Qr (enc:=eI) (l:=a15) (fl:=true) kr gE) <| hlp 1 (fun s17=>⟨[(3,.ptr 1 0 0),(4,.ptr 2 0 0),(9,z1 a15),(10,vI s17.1),(40,z1 a15),(41,vI (zn a15)),(42,vI s17.2)],[(o1_1 p0),(o1_2 p1),o1_3,(o1_2 p1),o1_5],66⟩) (fun x=>match x with | .inl v=>(.ret,⟨[(4,.ptr 2 0 0)],[(o1_1 p0),(o1_2 p1),o1_3,(o1_2 p1),o1_5],66⟩) | .inr v=>(.exit 4,⟨[(3,.ptr 1 0 0),(4,.ptr 2 0 0),(9,z1 a15),(10,vI v)],[(o1_1 p0),(o1_2 p1),o1_3,(o1_2 p1),o1_5],66⟩)) (wz []) (fun s17=>?_) (hsm (fun x27=>?_) (fun x28=>?_))
   ·refine hbr 1 [43] (?_) ?_
    ·refine hbd fun a20 q21=>hop 1 (fun _=>Qj (enc:=eI) (l:=a15) (n:=s17.2) (fl:=true) (w:=1) (a:=a20) kr kr gE q21) <| hbr 5 [47,48] (hdx 6 (wz [])) <| ?_
     refine hbr 4 [51,52] (hdx 2 (wz [])) <| ?_
     refine hnx 7 (wz [])
    refine hdx 1 (wz [])
   ·refine hdx 2 (wz [])
   refine hop 1 (fun _=>Qr (enc:=eI) (l:=a15) (fl:=true) kr gE) <| hbr 4 [61,62] (hwk 5 (wl [4] []) <| hdx 3 (wz [])) <| ?_
   refine hbr 3 [64,65] (hwk 2 (wl [4] []) <| hdx 3 (wz [])) <| ?_
   refine hnx 5 (wz [])
  refine hdx 1 (wz [])
 ·refine hrt 0
 refine hrt 2
theorem Qod (p0:(List Int)):Ct Tryd.prog 91 [eL true (AV.int .u64) p0] (Qc2 p0) (fun x=>.tup [.ref 0 0 x.1.length,vB x.2]) (fun x=>[oR true 1 eI x.1]):=by
 refine hfn [] Tryd.func91 <| hop 3 (fun _=>Qr (enc:=(AV.int .u64)) (l:=p0) (fl:=true) kr gE) <| hoh 0 (fun _ _ h k=>mkL (enc:=eI) (z:=(0:Int)) (z0:=vI 0) (n:=0) (m:=(zn p0)) (w:=1) (bytes:=8) [] true kr kr gE kr h k) <| hlp 2 (fun s1=>⟨[(0,eL true (AV.int .u64) p0),(4,.ref 0 0 s1.2.length),(5,.int .u64 s1.1)],[oR true 1 eI s1.2],44⟩) (fun x=>match x with | .inl v=>(.ret,⟨[(2,.ref 0 0 0),(3,vB false)],[.row false false true true 1 []],44⟩) | .inr v=>(.exit 0,⟨[(4,.ref 0 0 v.length)],[oR true 1 eI v],44⟩)) (wz [0]) (fun s1=>?_) (hsm (fun x17=>?_) (fun x18=>?_))
 ·refine hop 3 (fun _=>Qr (enc:=(AV.int .u64)) (l:=p0) (fl:=true) kr gE) <| hbr 1 [15] (?_) ?_
  ·refine hop 2 (fun _=>Qr (enc:=(AV.int .u64)) (l:=p0) (fl:=true) kr gE) <| hlp 1 (fun s4=>⟨[(0,eL true (AV.int .u64) p0),(4,.ref 0 0 s1.2.length),(5,.int .u64 s1.1),(16,eL true (AV.int .u64) p0),(17,vI (zn p0)),(18,vI s4)],[oR true 1 eI s1.2],44⟩) (fun x=>match x with | .inl v=>(.exit 1,⟨[(0,eL true (AV.int .u64) p0),(4,.ref 0 0 v.2.length),(5,.int .u64 v.1)],[oR true 1 eI v.2],44⟩) | .inr v=>(.exit 2,⟨[],[],44⟩)) (wz [0]) (fun s4=>?_) (hsm (fun x14=>?_) (fun x15=>?_))
   ·refine hbr 1 [19] (?_) ?_
    ·refine hbd fun a7 q8=>hop 2 (fun _=>Qj (enc:=(AV.int .u64)) (l:=p0) (n:=s4) (fl:=true) (w:=1) (a:=a7) kr kr gE q8) <| hoh 5 (fun _ _ h k=>Yh (k:=.u64) (k':=.i64) (a:=s1.1) (b:=s4) kr gE h k) <| hbr 3 [27,28] (?_) ?_
     ·refine hbr 5 [32,33] (?_) ?_
      ·refine hop 3 (fun _=>sgL false [] [] true gE) <| hoh 0 (fun _ _ h k=>Jb (enc:=eI) (l:=s1.2) (m:=([s4]:(List Int))) (w:=1) (bytes:=8) (ob:=0) (nr:=true) (fl:=true) (nr':=true) (fl':=true) (b:=.ref 1 0 1) (rds:=[1]) false kr kr kr kr gE kr h k) <| hoh 3 (fun _ _ h k=>Qdp (k:=.u64) (k':=.i64) (a:=1) (b:=s4) kr gE h k) <| hdx 2 (wz [2])
      refine hnx 3 (wz [0])
     refine hnx 8 (wz [0])
    refine hdx 1 (wz [])
   ·refine hnx 0 (wz [0])
   refine hwk 2 (wl [2,3] []) <| hwk 0 (Xd 2 1 true true gE) <| hdn 1
  refine hdx 1 (wz [0])
 ·refine hrt 0
 refine hrt 4
noncomputable abbrev Qp4 (a34:Int):Int:=(zv (1*2^min (zt a34) zk))
noncomputable abbrev o3_7:AObj:=oX true false 5 (.agg [vI 0,.nils,.nils,.nils,.nils])
noncomputable abbrev o3_8 (p0:Qd):AObj:=oR true 1 (AV.int .u64) (List.replicate (zt (zn p0.Nodes)) (0:Int))
noncomputable abbrev o3_9 (a29:Ad):AObj:=oX true false 3 (.agg [vI a29.Card,z1 a29.Parents,z2 a29.Rows])
noncomputable abbrev s3_10:List (Nat×AV):=[(2,.ptr 0 0 0),(4,.ptr 1 0 0)]
noncomputable abbrev u3_11:St:=⟨[(2,.ptr 0 0 0),(3,vI 50)],[o3_7],140⟩
theorem g_net_read_ok (p0:Qd):Ct Tryd.prog 51 [.agg [vI p0.Grain,eL false Aj p0.Nodes]] (Jq p0) (fun x=>.tup [.agg [vI x.1.Net.Grain,eL false Aj x.1.Net.Nodes,z1 x.1.cards,eL true (AV.int .u64) x.1.sets,z1 x.1.order],vI x.2]) (fun x=>[]):=by
 refine hfn [[.keep,.lst false,.lst true,.lst true,.lst true],[.keep]] Tryd.func51 <| hop 0 (fun _=>sgL false [] [] false gE) <| hop 0 (fun _=>sgL false [] [] false gE) <| hbr 5 [17,18] (hrt 21) <| ?_
 refine hbr 5 [21,22,23] (hrt 16) <| ?_
 refine hop 2 (fun _=>Qr (enc:=Aj) (l:=p0.Nodes) (fl:=false) kr gE) <| hbr 3 [27,28,29] (hrt 10) <| ?_
 refine hop 2 (fun _=>Qr (enc:=Aj) (l:=p0.Nodes) (fl:=false) kr gE) <| hbr 2 [33,34] (hrt 5) <| ?_
 refine hop 5 (fun _=>Qr (enc:=Aj) (l:=p0.Nodes) (fl:=false) kr gE) <| hoh 0 (fun _ _ h k=>mkL (enc:=eI) (z:=(0:Int)) (z0:=vI 0) (n:=(zn p0.Nodes)) (m:=(zn p0.Nodes)) (w:=1) (bytes:=8) [] true kr kr gE kr h k) <| hop 2 (fun _=>Qr (enc:=Aj) (l:=p0.Nodes) (fl:=false) kr gE) <| hoh 0 (fun _ _ h k=>mkL (enc:=(AV.int .u64)) (z:=(0:Int)) (z0:=.int .u64 0) (n:=(zn p0.Nodes)) (m:=(zn p0.Nodes)) (w:=1) (bytes:=8) [] true kr kr gE kr h k) <| hop 1 (fun _=>sgL false [] [] false gE) <| hop 5 (fun _=>Qr (enc:=Aj) (l:=p0.Nodes) (fl:=false) kr gE) <| hlp 1 (fun s9=>⟨s3_10++[(5,vI s9.1),(48,eL false Aj p0.Nodes),(49,vI (zn p0.Nodes)),(50,vI s9.2.1)],[o3_7,oX false false 5 (.agg [vI p0.Grain,eL false Aj p0.Nodes,.ref 2 0 s9.2.2.length,.ref 3 0 ((List.replicate (zt (zn p0.Nodes)) (0:Int)).length),.nils]),oR true 1 eI s9.2.2,(o3_8 p0)],140⟩) (fun x=>match x with | .inl v=>(.ret,u3_11) | .inr v=>(.exit 0,⟨s3_10++[(5,vI v.1)],[o3_7,oX false false 5 (.agg [vI p0.Grain,eL false Aj p0.Nodes,.ref 2 0 v.2.length,.ref 3 0 ((List.replicate (zt (zn p0.Nodes)) (0:Int)).length),.nils]),oR true 1 eI v.2,(o3_8 p0)],140⟩)) (wz [1,4,2,3]) (fun s9=>?_) (hsm (fun x22=>?_) (fun x23=>?_))
 ·refine hbr 1 [51] (?_) ?_
  ·refine hbd fun a12 q13=>hop 2 (fun _=>Qj (enc:=Aj) (l:=p0.Nodes) (n:=s9.2.1) (fl:=false) (w:=3) (a:=a12) kr kr gE q13) <| hop 1 (fun _=>sgL false [] [] false gE) <| hbr 6 [57,58] (hdx 8 (wz [0])) <| ?_
   refine hbr 4 [61,62] (hdx 4 (wz [0])) <| ?_
   refine hbd fun a18 q19=>hop 6 (fun _=>Qq (enc:=eI) (l:=s9.2.2) (n:=s9.2.1) (w:=1) (ob:=2) (ro:=false) (nr:=true) (fl:=true) (a:=a18) kr kr gE q19) <| hop 0 (fun _=>Zm (enc:=eI) (l:=s9.2.2) (n:=s9.2.1) (ob:=2) (w:=1) (bx:=false) (nr:=true) (fl:=true) (c:=0) (a:=a18) (a':=a12.Card) (v:=vI a12.Card) false kr kr q19 kr kr kr gE kr) <| hkn 0 (fun n20=>⟨s3_10++[(5,vI s9.1),(48,eL false Aj p0.Nodes),(49,vI (zn p0.Nodes)),(50,vI s9.2.1),(51,vB true),(52,vI s9.2.1),(53,.fz [vI a12.Card,z1 a12.Parents,z2 a12.Rows]),(54,.agg [vI a12.Card,z1 a12.Parents,z2 a12.Rows]),(7,.ptr 4 0 0),(6,vI s9.2.1),(55,.ptr 4 0 0),(56,vI a12.Card),(57,vB false),(58,vB false),(59,.ptr 4 0 0),(60,vI a12.Card),(61,vB false),(62,vB false),(64,.ptr 1 0 2),(65,.ref 2 0 n20),(66,vI s9.2.1),(67,.ptr 4 0 0),(68,vI a12.Card),(69,.ptr 2 (zt s9.2.1) 0)],[o3_7,oX false false 5 (.agg [vI p0.Grain,eL false Aj p0.Nodes,.ref 2 0 n20,.ref 3 0 ((List.replicate (zt (zn p0.Nodes)) (0:Int)).length),.nils]),oR true 1 eI (List.set s9.2.2 (zt s9.2.1) a12.Card),(o3_8 p0),oX true false 3 (.agg [vI a12.Card,z1 a12.Parents,z2 a12.Rows])],140⟩) (ls s9.2.2 (zt s9.2.1) a12.Card) <| hnx 7 (wz [0,1,2,3])
  refine hdx 1 (wz [0,1,2,3])
 ·refine hrt 0
 refine hbr 2 [76] (hrt 5) <| ?_
 refine hop 4 (fun _=>Qr (enc:=Aj) (l:=p0.Nodes) (fl:=false) kr gE) <| hlp 1 (fun s26=>⟨s3_10++[(80,eL false Aj p0.Nodes),(81,vI (zn p0.Nodes)),(82,vI s26.1)],[o3_7,oX false false 5 (.agg [vI p0.Grain,eL false Aj p0.Nodes,.ref 2 0 x23.2.length,.ref 3 0 s26.2.length,.nils]),oR true 1 eI x23.2,oR true 1 (AV.int .u64) s26.2],140⟩) (fun x=>match x with | .inl v=>(.ret,u3_11) | .inr v=>(.exit 2,⟨s3_10,[o3_7,oX false false 5 (.agg [vI p0.Grain,eL false Aj p0.Nodes,.ref 2 0 x23.2.length,.ref 3 0 v.length,.nils]),oR true 1 eI x23.2,oR true 1 (AV.int .u64) v],140⟩)) (wz [0,1,2,3]) (fun s26=>?_) (hsm (fun x53=>?_) (fun x54=>?_))
 ·refine hbr 1 [83] (?_) ?_
  ·refine hbd fun a29 q30=>hop 2 (fun _=>Qj (enc:=Aj) (l:=p0.Nodes) (n:=s26.1) (fl:=false) (w:=3) (a:=a29) kr kr gE q30) <| hop 1 (fun _=>sgL false [] [] false gE) <| hop 5 (fun _=>Qr (enc:=eI) (l:=a29.Parents) (fl:=true) kr gE) <| hlp 1 (fun s31=>⟨s3_10++[(8,vI s26.1),(9,.ptr 2 0 0),(10,vI s31.1),(80,eL false Aj p0.Nodes),(81,vI (zn p0.Nodes)),(82,vI s26.1),(88,z1 a29.Parents),(89,vI (zn a29.Parents)),(90,vI s31.2.1)],[o3_7,oX false false 5 (.agg [vI p0.Grain,eL false Aj p0.Nodes,.ref 3 0 x23.2.length,.ref 4 0 s31.2.2.length,.nils]),(o3_9 a29),oR true 1 eI x23.2,oR true 1 (AV.int .u64) s31.2.2],140⟩) (fun x=>match x with | .inl v=>(.ret,u3_11) | .inr v=>(.exit 4,⟨s3_10++[(9,.ptr 2 0 0),(80,eL false Aj p0.Nodes),(81,vI (zn p0.Nodes)),(82,vI s26.1)],[o3_7,oX false false 5 (.agg [vI p0.Grain,eL false Aj p0.Nodes,.ref 3 0 x23.2.length,.ref 4 0 v.length,.nils]),(o3_9 a29),oR true 1 eI x23.2,oR true 1 (AV.int .u64) v],140⟩)) (wz [0,1,4,2,3]) (fun s31=>?_) (hsm (fun x46=>?_) (fun x47=>?_))
   ·refine hbr 1 [91] (?_) ?_
    ·refine hbd fun a34 q35=>hop 1 (fun _=>Qj (enc:=eI) (l:=a29.Parents) (n:=s31.2.1) (fl:=true) (w:=1) (a:=a34) kr kr gE q35) <| hbr 6 [96,97] (hdx 16 (wz [0])) <| ?_
     refine hop 4 (fun _=>Qr (enc:=Aj) (l:=p0.Nodes) (fl:=false) kr gE) <| hbr 3 [103,104,105] (hdx 8 (wz [0])) <| ?_
     refine hbr 4 [108,109] (hdx 4 (wz [0])) <| ?_
     refine hbd fun a42 q43=>hop 7 (fun _=>Qq (enc:=(AV.int .u64)) (l:=s31.2.2) (n:=s26.1) (w:=1) (ob:=4) (ro:=false) (nr:=true) (fl:=true) (a:=a42) kr kr gE q43) <| hop 0 (fun _=>Zg (enc:=(AV.int .u64)) (l:=s31.2.2) (n:=s26.1) (w:=1) (ob:=4) (c:=0) (bx:=false) (ro:=false) (nr:=true) (fl:=true) (a:=a42) kr kr q43 gE) <| hoh 1 (fun _ _ h k=>Qdp (k:=.u64) (k':=.i64) (a:=1) (b:=a34) kr gE h k) <| hop 1 (fun _=>Qq (enc:=(AV.int .u64)) (l:=s31.2.2) (n:=s26.1) (w:=1) (ob:=4) (ro:=false) (nr:=true) (fl:=true) (a:=a42) kr kr gE q43) <| hop 0 (fun _=>Zm (enc:=(AV.int .u64)) (l:=s31.2.2) (n:=s26.1) (ob:=4) (w:=1) (bx:=false) (nr:=true) (fl:=true) (c:=0) (a:=a42) (a':=zv (zb a42 ||| zb (Qp4 a34)).toNat) (v:=.int .u64 (zv (zb a42 ||| zb (Qp4 a34)).toNat)) false kr kr q43 kr kr kr gE kr) <| hkn 0 (fun n44=>⟨s3_10++[(8,vI s26.1),(9,.ptr 2 0 0),(10,vI a34),(80,eL false Aj p0.Nodes),(81,vI (zn p0.Nodes)),(82,vI s26.1),(88,z1 a29.Parents),(89,vI (zn a29.Parents)),(90,vI s31.2.1),(91,vB true),(92,.fz [vI a34]),(93,vI a34),(12,vI a34),(94,vI a34),(95,vI s31.1),(96,vB false),(97,vB false),(98,vI a34),(99,.ptr 1 0 0),(100,.ptr 1 0 1),(101,eL false Aj p0.Nodes),(102,vI (zn p0.Nodes)),(103,vB false),(104,vB false),(105,vB false),(106,vI a34),(107,vI s26.1),(108,vB false),(109,vB false),(111,vI a34),(112,.ptr 1 0 3),(113,.ref 4 0 n44),(114,vI s26.1),(115,.ptr 4 (zt s26.1) 0),(116,.int .u64 a42),(117,vI a34),(118,.int .u64 (Qp4 a34)),(119,.int .u64 (zv (zb a42 ||| zb (Qp4 a34)).toNat)),(120,.ptr 4 (zt s26.1) 0)],[o3_7,oX false false 5 (.agg [vI p0.Grain,eL false Aj p0.Nodes,.ref 3 0 x23.2.length,.ref 4 0 n44,.nils]),(o3_9 a29),oR true 1 eI x23.2,oR true 1 (AV.int .u64) (List.set s31.2.2 (zt s26.1) (zv (zb a42 ||| zb (Qp4 a34)).toNat))],140⟩) (ls s31.2.2 (zt s26.1) (zv (zb a42 ||| zb (Qp4 a34)).toNat)) <| hnx 2 (wz [0,1,2,3,4])
    refine hdx 1 (wz [0,1,2,3,4])
   ·refine hdn 0
   refine hcl 2 [F eI x23.2,F (AV.int .u64) x47] (us:=[.agg [vI p0.Grain,eL false Aj p0.Nodes,z1 x23.2,eL true (AV.int .u64) x47,.nils],.agg [vI a29.Card,z1 a29.Parents,z2 a29.Rows]]) (rv:=fun x48=>vB x48) (ro:=fun x48=>[]) (fun x48 q49=>Q3.args [[.keep,.keep,.keep,.keep,.lst true],[.keep,.keep,.keep]] (Qg9 (Qz.mk p0 x23.2 x47 []) a29 x48 q49)) fun x48 _=>hbr 1 [125] (hdx 4 (wz [0])) <| ?_
   refine hnx 3 (wz [0,1,3,4])
  refine hdx 1 (wz [0,1,2,3])
 ·refine hrt 0
 refine hcl 2 [F (AV.int .u64) x54] (Qod x54) fun x55 _=>hbr 7 [135] (hrt 5) <| ?_
 refine hwk 7 (wl [2,3] [0,2,3,4]) <| hwk 0 (won 0 0 [F eI x23.2,F (AV.int .u64) x54,F eI x55.1]) <| hrt 1
theorem g_net_Check_ok (p0:Qd):Ct Tryd.prog 15 [.agg [vI p0.Grain,eL false Aj p0.Nodes]] (Qht p0) (fun x=>vI x) (fun x=>[]):=by
 refine hfn [] Tryd.func15 <| hop 0 (fun _=>sgL false [] [] false gE) <| hcl 2 [] (g_net_read_ok p0) fun x1 _=>hop 3 (fun _=>sgL false [] [] false gE) <| hrt 5
theorem g_net_CheckEvidence_ok (p0:Qd) (p1:(List Int)):Ct Tryd.prog 89 [.agg [vI p0.Grain,eL false Aj p0.Nodes],z1 p1] (Z1 p0 p1) (fun x=>vI x) (fun x=>[]):=by
 refine hfn [] Tryd.func89 <| hop 0 (fun _=>sgL false [] [] false gE) <| hcl 2 [] (g_net_read_ok p0) fun x1 _=>hop 3 (fun _=>sgL false [] [] false gE) <| hbr 4 [15] (hrt 4) <| ?_
 refine hop 2 (fun _=>Qr (enc:=eI) (l:=p1) (fl:=true) kr gE) <| hop 3 (fun _=>Qr (enc:=Aj) (l:=x1.1.Net.Nodes) (fl:=false) kr gE) <| hbr 1 [23] (hrt 3) <| ?_
 refine hop 2 (fun _=>Qr (enc:=eI) (l:=p1) (fl:=true) kr gE) <| hlp 1 (fun s7=>⟨[(5,.ptr 0 0 0),(24,z1 p1),(25,vI (zn p1)),(26,vI s7)],[oX true false 5 (.agg [vI x1.1.Net.Grain,eL false Aj x1.1.Net.Nodes,z1 x1.1.cards,eL true (AV.int .u64) x1.1.sets,z1 x1.1.order])],43⟩) (fun x=>match x with | .inl v=>(.ret,⟨[(4,vI 2)],[],43⟩) | .inr v=>(.exit 0,⟨[],[],43⟩)) (wz [1]) (fun s7=>?_) (hsm (fun x19=>?_) (fun x20=>?_))
 ·refine hbr 1 [27] (?_) ?_
  ·refine hbd fun a10 q11=>hop 2 (fun _=>Qj (enc:=eI) (l:=p1) (n:=s7) (fl:=true) (w:=1) (a:=a10) kr kr gE q11) <| hbr 6 [32,33] (hdx 10 (wz [])) <| ?_
   refine hbd fun a14 q15=>hop 4 (fun _=>Qj (enc:=eI) (l:=x1.1.cards) (n:=s7) (fl:=true) (w:=1) (a:=a14) kr kr gE q15) <| hbr 3 [40,41] (hdx 2 (wz [])) <| ?_
   refine hnx 3 (wz [0])
  refine hdx 1 (wz [])
 ·refine hrt 0
 refine hrt 2
theorem g_act_check_ok (p0:Qd) (p1:(List (List Int))):Ct Tryd.prog 50 [.agg [vI p0.Grain,eL false Aj p0.Nodes],z2 p1] (V3 p0 p1) (fun x=>vI x) (fun x=>[]):=by
 refine hfn [] Tryd.func50 <| hop 0 (fun _=>sgL false [] [] false gE) <| hcl 2 [] (g_net_Check_ok p0) fun x1 _=>hbr 3 [12] (hrt 4) <| ?_
 refine hop 2 (fun _=>Qr (enc:=z1) (l:=p1) (fl:=false) kr gE) <| hlp 1 (fun s5=>⟨[(2,.ptr 0 0 0),(14,z2 p1),(15,vI (zn p1)),(16,vI s5)],[oX true false 2 (.agg [vI p0.Grain,eL false Aj p0.Nodes])],27⟩) (fun x=>match x with | .inl v=>(.ret,⟨[(4,vI v)],[],27⟩) | .inr v=>(.exit 0,⟨[],[],27⟩)) (wz [0]) (fun s5=>?_) (hsm (fun x15=>?_) (fun x16=>?_))
 ·refine hbr 1 [17] (?_) ?_
  ·refine hbd fun a8 q9=>hop 1 (fun _=>Qj (enc:=z1) (l:=p1) (n:=s5) (fl:=false) (w:=1) (a:=a8) kr kr gE q9) <| hcl 4 [] (g_net_CheckEvidence_ok p0 a8) fun x10 _=>hbr 3 [24] (hdx 3 (wz [])) <| ?_
   refine hnx 3 (wz [0])
  refine hdx 1 (wz [])
 ·refine hrt 0
 refine hrt 2
noncomputable abbrev Qpl (p0:Qd):AObj:=oX true false 2 (.agg [vI p0.Grain,eL false Aj p0.Nodes])
noncomputable abbrev Qmu:AObj:=oX true false 2 (.agg [vI 0,.nils])
noncomputable abbrev Qxf (a0:Nat×AV) (p1:(List Int)) (p0:Qd):List (Nat×AV):=[(1,z1 p1),(2,.ptr 0 0 0),(4,.ptr 1 0 0),(7,.ptr 2 0 0),a0,(11,.ptr 3 0 0),(30,eL false Aj p0.Nodes),(31,vI (zn p0.Nodes))]
theorem g_act_Do_ok (p0:Qd) (p1:(List Int)):Ct Tryd.prog 14 [.agg [vI p0.Grain,eL false Aj p0.Nodes],z1 p1] (Qup p0 p1) (fun x=>.tup [.agg [vI x.1.Grain,.ref 0 0 x.1.Nodes.length],vI x.2]) (fun x=>[oR false 3 Aj x.1.Nodes]):=by
 refine hfn [] Tryd.func14 <| hop 0 (fun _=>sgL false [] [] false gE) <| hop 0 (fun _=>sgL false [] [] false gE) <| hop 3 (fun _=>sgL false [] [.lst true] false gE) <| hcl 0 [] (g_act_check_ok p0 [p1]) fun x1 _=>hbr 3 [19] (hwk 5 (wl [4,5] [1]) <| hwk 0 (Qmm 0 0 1 3 true false gE) <| hrt 1) <| ?_
 refine hop 6 (fun _=>Qr (enc:=Aj) (l:=p0.Nodes) (fl:=false) kr gE) <| hoh 0 (fun _ _ h k=>mkL (enc:=Aj) (z:=((Ad.mk 0 [] []):Ad)) (z0:=.agg [vI 0,.nils,.nils]) (n:=(zn p0.Nodes)) (m:=(zn p0.Nodes)) (w:=3) (bytes:=56) [.keep,.lst true,.lst false] false kr kr gE kr h k) <| hop 1 (fun _=>sgL false [] [] false gE) <| hop 3 (fun _=>Qr (enc:=Aj) (l:=p0.Nodes) (fl:=false) kr gE) <| hlp 1 (fun s5=>⟨[(1,z1 p1),(2,.ptr 0 0 0),(4,.ptr 1 0 0),(7,.ptr 2 0 0),(30,eL false Aj p0.Nodes),(31,vI (zn p0.Nodes)),(32,vI s5.1)],[(Qpl p0),Qmu,oX false false 2 (.agg [vI p0.Grain,.ref 3 0 s5.2.length]),oR false 3 Aj s5.2],93⟩) (fun v=>(.exit 0,⟨[(4,.ptr 0 0 0),(7,.ptr 1 0 0)],[Qmu,oX false false 2 (.agg [vI p0.Grain,.ref 2 0 v.length]),oR false 3 Aj v],93⟩)) (wz [0,1,4,3]) (fun s5=>?_) fun x32=>?_
 ·refine hbr 1 [33] (?_) ?_
  ·refine hbd fun a8 q9=>hop 2 (fun _=>Qj (enc:=Aj) (l:=p0.Nodes) (n:=s5.1) (fl:=false) (w:=3) (a:=a8) kr kr gE q9) <| hop 1 (fun _=>sgL false [] [] false gE) <| hbd fun a10 q11=>hop 4 (fun _=>Qj (enc:=eI) (l:=p1) (n:=s5.1) (fl:=true) (w:=1) (a:=a10) kr kr gE q11) <| hbr 2 [41] (?_) ?_
   ·refine hoh 3 (fun _ _ h k=>mkL (enc:=eI) (z:=(0:Int)) (z0:=vI 0) (n:=a8.Card) (m:=a8.Card) (w:=1) (bytes:=8) [] true kr kr gE kr h k) <| hop 5 (fun _=>Qj (enc:=eI) (l:=p1) (n:=s5.1) (fl:=true) (w:=1) (a:=a10) kr kr gE q11) <| hbd fun a14 q15=>hop 3 (fun _=>Qq (enc:=eI) (l:=(List.replicate (zt a8.Card) (0:Int))) (n:=a10) (w:=1) (ob:=5) (ro:=false) (nr:=true) (fl:=true) (a:=a14) kr kr gE q15) <| hop 0 (fun _=>Zm (enc:=eI) (l:=(List.replicate (zt a8.Card) (0:Int))) (n:=a10) (ob:=5) (w:=1) (bx:=false) (nr:=true) (fl:=true) (c:=0) (a:=a14) (a':=p0.Grain) (v:=vI p0.Grain) false kr kr q15 kr kr kr gE kr) <| hkl 0 [44,10,45] (ls (List.replicate (zt a8.Card) (0:Int)) (zt a10) p0.Grain) <| hbs 7 [.lst true] false [F eI (List.set (List.replicate (zt a8.Card) (0:Int)) (zt a10) p0.Grain)] <| hbd fun a16 q17=>hop 1 (fun _=>Qq (enc:=Aj) (l:=s5.2) (n:=s5.1) (w:=3) (ob:=3) (ro:=false) (nr:=true) (fl:=false) (a:=a16) kr kr gE q17) <| ?_
    refine hwk 0 (wsn 61 []) <| hop 0 (fun _=>Qy3 (enc:=Aj) (l:=s5.2) (n:=s5.1) (ob:=3) (w:=3) (bx:=false) (nr:=true) (fl:=false) (c:=0) (a:=a16) (a':=(Ad.mk a8.Card [] [(List.set (List.replicate (zt a8.Card) (0:Int)) (zt a10) p0.Grain)])) (v:=.agg [vI a8.Card,.emp,.lst false [z1 (List.set (List.replicate (zt a8.Card) (0:Int)) (zt a10) p0.Grain)]]) [.keep,.lst true,.lst false] false kr kr q17 kr kr (.agg [vI a8.Card,.emp,.lst false [z1 (List.set (List.replicate (zt a8.Card) (0:Int)) (zt a10) p0.Grain)]]) kr kr (fun _=>kr) gE kr) <| hkn 0 (fun n19=>⟨[(1,z1 p1),(2,.ptr 0 0 0),(4,.ptr 1 0 0),(7,.ptr 2 0 0),(30,eL false Aj p0.Nodes),(31,vI (zn p0.Nodes)),(32,vI s5.1),(33,vB true),(34,vI s5.1),(35,.fz [vI a8.Card,z1 a8.Parents,z2 a8.Rows]),(36,.agg [vI a8.Card,z1 a8.Parents,z2 a8.Rows]),(9,.ptr 4 0 0),(8,vI s5.1),(37,z1 p1),(38,vI s5.1),(39,.fz [vI a10]),(40,vI a10),(41,vB true),(42,.ptr 4 0 0),(43,vI a8.Card),(44,.ref 5 0 ((List.set (List.replicate (zt a8.Card) (0:Int)) (zt a10) p0.Grain).length)),(10,.ref 5 0 ((List.set (List.replicate (zt a8.Card) (0:Int)) (zt a10) p0.Grain).length)),(45,.ref 5 0 ((List.set (List.replicate (zt a8.Card) (0:Int)) (zt a10) p0.Grain).length)),(46,z1 p1),(47,vI s5.1),(48,.fz [vI a10]),(49,vI a10),(50,.ptr 0 0 0),(51,vI p0.Grain),(52,.ptr 5 (zt a10) 0),(53,.ptr 2 0 1),(54,.ref 3 0 n19),(55,vI s5.1),(56,.ptr 4 0 0),(57,vI a8.Card),(58,.emp),(59,.ref 5 0 ((List.set (List.replicate (zt a8.Card) (0:Int)) (zt a10) p0.Grain).length)),(60,.ref 6 0 1),(61,.agg [vI a8.Card,.emp,.lst false [z1 (List.set (List.replicate (zt a8.Card) (0:Int)) (zt a10) p0.Grain)]]),(62,.ptr 3 (zt s5.1) 0)],[(Qpl p0),Qmu,oX false false 2 (.agg [vI p0.Grain,.ref 3 0 n19]),oR false 3 Aj (List.set s5.2 (zt s5.1) (Ad.mk a8.Card [] [(List.set (List.replicate (zt a8.Card) (0:Int)) (zt a10) p0.Grain)])),oX true false 3 (.agg [vI a8.Card,z1 a8.Parents,z2 a8.Rows]),.row false true true true 1 (List.map eI (List.set (List.replicate (zt a8.Card) (0:Int)) (zt a10) p0.Grain)),.row false true true false 1 [z1 (List.set (List.replicate (zt a8.Card) (0:Int)) (zt a10) p0.Grain)]],93⟩) (ls s5.2 (zt s5.1) (Ad.mk a8.Card [] [(List.set (List.replicate (zt a8.Card) (0:Int)) (zt a10) p0.Grain)])) <| hwk 0 (wl [1,2,4,7,30,31,32] [0,1,2,3]) <| hnx 3 (wz [0,1,2,3])
   refine hoh 7 (fun _ _ h k=>Qnj (enc:=eI) (m:=a8.Parents) (w:=1) (bytes:=8) (nr':=true) (fl':=true) (a:=.emp) (b:=z1 a8.Parents) (rds:=[]) false kr (.inr rfl) (Qed (fun _=>rfl)) kr gE kr h k) <| hop 1 (fun _=>sgL false [] [] false gE) <| hop 3 (fun _=>Qr (enc:=z1) (l:=a8.Rows) (fl:=false) kr gE) <| hlp 1 (fun s21=>⟨(Qxf (8,vI s5.1) p1 p0)++[(32,vI s5.1),(71,z2 a8.Rows),(72,vI (zn a8.Rows)),(73,vI s21.1)],[(Qpl p0),Qmu,oX false false 2 (.agg [vI p0.Grain,.ref 4 0 s5.2.length]),oX false false 3 (.agg [vI a8.Card,.ref 5 0 a8.Parents.length,.ref 6 0 s21.2.length]),oR false 3 Aj s5.2,oR true 1 eI a8.Parents,oR false 1 z1 s21.2],93⟩) (fun v=>(.exit 2,⟨(Qxf (8,vI s5.1) p1 p0)++[(32,vI s5.1)],[(Qpl p0),Qmu,oX false false 2 (.agg [vI p0.Grain,.ref 4 0 s5.2.length]),oX false false 3 (.agg [vI a8.Card,.ref 5 0 a8.Parents.length,.ref 6 0 v.length]),oR false 3 Aj s5.2,oR true 1 eI a8.Parents,oR false 1 z1 v],93⟩)) (Zf (Vo (live:=[1,2,4,7,8,11,30,31,32,71,72,73]) (keep:=[0,1,2,6,3,5]) gE) (Zf (Qmm 3 0 2 1 true false gE) (Vo (live:=[1,2,4,7,8,11,30,31,32,71,72,73]) (keep:=[0,1,2,3,4,5,6]) kr))) (fun s21=>?_) fun x27=>?_
   ·refine hbr 1 [74] (?_) ?_
    ·refine hbd fun a24 q25=>hop 1 (fun _=>Qj (enc:=z1) (l:=a8.Rows) (n:=s21.1) (fl:=false) (w:=1) (a:=a24) kr kr gE q25) <| hoh 7 (fun _ _ h k=>Qnj (enc:=eI) (m:=a24) (w:=1) (bytes:=8) (nr':=true) (fl':=true) (a:=.emp) (b:=z1 a24) (rds:=[]) false kr (.inr rfl) (Qed (fun _=>rfl)) kr gE kr h k) <| hbs 0 [.lst true] false [F eI a24] <| hoh 0 (fun _ _ h k=>Jb (enc:=z1) (l:=s21.2) (m:=([a24]:(List (List Int)))) (w:=1) (bytes:=24) (ob:=6) (nr:=true) (fl:=false) (nr':=true) (fl':=false) (b:=.ref 8 0 1) (rds:=[8]) false kr kr kr kr gE kr h k) <| hnx 4 (wz [0,1,2,3,4,5,9])
    refine hdx 1 (wz [0,1,2,3,4,5,6])
   refine hbd fun a28 q29=>hop 4 (fun _=>Qq (enc:=Aj) (l:=s5.2) (n:=s5.1) (w:=3) (ob:=4) (ro:=false) (nr:=true) (fl:=false) (a:=a28) kr kr gE q29) <| hop 0 (fun _=>Q00 (enc:=Aj) (l:=s5.2) (n:=s5.1) (ob:=4) (w:=3) (nr:=true) (fl:=false) (c:=0) (a:=a28) (a':=(Ad.mk a8.Card a8.Parents x27)) (v0:=.agg [vI a8.Card,.ref 5 0 a8.Parents.length,.ref 6 0 x27.length]) (v:=.agg [vI a8.Card,z1 a8.Parents,z2 x27]) (ids:=[5,6]) (es:=[(5,.row false true true true 1 (List.map eI a8.Parents)),(6,.row false true true false 1 (List.map z1 x27))]) kr kr q29 kr kr (Qdt (Q6 rfl (Q6 (Xg (w:=1) (bx:=false) (ro:=false) (enc:=eI) (l:=a8.Parents) (fl:=true) kr) (Q6 (Xg (w:=1) (bx:=false) (ro:=false) (enc:=z1) (l:=x27) (fl:=false) kr) V4 (by rfl)) (by rfl)) (by rfl))) kr kr kr gE kr) <| hkn 0 (fun n30=>⟨(Qxf (8,vI s5.1) p1 p0)++[(32,vI s5.1),(86,.ptr 2 0 1),(87,.ref 4 0 n30),(88,vI s5.1),(89,.agg [vI a8.Card,.ref 5 0 a8.Parents.length,.ref 6 0 x27.length]),(90,.ptr 4 (zt s5.1) 0)],[(Qpl p0),Qmu,oX false false 2 (.agg [vI p0.Grain,.ref 4 0 n30]),oX false false 3 (.agg [vI a8.Card,.ref 5 0 a8.Parents.length,.ref 6 0 x27.length]),oR false 3 Aj (List.set s5.2 (zt s5.1) (Ad.mk a8.Card a8.Parents x27)),.row false true true true 1 (List.map eI a8.Parents),.row false true true false 1 (List.map z1 x27)],93⟩) (ls s5.2 (zt s5.1) (Ad.mk a8.Card a8.Parents x27)) <| hnx 2 (wz [0,1,2,4])
  refine hdx 1 (wz [1,2,3])
 refine hrt 4
noncomputable abbrev Qxz (p0:Qd):AObj:=oX true false 2 (.agg [vI p0.Grain,eL false Aj p0.Nodes])
theorem g_act_weigh_ok (p0:Qd) (p1:Int) (p2:(List Int)):Ct Tryd.prog 95 [.agg [vI p0.Grain,eL false Aj p0.Nodes],.int .u64 p1,z1 p2] (K4 p0 p1 p2) (fun x=>vI x) (fun x=>[]):=by
 refine hfn [] Tryd.func95 <| hop 0 (fun _=>sgL false [] [] false gE) <| hop 4 (fun _=>Qr (enc:=Aj) (l:=p0.Nodes) (fl:=false) kr gE) <| hlp 1 (fun s1=>⟨[(1,.int .u64 p1),(2,z1 p2),(3,.ptr 0 0 0),(7,vI s1.1),(14,eL false Aj p0.Nodes),(15,vI (zn p0.Nodes)),(16,vI s1.2)],[(Qxz p0)],62⟩) (fun v=>(.exit 0,⟨[(7,vI v)],[],62⟩)) (wz [0]) (fun s1=>?_) fun x26=>?_
 ·refine hbr 1 [17] (?_) ?_
  ·refine hbd fun a4 q5=>hop 2 (fun _=>Qj (enc:=Aj) (l:=p0.Nodes) (n:=s1.2) (fl:=false) (w:=3) (a:=a4) kr kr gE q5) <| hop 1 (fun _=>sgL false [] [] false gE) <| hoh 4 (fun _ _ h k=>Yh (k:=.u64) (k':=.i64) (a:=p1) (b:=s1.2) kr gE h k) <| hbr 2 [25] (hwk 1 (wl [1,2,3,7,14,15,16] [0]) <| hnx 3 (wz [0])) <| ?_
   refine hop 4 (fun _=>Qr (enc:=eI) (l:=a4.Parents) (fl:=true) kr gE) <| hlp 1 (fun s8=>⟨[(1,.int .u64 p1),(2,z1 p2),(3,.ptr 0 0 0),(7,vI s1.1),(8,vI s1.2),(9,.ptr 1 0 0),(10,vI s8.1),(14,eL false Aj p0.Nodes),(15,vI (zn p0.Nodes)),(16,vI s1.2),(27,z1 a4.Parents),(28,vI (zn a4.Parents)),(29,vI s8.2)],[(Qxz p0),oX true false 3 (.agg [vI a4.Card,z1 a4.Parents,z2 a4.Rows])],62⟩) (fun v=>(.exit 2,⟨[(1,.int .u64 p1),(2,z1 p2),(3,.ptr 0 0 0),(7,vI s1.1),(8,vI s1.2),(9,.ptr 1 0 0),(10,vI v),(14,eL false Aj p0.Nodes),(15,vI (zn p0.Nodes)),(16,vI s1.2)],[(Qxz p0),oX true false 3 (.agg [vI a4.Card,z1 a4.Parents,z2 a4.Rows])],62⟩)) (wz [0,1]) (fun s8=>?_) fun x18=>?_
   ·refine hbr 1 [30] (?_) ?_
    ·refine hbd fun a11 q12=>hop 1 (fun _=>Qj (enc:=eI) (l:=a4.Parents) (n:=s8.2) (fl:=true) (w:=1) (a:=a11) kr kr gE q12) <| hbd fun a13 q14=>hop 7 (fun _=>Qj (enc:=Aj) (l:=p0.Nodes) (n:=a11) (fl:=false) (w:=3) (a:=a13) kr kr gE q14) <| hbd fun a15 q16=>hop 5 (fun _=>Qj (enc:=eI) (l:=p2) (n:=a11) (fl:=true) (w:=1) (a:=a15) kr kr gE q16) <| hnx 5 (wz [0,1])
    refine hdx 1 (wz [0,1])
   refine hbd fun a19 q20=>hop 5 (fun _=>Qj (enc:=z1) (l:=a4.Rows) (n:=x18) (fl:=false) (w:=1) (a:=a19) kr kr gE q20) <| hbd fun a21 q22=>hop 3 (fun _=>Qj (enc:=eI) (l:=p2) (n:=s1.2) (fl:=true) (w:=1) (a:=a21) kr kr gE q22) <| hbd fun a23 q24=>hop 1 (fun _=>Qj (enc:=eI) (l:=a19) (n:=a21) (fl:=true) (w:=1) (a:=a23) kr kr gE q24) <| hnx 5 (wz [0])
  refine hdx 1 (wz [])
 refine hrt 3
theorem g_act_setBy_ok (p0:(List Int)):Ct Tryd.prog 53 [z1 p0] (K3 p0) (fun x=>.int .u64 x) (fun x=>[]):=by
 refine hfn [] Tryd.func53 <| hop 3 (fun _=>Qr (enc:=eI) (l:=p0) (fl:=true) kr gE) <| hlp 1 (fun s1=>⟨[(3,.int .u64 s1.1),(6,z1 p0),(7,vI (zn p0)),(8,vI s1.2)],[],21⟩) (fun v=>(.exit 0,⟨[(3,.int .u64 v)],[],21⟩)) (wz []) (fun s1=>?_) fun x9=>?_
 ·refine hbr 1 [9] (?_) ?_
  ·refine hbd fun a4 q5=>hop 2 (fun _=>Qj (enc:=eI) (l:=p0) (n:=s1.2) (fl:=true) (w:=1) (a:=a4) kr kr gE q5) <| hbr 5 [14] (hoh 3 (fun _ _ h k=>Qdp (k:=.u64) (k':=.i64) (a:=1) (b:=s1.2) kr gE h k) <| hnx 4 (wz [])) <| ?_
   refine hnx 3 (wz [])
  refine hdx 1 (wz [])
 refine hrt 3
theorem g_frac_size_ok (p0:Int):Ct Tryd.prog 80 [vI p0] (J8 p0) (fun x=>.int .u64 x) (fun x=>[]):=by
 refine hfn [] Tryd.func80 <| hbr 3 [4] (hrt 6) <| ?_
 refine hrt 5
theorem Qnh (p0:Int) (p1:Int):Ct Tryd.prog 98 [.int .u64 p0,.int .u64 p1] (Qbs p0 p1) (fun x=>.int .u64 x) (fun x=>[]):=by
 refine hfn [] Tryd.func98 <| hlp 1 (fun s1=>⟨[(0,.int .u64 s1.1),(1,.int .u64 s1.2)],[],12⟩) (fun v=>(.exit 0,⟨[(0,.int .u64 v)],[],12⟩)) (wz []) (fun s1=>?_) fun x5=>?_
 ·refine hbr 2 [6] (hoh 5 (fun _ _ h k=>Qc7 (k:=.u64) (a:=s1.1) (b:=s1.2) kr gE h k) <| hnx 2 (wz [])) <| ?_
  refine hdx 1 (wz [])
 refine hrt 3
theorem g_frac_fit_ok (p0:Bool) (p1:(Int × Int)) (p2:(Int × Int)):Ct Tryd.prog 99 [vB p0,.agg [.int .u64 p1.1,.int .u64 p1.2],.agg [.int .u64 p2.1,.int .u64 p2.2]] (Qi7 p0 p1 p2) (fun x=>.agg [vI x.N,vI x.D]) (fun x=>[]):=by
 refine hfn [] Tryd.func99 <| hbr 7 [9,10] (hnn) <| ?_
 refine hbr 5 [13,14,15] (hnn) <| ?_
 refine hbr 5 [18,19,20] (hnn) <| ?_
 refine hbr 4 [23,24] (hnn) <| ?_
 refine hbr 2 [0,27] (hrt 11) <| ?_
 refine hrt 10
theorem Qkl (c0:Int) (c1:Int):Ct Tryd.prog 97 [.fz [vI c0],.fz [vI c1]] (Qca c0 c1) (fun x=>.agg [vI x.N,vI x.D]) (fun x=>[]):=by
 refine hfn [] Tryd.func97 <| hcl 3 [] (g_frac_size_ok c0) fun x1 _=>hcl 1 [] (g_frac_size_ok c1) fun x3 _=>hcl 0 [] (Qnh x1 x3) fun x5 _=>hcl 8 [] (g_frac_size_ok c0) fun x7 _=>hoh 1 (fun _ _ h k=>Qt8 (k:=.u64) (a:=x7) (b:=x5) kr gE h k) <| hcl 2 [] (g_frac_size_ok c1) fun x9 _=>hoh 1 (fun _ _ h k=>Qt8 (k:=.u64) (a:=x9) (b:=x5) kr gE h k) <| hcl 1 [] (g_frac_fit_ok (!((decide (c0 < 0))==(decide (c1 < 0)))) (0,zv (Int.tdiv x7 x5)) (0,zv (Int.tdiv x9 x5))) fun x11 _=>?_
 refine hrt 2
theorem g_frac_Make_ok (p0:Int) (p1:Int):Ct Tryd.prog 54 [vI p0,vI p1] (J2 p0 p1) (fun x=>.tup [.agg [vI x.1.N,vI x.1.D],vI x.2]) (fun x=>[]):=by
 refine hfn [] Tryd.func54 <| hbr 6 [7] (hrt 5) <| ?_
 refine hcl 2 [] (us:=[.fn (.func 97) [] [.fz [vI p0],.fz [vI p1]]]) (rv:=fun x3=>.tup [.agg [vI x3.N,vI x3.D],vI 0]) (ro:=fun x3=>[]) (fun x3 q4=>Qzf Q1q Tryd.func97 rfl (by decide +kernel) (Qkl p0 p1 x3 q4)) fun x3 _=>hrt 5
theorem g_act_whole_ok (p0:Qd) (p1:Int):Ct Tryd.prog 55 [.agg [vI p0.Grain,eL false Aj p0.Nodes],.int .u64 p1] (Qhz p0 p1) (fun x=>vI x) (fun x=>[]):=by
 refine hfn [] Tryd.func55 <| hop 0 (fun _=>sgL false [] [] false gE) <| hop 4 (fun _=>Qr (enc:=Aj) (l:=p0.Nodes) (fl:=false) kr gE) <| hlp 1 (fun s1=>⟨[(1,.int .u64 p1),(2,.ptr 0 0 0),(5,vI s1.1),(9,vI (zn p0.Nodes)),(10,vI s1.2)],[oX true false 2 (.agg [vI p0.Grain,eL false Aj p0.Nodes])],24⟩) (fun v=>(.exit 0,⟨[(5,vI v)],[],24⟩)) (wz [0]) (fun s1=>?_) fun x7=>?_
 ·refine hbr 1 [11] (?_) ?_
  ·refine hoh 5 (fun _ _ h k=>Yh (k:=.u64) (k':=.i64) (a:=p1) (b:=s1.2) kr gE h k) <| hbr 2 [17] (hnx 8 (wz [0])) <| ?_
   refine hnx 3 (wz [0])
  refine hdx 1 (wz [])
 refine hrt 3
noncomputable abbrev Qzb (p0:Qd):AObj:=oX true false 2 (.agg [vI p0.Grain,eL false Aj p0.Nodes])
noncomputable abbrev Q5x:AObj:=oX true true 2 (.agg [vI 0,vI 0])
noncomputable abbrev Q5a (x5:Int):AObj:=oX true true 1 (.int .u64 x5)
noncomputable abbrev Q6k:AObj:=oX false false 1 (.fn (.func 92) [] [.ptr 6 0 0])
noncomputable abbrev Q6l (p1 p2:(List Int)):AObj:=oX false false 1 (.ref 7 0 (([p1,p2]:(List (List Int))).length))
noncomputable abbrev Q61 (p1 p2:(List Int)):AObj:=oR false 1 z1 ([p1,p2]:(List (List Int)))
noncomputable abbrev Q7m (p1:(List Int)):AObj:=.loop 41 [(1,z1 p1),(3,.ptr 0 0 0),(6,.ptr 1 0 0),(9,.ptr 2 0 0),(27,.fn (.func 93) [] [.ptr 3 0 0,.ptr 4 0 0,.ptr 5 0 0])] [28,29] (cA Tryd.f16 [true,true,true,false,true,true]) (cB Tryd.f16 [true,true,true,false,true,true]) .ready none
noncomputable abbrev Q6j:AObj:=oX false false 1 (.yld 8)
noncomputable abbrev Q5h:AObj:=oX false false 1 (.fn (.func 94) [] [.ptr 11 0 0,.ptr 9 0 0,.ptr 3 0 0,.ptr 4 0 0,.ptr 5 0 0,.ptr 12 0 0])
noncomputable abbrev l16_25 (a0 a1 a2:AObj) (p0:Qd) (x5:Int) (p1 p2:(List Int)):List AObj:=[(Qzb p0),Q5x,a0,(Qzb p0),(Q5a x5),Q6k,(Q6l p1 p2),(Q61 p1 p2),(Q7m p1),Q6j,a1,a2,Q5h]
theorem g_act_Chance_ok (p0:Qd) (p1:(List Int)) (p2:(List Int)):Ct Tryd.prog 16 [.agg [vI p0.Grain,eL false Aj p0.Nodes],z1 p1,z1 p2] (Qgw p0 p1 p2) (fun x=>.tup [.agg [vI x.1.N,vI x.1.D],vI x.2]) (fun x=>[]):=by
 refine hfn [] Tryd.func16 <| hop 0 (fun _=>sgL false [] [] false gE) <| hop 5 (fun _=>sgL false [] [.lst true] false gE) <| hcl 0 [] (g_act_check_ok p0 [p1,p2]) fun x1 _=>hbr 3 [18] (hrt 6) <| ?_
 refine hct 3 6 <| hcl 2 [] (g_act_setBy_ok p1) fun x5 _=>hop 2 (fun _=>sgL false [] [.lst true] false gE) <| hil 0 Tryd.func52 <| hop 0 (fun _=>sgL false [] [] false gE) <| hop 1 (fun _=>sgL false [] [] false gE) <| hop 2 (fun _=>sgL false [] [] false gE) <| hwk 3 (wl [6] [5,6,8,7]) <| hwk 1 (wl [1,3,6,9,27] [0,1,3,5,6,7,8,4]) <| ?_
 refine hrg 0 Tryd.func93 <| hop 0 (fun _=>sgL false [] [] false gE) <| hop 2 (fun _=>Qr (enc:=Aj) (l:=p0.Nodes) (fl:=false) kr gE) <| hoh 0 (fun _ _ h k=>mkL (enc:=eI) (z:=(0:Int)) (z0:=vI 0) (n:=(zn p0.Nodes)) (m:=(zn p0.Nodes)) (w:=1) (bytes:=8) [] true kr kr gE kr h k) <| hop 0 (fun _=>sgL false [] [] false gE) <| hop 1 (fun _=>sgL false [] [] false gE) <| hrc 3 13 (fun s10=>⟨[(0,vI s10.1),(1,.ptr 11 0 0),(2,.ptr 9 0 0),(3,.ptr 3 0 0),(4,.ptr 4 0 0),(5,.ptr 5 0 0),(6,.ptr 12 0 0)],(l16_25 (oX true true 1 (vI s10.2.1)) (oR true 1 eI s10.2.2) (oX false false 1 (.ref 10 0 s10.2.2.length)) p0 x5 p1 p2),45⟩) (fun v=>⟨[(8,vB true)],(l16_25 (oX true true 1 (vI v.1)) (oR true 1 eI v.2) (oX false false 1 (.ref 10 0 v.2.length)) p0 x5 p1 p2),45⟩) Tryd.func94 (fun r11 i12 s10=>?_) fun x42=>?_
 ·refine hbr 5 [13] (hct 1 6 <| hcl 5 [F eI s10.2.2] (g_act_weigh_ok p0 x5 s10.2.2) fun x15 _=>hyl 0 <| hwk 6 (wl [8] []) <| hre 1 (wz [])) <| ?_
  refine hbd fun a17 q18=>hop 4 (fun _=>Qj (enc:=Aj) (l:=p0.Nodes) (n:=s10.1) (fl:=false) (w:=3) (a:=a17) kr kr gE q18) <| hlp 3 (fun s19=>⟨[(0,vI s10.1),(1,.ptr 11 0 0),(5,.ptr 5 0 0),(6,.ptr 12 0 0),(26,vI a17.Card),(27,vI s19.1)],(l16_25 (oX true true 1 (vI s19.2.1)) (oR true 1 eI s19.2.2) (oX false false 1 (.ref 10 0 s19.2.2.length)) p0 x5 p1 p2),45⟩) (fun v=>(.exit 0,⟨[],(l16_25 (oX true true 1 (vI v.1)) (oR true 1 eI v.2) (oX false false 1 (.ref 10 0 v.2.length)) p0 x5 p1 p2),45⟩)) (wz []) (fun s19=>?_) fun x41=>?_
  ·refine hbr 1 [28] (?_) ?_
   ·refine hil 6 Tryd.func92 <| hlp 4 (fun s22=>⟨[(0,vI s10.1),(1,vI s19.1),(8,.ref 7 0 (([p1,p2]:(List (List Int))).length)),(9,vI ((([p1,p2]:(List (List Int))).length):Int)),(10,vI s22)],(l16_25 (oX true true 1 (vI s19.2.1)) (oR true 1 eI s19.2.2) (oX false false 1 (.ref 10 0 s19.2.2.length)) p0 x5 p1 p2),28⟩) (fun x=>match x with | .inl v=>(.ret,⟨[(5,vB false)],(l16_25 (oX true true 1 (vI s19.2.1)) (oR true 1 eI s19.2.2) (oX false false 1 (.ref 10 0 s19.2.2.length)) p0 x5 p1 p2),28⟩) | .inr v=>(.exit 0,⟨[],(l16_25 (oX true true 1 (vI s19.2.1)) (oR true 1 eI s19.2.2) (oX false false 1 (.ref 10 0 s19.2.2.length)) p0 x5 p1 p2),28⟩)) (wz []) (fun s22=>?_) (hsm (fun x34=>?_) (fun x35=>?_))
    ·refine hbr 1 [11] (?_) ?_
     ·refine hbd fun a25 q26=>hop 1 (fun _=>Qq (enc:=z1) (l:=([p1,p2]:(List (List Int)))) (n:=s22) (w:=1) (ob:=7) (ro:=false) (nr:=true) (fl:=false) (a:=a25) kr kr gE q26) <| hop 0 (fun _=>Zg (enc:=z1) (l:=([p1,p2]:(List (List Int)))) (n:=s22) (w:=1) (ob:=7) (c:=0) (bx:=false) (ro:=false) (nr:=true) (fl:=false) (a:=a25) kr kr q26 gE) <| hbd fun a27 q28=>hop 3 (fun _=>Qj (enc:=eI) (l:=a25) (n:=s10.1) (fl:=true) (w:=1) (a:=a27) kr kr gE q28) <| hbr 3 [18,19] (?_) ?_
      ·refine hop 2 (fun _=>Qj (enc:=eI) (l:=a25) (n:=s10.1) (fl:=true) (w:=1) (a:=a27) kr kr gE q28) <| hbr 4 [25,26] (hdx 2 (wz [])) <| ?_
       refine hnx 3 (wz [])
      refine hnx 10 (wz [])
     refine hdx 1 (wz [])
    ·refine hwk 2 (wl [0,1,5,6,26,27] []) <| hnx 3 (wz [])
    refine hwk 1 (wl [5] []) <| hbd fun a36 q37=>hop 6 (fun _=>Qq (enc:=eI) (l:=s19.2.2) (n:=s10.1) (w:=1) (ob:=10) (ro:=false) (nr:=true) (fl:=true) (a:=a36) kr kr gE q37) <| hop 0 (fun _=>Zm (enc:=eI) (l:=s19.2.2) (n:=s10.1) (ob:=10) (w:=1) (bx:=false) (nr:=true) (fl:=true) (c:=0) (a:=a36) (a':=s19.1) (v:=vI s19.1) false kr kr q37 kr kr kr gE kr) <| hkn 0 (fun n39=>⟨[(0,vI s10.1),(1,.ptr 11 0 0),(5,.ptr 5 0 0),(6,.ptr 12 0 0),(26,vI a17.Card),(27,vI s19.1),(28,vB true),(29,vI s19.1),(9,vI s19.1),(30,.fn (.func 92) [] [.ptr 6 0 0]),(31,vI s10.1),(32,vI s19.1),(33,vB true),(34,vB false),(35,.ref 10 0 n39),(36,vI s10.1),(37,vI s19.1),(38,.ptr 10 (zt s10.1) 0)],(l16_25 (oX true true 1 (vI s19.2.1)) (oR true 1 eI (List.set s19.2.2 (zt s10.1) s19.1)) (oX false false 1 (.ref 10 0 n39)) p0 x5 p1 p2),45⟩) (ls s19.2.2 (zt s10.1) s19.1) <| hrJ 3 _ Tryd.func94 i12 fun x38=>hnx 4 (wz [])
   refine hdx 1 (wz [])
  refine hwk 1 (wl [8] []) <| hre 1 (wz [])
 refine hcl 4 [] (g_act_setBy_ok p1) fun x44 _=>hcl 0 [] (g_act_whole_ok p0 x44) fun x46 _=>hcl 0 [] (g_frac_Make_ok x42.1 x46) fun x48 _=>hrt 5
end
section
attribute [local irreducible] RW WP
noncomputable abbrev Q6q (p3:Int):AObj:=oX true true 1 (vI p3)
noncomputable abbrev Q59 (p0:Qd):AObj:=oX true false 2 (.agg [vI p0.Grain,eL false Aj p0.Nodes])
noncomputable abbrev Q46 (x11:Int):AObj:=oX true true 1 (.int .u64 x11)
noncomputable abbrev Q57:AObj:=oX false false 1 (.fn (.func 92) [] [.ptr 7 0 0])
noncomputable abbrev Q5u (p1 p2:(List Int)):AObj:=oX false false 1 (.ref 8 0 (([p1,p2]:(List (List Int))).length))
noncomputable abbrev Q6s (p1 p2:(List Int)):AObj:=oR false 1 z1 ([p1,p2]:(List (List Int)))
noncomputable abbrev o17_32:AObj:=.loop 93 [(7,.ptr 0 0 0),(11,.ptr 1 0 0),(12,.ptr 2 0 0),(50,.fn (.func 93) [] [.ptr 3 0 0,.ptr 4 0 0,.ptr 5 0 0])] [51,52] (cA Tryd.f18 [true,true,true,true,false,true,true]) (cB Tryd.f18 [true,true,true,true,false,true,true]) .ready none
noncomputable abbrev Q6h:AObj:=oX false false 1 (.yld 9)
noncomputable abbrev Q6y:AObj:=oX false false 1 (.fn (.func 94) [] [.ptr 12 0 0,.ptr 10 0 0,.ptr 3 0 0,.ptr 4 0 0,.ptr 5 0 0,.ptr 13 0 0])
noncomputable abbrev l17_35 (a0 a1 a2 a3 a4 a5:AObj) (p3:Int) (p0:Qd) (x11:Int) (p1 p2:(List Int)):List AObj:=[(Q6q p3),a0,a1,(Q59 p0),(Q46 x11),Q57,a2,(Q5u p1 p2),(Q6s p1 p2),a3,Q6h,a4,a5,Q6y]
theorem g_act_Effect_ok (p0:Qd) (p1:(List Int)) (p2:(List Int)) (p3:Int):Ct Tryd.prog 18 [.agg [vI p0.Grain,eL false Aj p0.Nodes],z1 p1,z1 p2,vI p3] (Yb p0 p1 p2 p3) (fun x=>.tup [.ref 0 0 x.1.length,vI x.2]) (fun x=>[oR true 2 Ak x.1]):=by
 refine hfn [] Tryd.func18 <| hop 0 (fun _=>sgL false [] [] false gE) <| hop 6 (fun _=>sgL false [] [.lst true] false gE) <| hcl 0 [] (g_act_check_ok p0 [p1,p2]) fun x1 _=>hbr 3 [26] (hwk 4 (wl [8,9] []) <| hwk 0 (Xd 8 2 true true gE) <| hrt 1) <| ?_
 refine hbr 4 [29,30] (hwk 9 (wl [8,9] []) <| hwk 0 (Xd 8 2 true true gE) <| hrt 1) <| ?_
 refine hop 3 (fun _=>Qr (enc:=Aj) (l:=p0.Nodes) (fl:=false) kr gE) <| hbr 2 [35,36] (hwk 3 (wl [8,9] []) <| hwk 0 (Xd 8 2 true true gE) <| hrt 1) <| ?_
 refine hbd fun a9 q10=>hop 5 (fun _=>Qj (enc:=Aj) (l:=p0.Nodes) (n:=p3) (fl:=false) (w:=3) (a:=a9) kr kr gE q10) <| hoh 2 (fun _ _ h k=>mkL (enc:=eI) (z:=(0:Int)) (z0:=vI 0) (n:=a9.Card) (m:=a9.Card) (w:=1) (bytes:=8) [] true kr kr gE kr h k) <| hop 1 (fun _=>sgL false [] [] false gE) <| hct 2 6 <| hcl 2 [] (g_act_setBy_ok p1) fun x11 _=>hop 2 (fun _=>sgL false [] [.lst true] false gE) <| hil 0 Tryd.func52 <| hop 0 (fun _=>sgL false [] [] false gE) <| ?_
 refine hop 1 (fun _=>sgL false [] [] false gE) <| hop 2 (fun _=>sgL false [] [] false gE) <| hwk 3 (wl [6] [7,8,10,9]) <| hwk 1 (wl [7,11,12,50] [1,4,5,7,8,9,3,10,6]) <| hrg 0 Tryd.func93 <| hop 0 (fun _=>sgL false [] [] false gE) <| hop 2 (fun _=>Qr (enc:=Aj) (l:=p0.Nodes) (fl:=false) kr gE) <| hoh 0 (fun _ _ h k=>mkL (enc:=eI) (z:=(0:Int)) (z0:=vI 0) (n:=(zn p0.Nodes)) (m:=(zn p0.Nodes)) (w:=1) (bytes:=8) [] true kr kr gE kr h k) <| hop 0 (fun _=>sgL false [] [] false gE) <| ?_
 refine hop 1 (fun _=>sgL false [] [] false gE) <| hrc 3 14 (fun s16=>⟨[(0,vI s16.1),(1,.ptr 12 0 0),(2,.ptr 10 0 0),(3,.ptr 3 0 0),(4,.ptr 4 0 0),(5,.ptr 5 0 0),(6,.ptr 13 0 0)],(l17_35 (oX true true 1 (vI s16.2.1)) (oX false false 1 (.ref 6 0 s16.2.2.1.length)) (oR true 1 eI s16.2.2.1) o17_32 (oR true 1 eI s16.2.2.2) (oX false false 1 (.ref 11 0 s16.2.2.2.length)) p3 p0 x11 p1 p2),45⟩) (fun v=>⟨[(8,vB true)],(l17_35 (oX true true 1 (vI v.1)) (oX false false 1 (.ref 6 0 v.2.1.length)) (oR true 1 eI v.2.1) o17_32 (oR true 1 eI v.2.2) (oX false false 1 (.ref 11 0 v.2.2.length)) p3 p0 x11 p1 p2),45⟩) Tryd.func94 (fun r17 i18 s16=>?_) fun x53=>?_
 ·refine hbr 5 [13] (?_) ?_
  ·refine hct 1 6 <| hcl 5 [F eI s16.2.2.2] (g_act_weigh_ok p0 x11 s16.2.2.2) fun x21 _=>hyl 0 <| hbd fun a23 q24=>hop 10 (fun _=>Qq (enc:=eI) (l:=s16.2.2.2) (n:=p3) (w:=1) (ob:=11) (ro:=false) (nr:=true) (fl:=true) (a:=a23) kr kr gE q24) <| hop 0 (fun _=>Zg (enc:=eI) (l:=s16.2.2.2) (n:=p3) (w:=1) (ob:=11) (c:=0) (bx:=false) (ro:=false) (nr:=true) (fl:=true) (a:=a23) kr kr q24 gE) <| hbd fun a25 q26=>hop 0 (fun _=>Qq (enc:=eI) (l:=s16.2.2.1) (n:=a23) (w:=1) (ob:=6) (ro:=false) (nr:=true) (fl:=true) (a:=a25) kr kr gE q26) <| hop 0 (fun _=>Zg (enc:=eI) (l:=s16.2.2.1) (n:=a23) (w:=1) (ob:=6) (c:=0) (bx:=false) (ro:=false) (nr:=true) (fl:=true) (a:=a25) kr kr q26 gE) <| ?_
   refine hop 2 (fun _=>Qq (enc:=eI) (l:=s16.2.2.1) (n:=a23) (w:=1) (ob:=6) (ro:=false) (nr:=true) (fl:=true) (a:=a25) kr kr gE q26) <| hop 0 (fun _ k=>Zm (enc:=eI) (l:=s16.2.2.1) (n:=a23) (ob:=6) (w:=1) (bx:=false) (nr:=true) (fl:=true) (c:=0) (a:=a25) (a':=zw (a25+x21)) (v:=vI (zw (a25+x21))) false kr kr q26 kr kr kr gE kr (Q03 (S:=fun n27=>⟨[(7,.ptr 0 0 0),(11,.ptr 1 0 0),(12,.ptr 2 0 0),(50,.fn (.func 93) [] [.ptr 3 0 0,.ptr 4 0 0,.ptr 5 0 0]),(51,.ref 11 0 s16.2.2.2.length),(52,vI x21),(13,.ref 11 0 s16.2.2.2.length),(14,vI x21),(53,vI s16.2.1),(54,vI x21),(55,vI (zw (s16.2.1+x21))),(56,.ref 6 0 n27),(57,.ref 11 0 s16.2.2.2.length),(58,vI p3),(59,.ptr 11 (zt p3) 0),(60,vI a23),(61,.ptr 6 (zt a23) 0),(62,vI a25),(63,vI x21),(64,vI (zw (a25+x21))),(65,.ptr 6 (zt a23) 0)],(l17_35 (oX true true 1 (vI (zw (s16.2.1+x21)))) (oX false false 1 (.ref 6 0 n27)) (oR true 1 eI (List.set s16.2.2.1 (zt a23) (zw (a25+x21)))) (.loop 93 [(7,.ptr 0 0 0),(11,.ptr 1 0 0),(12,.ptr 2 0 0),(50,.fn (.func 93) [] [.ptr 3 0 0,.ptr 4 0 0,.ptr 5 0 0])] [51,52] (cA Tryd.f18 [true,true,true,true,false,true,true]) (cB Tryd.f18 [true,true,true,true,false,true,true]) .busy none) (oR true 1 eI s16.2.2.2) (oX false false 1 (.ref 11 0 s16.2.2.2.length)) p3 p0 x11 p1 p2),93⟩) (ls s16.2.2.1 (zt a23) (zw (a25+x21))) k)) <| hwk 1 (wl [8] []) <| hre 1 (wz [])
  refine hbd fun a28 q29=>hop 4 (fun _=>Qj (enc:=Aj) (l:=p0.Nodes) (n:=s16.1) (fl:=false) (w:=3) (a:=a28) kr kr gE q29) <| hlp 3 (fun s30=>⟨[(0,vI s16.1),(1,.ptr 12 0 0),(5,.ptr 5 0 0),(6,.ptr 13 0 0),(26,vI a28.Card),(27,vI s30.1)],(l17_35 (oX true true 1 (vI s30.2.1)) (oX false false 1 (.ref 6 0 s30.2.2.1.length)) (oR true 1 eI s30.2.2.1) o17_32 (oR true 1 eI s30.2.2.2) (oX false false 1 (.ref 11 0 s30.2.2.2.length)) p3 p0 x11 p1 p2),45⟩) (fun v=>(.exit 0,⟨[],(l17_35 (oX true true 1 (vI v.1)) (oX false false 1 (.ref 6 0 v.2.1.length)) (oR true 1 eI v.2.1) o17_32 (oR true 1 eI v.2.2) (oX false false 1 (.ref 11 0 v.2.2.length)) p3 p0 x11 p1 p2),45⟩)) (wz []) (fun s30=>?_) fun x52=>?_
  ·refine hbr 1 [28] (?_) ?_
   ·refine hil 6 Tryd.func92 <| hlp 4 (fun s33=>⟨[(0,vI s16.1),(1,vI s30.1),(8,.ref 8 0 (([p1,p2]:(List (List Int))).length)),(9,vI ((([p1,p2]:(List (List Int))).length):Int)),(10,vI s33)],(l17_35 (oX true true 1 (vI s30.2.1)) (oX false false 1 (.ref 6 0 s30.2.2.1.length)) (oR true 1 eI s30.2.2.1) o17_32 (oR true 1 eI s30.2.2.2) (oX false false 1 (.ref 11 0 s30.2.2.2.length)) p3 p0 x11 p1 p2),28⟩) (fun x=>match x with | .inl v=>(.ret,⟨[(5,vB false)],(l17_35 (oX true true 1 (vI s30.2.1)) (oX false false 1 (.ref 6 0 s30.2.2.1.length)) (oR true 1 eI s30.2.2.1) o17_32 (oR true 1 eI s30.2.2.2) (oX false false 1 (.ref 11 0 s30.2.2.2.length)) p3 p0 x11 p1 p2),28⟩) | .inr v=>(.exit 0,⟨[],(l17_35 (oX true true 1 (vI s30.2.1)) (oX false false 1 (.ref 6 0 s30.2.2.1.length)) (oR true 1 eI s30.2.2.1) o17_32 (oR true 1 eI s30.2.2.2) (oX false false 1 (.ref 11 0 s30.2.2.2.length)) p3 p0 x11 p1 p2),28⟩)) (wz []) (fun s33=>?_) (hsm (fun x45=>?_) (fun x46=>?_))
    ·refine hbr 1 [11] (?_) ?_
     ·refine hbd fun a36 q37=>hop 1 (fun _=>Qq (enc:=z1) (l:=([p1,p2]:(List (List Int)))) (n:=s33) (w:=1) (ob:=8) (ro:=false) (nr:=true) (fl:=false) (a:=a36) kr kr gE q37) <| hop 0 (fun _=>Zg (enc:=z1) (l:=([p1,p2]:(List (List Int)))) (n:=s33) (w:=1) (ob:=8) (c:=0) (bx:=false) (ro:=false) (nr:=true) (fl:=false) (a:=a36) kr kr q37 gE) <| hbd fun a38 q39=>hop 3 (fun _=>Qj (enc:=eI) (l:=a36) (n:=s16.1) (fl:=true) (w:=1) (a:=a38) kr kr gE q39) <| hbr 3 [18,19] (?_) ?_
      ·refine hop 2 (fun _=>Qj (enc:=eI) (l:=a36) (n:=s16.1) (fl:=true) (w:=1) (a:=a38) kr kr gE q39) <| hbr 4 [25,26] (hdx 2 (wz [])) <| ?_
       refine hnx 3 (wz [])
      refine hnx 10 (wz [])
     refine hdx 1 (wz [])
    ·refine hwk 2 (wl [0,1,5,6,26,27] []) <| hnx 3 (wz [])
    refine hwk 1 (wl [5] []) <| hbd fun a47 q48=>hop 6 (fun _=>Qq (enc:=eI) (l:=s30.2.2.2) (n:=s16.1) (w:=1) (ob:=11) (ro:=false) (nr:=true) (fl:=true) (a:=a47) kr kr gE q48) <| hop 0 (fun _=>Zm (enc:=eI) (l:=s30.2.2.2) (n:=s16.1) (ob:=11) (w:=1) (bx:=false) (nr:=true) (fl:=true) (c:=0) (a:=a47) (a':=s30.1) (v:=vI s30.1) false kr kr q48 kr kr kr gE kr) <| hkn 0 (fun n50=>⟨[(0,vI s16.1),(1,.ptr 12 0 0),(5,.ptr 5 0 0),(6,.ptr 13 0 0),(26,vI a28.Card),(27,vI s30.1),(28,vB true),(29,vI s30.1),(9,vI s30.1),(30,.fn (.func 92) [] [.ptr 7 0 0]),(31,vI s16.1),(32,vI s30.1),(33,vB true),(34,vB false),(35,.ref 11 0 n50),(36,vI s16.1),(37,vI s30.1),(38,.ptr 11 (zt s16.1) 0)],(l17_35 (oX true true 1 (vI s30.2.1)) (oX false false 1 (.ref 6 0 s30.2.2.1.length)) (oR true 1 eI s30.2.2.1) o17_32 (oR true 1 eI (List.set s30.2.2.2 (zt s16.1) s30.1)) (oX false false 1 (.ref 11 0 n50)) p3 p0 x11 p1 p2),45⟩) (ls s30.2.2.2 (zt s16.1) s30.1) <| hrJ 3 _ Tryd.func94 i18 fun x49=>hnx 4 (wz [])
   refine hdx 1 (wz [])
  refine hwk 1 (wl [8] []) <| hre 1 (wz [])
 refine hbr 2 [67] (hwk 3 (wl [8,9] []) <| hwk 0 (Xd 8 2 true true gE) <| hrt 1) <| ?_
 refine hoh 3 (fun _ _ h k=>mkL (enc:=Ak) (z:=((Qm.mk 0 0):Qm)) (z0:=.agg [vI 0,vI 0]) (n:=(zn x53.2.1)) (m:=(zn x53.2.1)) (w:=2) (bytes:=16) [] true kr kr gE kr h k) <| hlp 4 (fun s57=>⟨[(11,.ptr 0 0 0),(15,.ref 1 0 s57.2.length),(71,.ref 2 0 x53.2.1.length),(72,vI (zn x53.2.1)),(73,vI s57.1)],[oX true true 1 (vI x53.1),oR true 2 Ak s57.2,oR true 1 eI x53.2.1],93⟩) (fun x=>match x with | .inl v=>(.ret,⟨[(8,.ref 0 0 0),(9,vI v)],[.row false false true true 2 []],93⟩) | .inr v=>(.exit 2,⟨[(15,.ref 0 0 v.length)],[oR true 2 Ak v],93⟩)) (wz [1,14,6]) (fun s57=>?_) (hsm (fun x70=>?_) (fun x71=>?_))
 ·refine hbr 1 [74] (?_) ?_
  ·refine hbd fun a60 q61=>hop 2 (fun _=>Qq (enc:=eI) (l:=x53.2.1) (n:=s57.1) (w:=1) (ob:=2) (ro:=false) (nr:=true) (fl:=true) (a:=a60) kr kr gE q61) <| hop 0 (fun _=>Zg (enc:=eI) (l:=x53.2.1) (n:=s57.1) (w:=1) (ob:=2) (c:=0) (bx:=false) (ro:=false) (nr:=true) (fl:=true) (a:=a60) kr kr q61 gE) <| hcl 4 [] (g_frac_Make_ok a60 x53.1) fun x62 _=>hbr 8 [85] (hwk 4 (wl [8,9] []) <| hwk 0 (Xd 8 2 true true gE) <| hdn 1) <| ?_
   refine hbd fun a66 q67=>hop 4 (fun _=>Qq (enc:=Ak) (l:=s57.2) (n:=s57.1) (w:=2) (ob:=1) (ro:=false) (nr:=true) (fl:=true) (a:=a66) kr kr gE q67) <| hop 0 (fun _=>Zm (enc:=Ak) (l:=s57.2) (n:=s57.1) (ob:=1) (w:=2) (bx:=false) (nr:=true) (fl:=true) (c:=0) (a:=a66) (a':=x62.1) (v:=.agg [vI x62.1.N,vI x62.1.D]) false kr kr q67 kr kr kr gE kr) <| hkl 0 [15,87] (ls s57.2 (zt s57.1) x62.1) <| hnx 2 (wz [0,1,2])
  refine hdx 1 (wz [1])
 ·refine hrt 0
 refine hrt 4
theorem g_law32_ints_ok (p0:(List Int)) (p1:(List Int)):Ct Tryd.prog 29 [z1 p0,z1 p1] (Qal p0 p1) (fun x=>vB x) (fun x=>[]):=by
 refine hfn [] Tryd.func29 <| hop 2 (fun _=>Qr (enc:=eI) (l:=p0) (fl:=true) kr gE) <| hop 1 (fun _=>Qr (enc:=eI) (l:=p1) (fl:=true) kr gE) <| hbr 1 [10] (hrt 3) <| ?_
 refine hop 2 (fun _=>Qr (enc:=eI) (l:=p0) (fl:=true) kr gE) <| hlp 1 (fun s3=>⟨[(0,z1 p0),(1,z1 p1),(12,vI (zn p0)),(13,vI s3)],[],26⟩) (fun x=>match x with | .inl v=>(.ret,⟨[(4,vB false)],[],26⟩) | .inr v=>(.exit 0,⟨[],[],26⟩)) (wz []) (fun s3=>?_) (hsm (fun x13=>?_) (fun x14=>?_))
 ·refine hbr 1 [14] (?_) ?_
  ·refine hbd fun a6 q7=>hop 6 (fun _=>Qj (enc:=eI) (l:=p0) (n:=s3) (fl:=true) (w:=1) (a:=a6) kr kr gE q7) <| hbd fun a8 q9=>hop 3 (fun _=>Qj (enc:=eI) (l:=p1) (n:=s3) (fl:=true) (w:=1) (a:=a8) kr kr gE q9) <| hbr 2 [24] (hdx 2 (wz [])) <| ?_
   refine hnx 3 (wz [])
  refine hdx 1 (wz [])
 ·refine hrt 0
 refine hrt 2
noncomputable abbrev l19_36 (p0 p1:Qd):List AObj:=[oX true false 2 (.agg [vI p0.Grain,eL false Aj p0.Nodes]),oX true false 2 (.agg [vI p1.Grain,eL false Aj p1.Nodes])]
theorem Qlw (p0:Qd) (p1:Qd):Ct Tryd.prog 21 [.agg [vI p0.Grain,eL false Aj p0.Nodes],.agg [vI p1.Grain,eL false Aj p1.Nodes]] (Qhk p0 p1) (fun x=>vB x) (fun x=>[]):=by
 refine hfn [] Tryd.func21 <| hop 0 (fun _=>sgL false [] [] false gE) <| hop 0 (fun _=>sgL false [] [] false gE) <| hbr 7 [13,14] (hrt 11) <| ?_
 refine hop 2 (fun _=>Qr (enc:=Aj) (l:=p0.Nodes) (fl:=false) kr gE) <| hop 2 (fun _=>Qr (enc:=Aj) (l:=p1.Nodes) (fl:=false) kr gE) <| hbr 2 [21,22] (hrt 3) <| ?_
 refine hop 3 (fun _=>Qr (enc:=Aj) (l:=p0.Nodes) (fl:=false) kr gE) <| hlp 1 (fun s5=>⟨[(2,.ptr 0 0 0),(3,.ptr 1 0 0),(25,vI (zn p0.Nodes)),(26,vI s5)],(l19_36 p0 p1),81⟩) (fun x=>match x with | .inl v=>(.ret,⟨[(4,vB false)],[],81⟩) | .inr v=>(.exit 0,⟨[],[],81⟩)) (wz [0,1]) (fun s5=>?_) (hsm (fun x35=>?_) (fun x36=>?_))
 ·refine hbr 1 [27] (?_) ?_
  ·refine hbd fun a8 q9=>hop 7 (fun _=>Qj (enc:=Aj) (l:=p0.Nodes) (n:=s5) (fl:=false) (w:=3) (a:=a8) kr kr gE q9) <| hbd fun a10 q11=>hop 4 (fun _=>Qj (enc:=Aj) (l:=p1.Nodes) (n:=s5) (fl:=false) (w:=3) (a:=a10) kr kr gE q11) <| hop 1 (fun _=>sgL false [] [] false gE) <| hop 0 (fun _=>sgL false [] [] false gE) <| hbr 8 [43,44] (hdx 18 (wz [])) <| ?_
   refine hcl 4 [] (g_law32_ints_ok a8.Parents a10.Parents) fun x14 _=>hbr 3 [50,51,52] (hdx 10 (wz [])) <| ?_
   refine hop 2 (fun _=>Qr (enc:=z1) (l:=a8.Rows) (fl:=false) kr gE) <| hop 2 (fun _=>Qr (enc:=z1) (l:=a10.Rows) (fl:=false) kr gE) <| hbr 2 [59,60] (hdx 2 (wz [])) <| ?_
   refine hop 3 (fun _=>Qr (enc:=z1) (l:=a8.Rows) (fl:=false) kr gE) <| hlp 1 (fun s20=>⟨[(2,.ptr 0 0 0),(3,.ptr 1 0 0),(6,.ptr 2 0 0),(7,.ptr 3 0 0),(25,vI (zn p0.Nodes)),(26,vI s5),(63,vI (zn a8.Rows)),(64,vI s20)],(l19_36 p0 p1)++[oX true false 3 (.agg [vI a8.Card,z1 a8.Parents,z2 a8.Rows]),oX true false 3 (.agg [vI a10.Card,z1 a10.Parents,z2 a10.Rows])],81⟩) (fun x=>match x with | .inl v=>(.ret,⟨[(4,vB false)],[],81⟩) | .inr v=>(.exit 2,⟨[(2,.ptr 0 0 0),(3,.ptr 1 0 0),(25,vI (zn p0.Nodes)),(26,vI s5)],(l19_36 p0 p1),81⟩)) (wz [0,1,2,3]) (fun s20=>?_) (hsm (fun x32=>?_) (fun x33=>?_))
   ·refine hbr 1 [65] (?_) ?_
    ·refine hbd fun a23 q24=>hop 7 (fun _=>Qj (enc:=z1) (l:=a8.Rows) (n:=s20) (fl:=false) (w:=1) (a:=a23) kr kr gE q24) <| hbd fun a25 q26=>hop 4 (fun _=>Qj (enc:=z1) (l:=a10.Rows) (n:=s20) (fl:=false) (w:=1) (a:=a25) kr kr gE q26) <| hcl 1 [] (g_law32_ints_ok a23 a25) fun x27 _=>hbr 1 [78] (hdx 2 (wz [])) <| ?_
     refine hnx 3 (wz [0,1,2,3])
    refine hdx 1 (wz [0,1])
   ·refine hdn 0
   refine hnx 2 (wz [0,1])
  refine hdx 1 (wz [])
 ·refine hrt 0
 refine hrt 2
theorem Qm1 (p0:Qd) (p1:Int) (p2:(List Int)):Ct Tryd.prog 68 [.agg [vI p0.Grain,eL false Aj p0.Nodes],.int .u64 p1,z1 p2] (Qil p0 p1 p2) (fun x=>vI x) (fun x=>[]):=by
 refine hfn [] Tryd.func68 <| hop 0 (fun _=>sgL false [] [] false gE) <| hop 4 (fun _=>Qr (enc:=Aj) (l:=p0.Nodes) (fl:=false) kr gE) <| hlp 1 (fun s1=>⟨[(1,.int .u64 p1),(2,z1 p2),(7,vI s1.1),(11,eL false Aj p0.Nodes),(12,vI (zn p0.Nodes)),(13,vI s1.2)],[],34⟩) (fun v=>(.exit 0,⟨[(7,vI v)],[],34⟩)) (wz []) (fun s1=>?_) fun x11=>?_
 ·refine hbr 1 [14] (?_) ?_
  ·refine hbd fun a4 q5=>hop 2 (fun _=>Qj (enc:=Aj) (l:=p0.Nodes) (n:=s1.2) (fl:=false) (w:=3) (a:=a4) kr kr gE q5) <| hop 1 (fun _=>sgL false [] [] false gE) <| hoh 4 (fun _ _ h k=>Yh (k:=.u64) (k':=.i64) (a:=p1) (b:=s1.2) kr gE h k) <| hbr 2 [22] (hbd fun a8 q9=>hop 8 (fun _=>Qj (enc:=eI) (l:=p2) (n:=s1.2) (fl:=true) (w:=1) (a:=a8) kr kr gE q9) <| hnx 5 (wz [])) <| ?_
   refine hnx 3 (wz [])
  refine hdx 1 (wz [])
 refine hrt 3
theorem Qn7 (p0:Qd) (p1:Int) (p2:Int):Ct Tryd.prog 69 [.agg [vI p0.Grain,eL false Aj p0.Nodes],.int .u64 p1,vI p2] (Ql1 p0 p1 p2) (fun x=>.ref 0 0 x.length) (fun x=>[oR true 1 eI x]):=by
 refine hfn [] Tryd.func69 <| hop 0 (fun _=>sgL false [] [] false gE) <| hop 3 (fun _=>Qr (enc:=Aj) (l:=p0.Nodes) (fl:=false) kr gE) <| hoh 0 (fun _ _ h k=>mkL (enc:=eI) (z:=(0:Int)) (z0:=vI 0) (n:=(zn p0.Nodes)) (m:=(zn p0.Nodes)) (w:=1) (bytes:=8) [] true kr kr gE kr h k) <| hlp 5 (fun s1=>⟨[(1,.int .u64 p1),(2,vI s1.1),(3,.ptr 0 0 0),(7,.ref 1 0 s1.2.2.length),(8,vI s1.2.1)],[oX true false 2 (.agg [vI p0.Grain,eL false Aj p0.Nodes]),oR true 1 eI s1.2.2],48⟩) (fun v=>(.exit 0,⟨[(7,.ref 0 0 v.length)],[oR true 1 eI v],48⟩)) (wz [0,1]) (fun s1=>?_) fun x15=>?_
 ·refine hbr 2 [17] (?_) ?_
  ·refine hoh 3 (fun _ _ h k=>Yh (k:=.u64) (k':=.i64) (a:=p1) (b:=s1.2.1) kr gE h k) <| hbr 2 [24] (?_) ?_
   ·refine hbd fun a6 q7=>hop 3 (fun _=>Qq (enc:=eI) (l:=s1.2.2) (n:=s1.2.1) (w:=1) (ob:=1) (ro:=false) (nr:=true) (fl:=true) (a:=a6) kr kr gE q7) <| hop 0 (fun _=>Zm (enc:=eI) (l:=s1.2.2) (n:=s1.2.1) (ob:=1) (w:=1) (bx:=false) (nr:=true) (fl:=true) (c:=0) (a:=a6) (a':=-1) (v:=vI (-1)) false kr kr q7 kr kr kr gE kr) <| hkl 0 [7,25] (ls s1.2.2 (zt s1.2.1) (-1)) <| hwk 0 (wl [1,2,3,7,8] [0,1]) <| hnx 4 (wz [0,1])
   refine hbd fun a9 q10=>hop 7 (fun _=>Qj (enc:=Aj) (l:=p0.Nodes) (n:=s1.2.1) (fl:=false) (w:=3) (a:=a9) kr kr gE q10) <| hoh 2 (fun _ _ h k=>Qc7 (k:=.i64) (a:=s1.1) (b:=a9.Card) kr gE h k) <| hbd fun a11 q12=>hop 0 (fun _=>Qq (enc:=eI) (l:=s1.2.2) (n:=s1.2.1) (w:=1) (ob:=1) (ro:=false) (nr:=true) (fl:=true) (a:=a11) kr kr gE q12) <| hop 0 (fun _=>Zm (enc:=eI) (l:=s1.2.2) (n:=s1.2.1) (ob:=1) (w:=1) (bx:=false) (nr:=true) (fl:=true) (c:=0) (a:=a11) (a':=Int.tmod s1.1 a9.Card) (v:=vI (Int.tmod s1.1 a9.Card)) false kr kr q12 kr kr kr gE kr) <| hkl 0 [7,28] (ls s1.2.2 (zt s1.2.1) (Int.tmod s1.1 a9.Card)) <| hop 4 (fun _=>Qj (enc:=Aj) (l:=p0.Nodes) (n:=s1.2.1) (fl:=false) (w:=3) (a:=a9) kr kr gE q10) <| hoh 2 (fun _ _ h k=>Qt8 (k:=.i64) (a:=s1.1) (b:=a9.Card) kr gE h k) <| ?_
   refine hnx 4 (wz [0,1])
  refine hdx 1 (wz [1])
 refine hrt 3
noncomputable abbrev Qim (p0:Qd):AObj:=oX true false 2 (.agg [vI p0.Grain,eL false Aj p0.Nodes])
noncomputable abbrev Qiy (p1:Int):AObj:=oX true true 1 (.int .u64 p1)
noncomputable abbrev Qtt (p2:Int):AObj:=oX true true 1 (vI p2)
noncomputable abbrev Qt2 (p3:Int):AObj:=oX true true 1 (vI p3)
noncomputable abbrev Qlz:AObj:=oX true true 2 (.agg [vI 0,vI 0])
noncomputable abbrev Q5k:AObj:=oX false false 1 (.fn (.func 92) [] [.ptr 10 0 0])
noncomputable abbrev Q55:AObj:=oX true false 1 (.nils)
noncomputable abbrev Qgo:AObj:=.loop 137 [(4,.ptr 0 0 0),(5,.ptr 1 0 0),(6,.ptr 2 0 0),(7,.ptr 3 0 0),(9,.ptr 4 0 0),(15,.ptr 5 0 0),(83,.fn (.func 93) [] [.ptr 6 0 0,.ptr 7 0 0,.ptr 8 0 0])] [84,85] (cA Tryd.f27 [true,true,true,true,true,true,false,true,true]) (cB Tryd.f27 [true,true,true,true,true,true,false,true,true]) .ready none
noncomputable abbrev Q5b:AObj:=oX false false 1 (.yld 11)
noncomputable abbrev Q5t:AObj:=oX false false 1 (.fn (.func 94) [] [.ptr 14 0 0,.ptr 12 0 0,.ptr 6 0 0,.ptr 7 0 0,.ptr 8 0 0,.ptr 15 0 0])
noncomputable abbrev Qes (a0 a1 a2 a3 a4:AObj) (p0:Qd) (p1 p2 p3:Int):List AObj:=[(Qim p0),(Qiy p1),(Qtt p2),(Qt2 p3),Qlz,a0,(Qim p0),(Qiy p1),Q5k,a1,Q55,a2,Q5b,a3,a4,Q5t]
noncomputable abbrev Quo:List (Nat×AV):=[(4,.ptr 0 0 0),(5,.ptr 1 0 0),(6,.ptr 2 0 0),(7,.ptr 3 0 0),(9,.ptr 4 0 0)]
theorem Qkf (p0:Qd) (p1:Int) (p2:Int) (p3:Int):Ct Tryd.prog 27 [.agg [vI p0.Grain,eL false Aj p0.Nodes],.int .u64 p1,vI p2,vI p3] (Qje p0 p1 p2 p3) (fun x=>.tup [.ref 0 0 x.1.length,.agg [vI x.2.1.N,vI x.2.1.D],vI x.2.2]) (fun x=>[oR true 1 eI x.1]):=by
 refine hfn [] Tryd.func27 <| hop 0 (fun _=>sgL false [] [] false gE) <| hcl 7 [] (us:=[.agg [vI p0.Grain,eL false Aj p0.Nodes],.nils]) (rv:=fun x1=>vI x1) (ro:=fun x1=>[]) (fun x1 q2=>Q3.args [[.keep,.keep],[.lst false]] (g_act_check_ok p0 [] x1 q2)) fun x1 _=>hbr 3 [26] (hwk 6 (wl [8,9,10] [4]) <| hwk 0 (Xd 8 1 true true gE) <| hrt 1) <| ?_
 refine hop 5 (fun _=>Qr (enc:=Aj) (l:=p0.Nodes) (fl:=false) kr gE) <| hoh 0 (fun _ _ h k=>Yh (k:=.u64) (k':=.i64) (a:=p1) (b:=(zn p0.Nodes)) kr gE h k) <| hbr 2 [34,35] (hwk 29 (wl [8,9,10] [4]) <| hwk 0 (Xd 8 1 true true gE) <| hrt 1) <| ?_
 refine hbr 4 [37,38,39] (hwk 25 (wl [8,9,10] [4]) <| hwk 0 (Xd 8 1 true true gE) <| hrt 1) <| ?_
 refine hop 3 (fun _=>Qr (enc:=Aj) (l:=p0.Nodes) (fl:=false) kr gE) <| hbr 3 [44,45,46] (hwk 18 (wl [8,9,10] [4]) <| hwk 0 (Xd 8 1 true true gE) <| hrt 1) <| ?_
 refine hbr 4 [48,49,50] (hwk 14 (wl [8,9,10] [4]) <| hwk 0 (Xd 8 1 true true gE) <| hrt 1) <| ?_
 refine hbd fun a13 q14=>hop 4 (fun _=>Qj (enc:=Aj) (l:=p0.Nodes) (n:=p2) (fl:=false) (w:=3) (a:=a13) kr kr gE q14) <| hbr 4 [58,59] (hwk 5 (wl [8,9,10] [4]) <| hwk 0 (Xd 8 1 true true gE) <| hrt 1) <| ?_
 refine hop 4 (fun _=>Qr (enc:=Aj) (l:=p0.Nodes) (fl:=false) kr gE) <| hlp 1 (fun s17=>⟨Quo++[(12,vI s17.1),(62,eL false Aj p0.Nodes),(63,vI (zn p0.Nodes)),(64,vI s17.2)],[(Qim p0),(Qiy p1),(Qtt p2),(Qt2 p3),Qlz],137⟩) (fun v=>(.exit 0,⟨Quo++[(12,vI v)],[(Qim p0),(Qiy p1),(Qtt p2),(Qt2 p3),Qlz],137⟩)) (wz [0,1,2,3,4]) (fun s17=>?_) fun x25=>?_
 ·refine hbr 1 [65] (?_) ?_
  ·refine hbd fun a20 q21=>hop 2 (fun _=>Qj (enc:=Aj) (l:=p0.Nodes) (n:=s17.2) (fl:=false) (w:=3) (a:=a20) kr kr gE q21) <| hop 1 (fun _=>sgL false [] [] false gE) <| hoh 4 (fun _ _ h k=>Yh (k:=.u64) (k':=.i64) (a:=p1) (b:=s17.2) kr gE h k) <| hbr 2 [73] (hnx 8 (wz [0,1,2,3,4])) <| ?_
   refine hnx 3 (wz [0,1,2,3,4])
  refine hdx 1 (wz [0,1,2,3,4])
 refine hoh 1 (fun _ _ h k=>mkL (enc:=eI) (z:=(0:Int)) (z0:=vI 0) (n:=x25) (m:=x25) (w:=1) (bytes:=8) [] true kr kr gE kr h k) <| hop 0 (fun _=>sgL false [] [] false gE) <| hil 3 Tryd.func52 <| hop 0 (fun _=>sgL false [] [] false gE) <| hop 1 (fun _=>sgL false [] [] false gE) <| hop 2 (fun _=>sgL false [] [] false gE) <| hwk 3 (wl [6] [7,8,10,9]) <| hwk 1 (wl [4,5,6,7,9,15,83] [0,1,2,3,4,6,7,8,9,5,10]) <| hrg 0 Tryd.func93 <| ?_
 refine hop 0 (fun _=>sgL false [] [] false gE) <| hop 2 (fun _=>Qr (enc:=Aj) (l:=p0.Nodes) (fl:=false) kr gE) <| hoh 0 (fun _ _ h k=>mkL (enc:=eI) (z:=(0:Int)) (z0:=vI 0) (n:=(zn p0.Nodes)) (m:=(zn p0.Nodes)) (w:=1) (bytes:=8) [] true kr kr gE kr h k) <| hop 0 (fun _=>sgL false [] [] false gE) <| hop 1 (fun _=>sgL false [] [] false gE) <| hrc 3 16 (fun s26=>⟨[(0,vI s26.1),(1,.ptr 14 0 0),(2,.ptr 12 0 0),(3,.ptr 6 0 0),(4,.ptr 7 0 0),(5,.ptr 8 0 0),(6,.ptr 15 0 0)],(Qes (oX false false 1 (.ref 9 0 s26.2.1.length)) (oR true 1 eI s26.2.1) Qgo (oR true 1 eI s26.2.2) (oX false false 1 (.ref 13 0 s26.2.2.length)) p0 p1 p2 p3),45⟩) (fun v=>⟨[(8,vB true)],(Qes (oX false false 1 (.ref 9 0 v.1.length)) (oR true 1 eI v.1) Qgo (oR true 1 eI v.2) (oX false false 1 (.ref 13 0 v.2.length)) p0 p1 p2 p3),45⟩) Tryd.func94 (fun r27 i28 s26=>?_) fun x56=>?_
 ·refine hbr 5 [13] (?_) ?_
  ·refine hct 1 6 <| hcl 5 [F eI s26.2.2] (g_act_weigh_ok p0 p1 s26.2.2) fun x31 _=>hyl 0 <| hbd fun a33 q34=>hop 5 (fun _=>Qq (enc:=eI) (l:=s26.2.2) (n:=p2) (w:=1) (ob:=13) (ro:=false) (nr:=true) (fl:=true) (a:=a33) kr kr gE q34) <| hop 0 (fun _=>Zg (enc:=eI) (l:=s26.2.2) (n:=p2) (w:=1) (ob:=13) (c:=0) (bx:=false) (ro:=false) (nr:=true) (fl:=true) (a:=a33) kr kr q34 gE) <| hbr 2 [91] (?_) ?_
   ·refine hcl 6 [F eI s26.2.2] (Qm1 p0 p1 s26.2.2) fun x37 _=>hbd fun a39 q40=>hop 0 (fun _=>Qq (enc:=eI) (l:=s26.2.1) (n:=x37) (w:=1) (ob:=9) (ro:=false) (nr:=true) (fl:=true) (a:=a39) kr kr gE q40) <| hop 0 (fun _=>Zg (enc:=eI) (l:=s26.2.1) (n:=x37) (w:=1) (ob:=9) (c:=0) (bx:=false) (ro:=false) (nr:=true) (fl:=true) (a:=a39) kr kr q40 gE) <| hop 2 (fun _=>Qq (enc:=eI) (l:=s26.2.1) (n:=x37) (w:=1) (ob:=9) (ro:=false) (nr:=true) (fl:=true) (a:=a39) kr kr gE q40) <| hop 0 (fun _ k=>Zm (enc:=eI) (l:=s26.2.1) (n:=x37) (ob:=9) (w:=1) (bx:=false) (nr:=true) (fl:=true) (c:=0) (a:=a39) (a':=zw (a39+x31)) (v:=vI (zw (a39+x31))) false kr kr q40 kr kr kr gE kr (Q03 (S:=fun n41=>⟨Quo++[(15,.ptr 5 0 0),(83,.fn (.func 93) [] [.ptr 6 0 0,.ptr 7 0 0,.ptr 8 0 0]),(84,.ref 13 0 s26.2.2.length),(85,vI x31),(16,.ref 13 0 s26.2.2.length),(17,vI x31),(86,.ref 13 0 s26.2.2.length),(87,vI p2),(88,.ptr 13 (zt p2) 0),(89,vI a33),(90,vI p3),(91,vB true),(92,.ref 9 0 n41),(93,.agg [vI p0.Grain,eL false Aj p0.Nodes]),(94,.int .u64 p1),(95,.ref 13 0 s26.2.2.length),(96,vI x37),(97,.ptr 9 (zt x37) 0),(98,vI a39),(99,vI x31),(100,vI (zw (a39+x31))),(101,.ptr 9 (zt x37) 0)],(Qes (oX false false 1 (.ref 9 0 n41)) (oR true 1 eI (List.set s26.2.1 (zt x37) (zw (a39+x31)))) (.loop 137 [(4,.ptr 0 0 0),(5,.ptr 1 0 0),(6,.ptr 2 0 0),(7,.ptr 3 0 0),(9,.ptr 4 0 0),(15,.ptr 5 0 0),(83,.fn (.func 93) [] [.ptr 6 0 0,.ptr 7 0 0,.ptr 8 0 0])] [84,85] (cA Tryd.f27 [true,true,true,true,true,true,false,true,true]) (cB Tryd.f27 [true,true,true,true,true,true,false,true,true]) .busy none) (oR true 1 eI s26.2.2) (oX false false 1 (.ref 13 0 s26.2.2.length)) p0 p1 p2 p3),137⟩) (ls s26.2.1 (zt x37) (zw (a39+x31))) k)) <| hwk 1 (wl [8] []) <| hre 1 (wz [])
   refine hwk 2 (wl [8] []) <| hre 1 (wz [])
  refine hbd fun a42 q43=>hop 4 (fun _=>Qj (enc:=Aj) (l:=p0.Nodes) (n:=s26.1) (fl:=false) (w:=3) (a:=a42) kr kr gE q43) <| hlp 3 (fun s44=>⟨[(0,vI s26.1),(1,.ptr 14 0 0),(5,.ptr 8 0 0),(6,.ptr 15 0 0),(26,vI a42.Card),(27,vI s44.1)],(Qes (oX false false 1 (.ref 9 0 s44.2.1.length)) (oR true 1 eI s44.2.1) Qgo (oR true 1 eI s44.2.2) (oX false false 1 (.ref 13 0 s44.2.2.length)) p0 p1 p2 p3),45⟩) (fun v=>(.exit 0,⟨[],(Qes (oX false false 1 (.ref 9 0 v.1.length)) (oR true 1 eI v.1) Qgo (oR true 1 eI v.2) (oX false false 1 (.ref 13 0 v.2.length)) p0 p1 p2 p3),45⟩)) (wz []) (fun s44=>?_) fun x55=>?_
  ·refine hbr 1 [28] (?_) ?_
   ·refine hil 6 Tryd.func92 <| hlp 4 (fun s47=>⟨[(0,vI s26.1),(1,vI s44.1),(8,.nils),(9,vI 0),(10,vI 0)],(Qes (oX false false 1 (.ref 9 0 s44.2.1.length)) (oR true 1 eI s44.2.1) Qgo (oR true 1 eI s44.2.2) (oX false false 1 (.ref 13 0 s44.2.2.length)) p0 p1 p2 p3),28⟩) (fun v=>(.exit 0,⟨[],(Qes (oX false false 1 (.ref 9 0 s44.2.1.length)) (oR true 1 eI s44.2.1) Qgo (oR true 1 eI s44.2.2) (oX false false 1 (.ref 13 0 s44.2.2.length)) p0 p1 p2 p3),28⟩)) (wz []) (fun s47=>?_) fun x49=>?_
    ·refine hdx 2 (wz [])
    refine hwk 1 (wl [5] []) <| hbd fun a50 q51=>hop 6 (fun _=>Qq (enc:=eI) (l:=s44.2.2) (n:=s26.1) (w:=1) (ob:=13) (ro:=false) (nr:=true) (fl:=true) (a:=a50) kr kr gE q51) <| hop 0 (fun _=>Zm (enc:=eI) (l:=s44.2.2) (n:=s26.1) (ob:=13) (w:=1) (bx:=false) (nr:=true) (fl:=true) (c:=0) (a:=a50) (a':=s44.1) (v:=vI s44.1) false kr kr q51 kr kr kr gE kr) <| hkn 0 (fun n53=>⟨[(0,vI s26.1),(1,.ptr 14 0 0),(5,.ptr 8 0 0),(6,.ptr 15 0 0),(26,vI a42.Card),(27,vI s44.1),(28,vB true),(29,vI s44.1),(9,vI s44.1),(30,.fn (.func 92) [] [.ptr 10 0 0]),(31,vI s26.1),(32,vI s44.1),(33,vB true),(34,vB false),(35,.ref 13 0 n53),(36,vI s26.1),(37,vI s44.1),(38,.ptr 13 (zt s26.1) 0)],(Qes (oX false false 1 (.ref 9 0 s44.2.1.length)) (oR true 1 eI s44.2.1) Qgo (oR true 1 eI (List.set s44.2.2 (zt s26.1) s44.1)) (oX false false 1 (.ref 13 0 n53)) p0 p1 p2 p3),45⟩) (ls s44.2.2 (zt s26.1) s44.1) <| hrJ 3 _ Tryd.func94 i28 fun x52=>hnx 4 (wz [])
   refine hdx 1 (wz [])
  refine hwk 1 (wl [8] []) <| hre 1 (wz [])
 refine hlp 4 (fun s58=>⟨[(4,.ptr 0 0 0),(5,.ptr 1 0 0),(9,.ptr 2 0 0),(15,.ptr 3 0 0),(18,vI s58.1),(102,.ref 4 0 x56.1.length),(103,vI (zn x56.1)),(104,vI s58.2)],[(Qim p0),(Qiy p1),Qlz,oX false false 1 (.ref 4 0 x56.1.length),oR true 1 eI x56.1],137⟩) (fun v=>(.exit 4,⟨[(4,.ptr 0 0 0),(5,.ptr 1 0 0),(9,.ptr 2 0 0),(15,.ptr 3 0 0),(18,vI v)],[(Qim p0),(Qiy p1),Qlz,oX false false 1 (.ref 4 0 x56.1.length),oR true 1 eI x56.1],137⟩)) (wz [0,1,4,5,9]) (fun s58=>?_) fun x68=>?_
 ·refine hbr 1 [105] (?_) ?_
  ·refine hbd fun a61 q62=>hop 2 (fun _=>Qq (enc:=eI) (l:=x56.1) (n:=s58.2) (w:=1) (ob:=4) (ro:=false) (nr:=true) (fl:=true) (a:=a61) kr kr gE q62) <| hop 0 (fun _=>Zg (enc:=eI) (l:=x56.1) (n:=s58.2) (w:=1) (ob:=4) (c:=0) (bx:=false) (ro:=false) (nr:=true) (fl:=true) (a:=a61) kr kr q62 gE) <| hbd fun a63 q64=>hop 5 (fun _=>Qq (enc:=eI) (l:=x56.1) (n:=s58.1) (w:=1) (ob:=4) (ro:=false) (nr:=true) (fl:=true) (a:=a63) kr kr gE q64) <| hop 0 (fun _=>Zg (enc:=eI) (l:=x56.1) (n:=s58.1) (w:=1) (ob:=4) (c:=0) (bx:=false) (ro:=false) (nr:=true) (fl:=true) (a:=a63) kr kr q64 gE) <| hbr 1 [114] (hnx 5 (wz [0,1,2,3,4])) <| ?_
   refine hnx 3 (wz [0,1,2,3,4])
  refine hdx 1 (wz [0,1,2,3,4])
 refine hbd fun a69 q70=>hop 3 (fun _=>Qq (enc:=eI) (l:=x56.1) (n:=x68) (w:=1) (ob:=4) (ro:=false) (nr:=true) (fl:=true) (a:=a69) kr kr gE q70) <| hop 0 (fun _=>Zg (enc:=eI) (l:=x56.1) (n:=x68) (w:=1) (ob:=4) (c:=0) (bx:=false) (ro:=false) (nr:=true) (fl:=true) (a:=a69) kr kr q70 gE) <| hcl 2 [] (g_act_whole_ok p0 p1) fun x71 _=>hcl 0 [] (g_frac_Make_ok a69 x71) fun x73 _=>hbr 8 [129] (hwk 6 (wl [8,9,10] [2]) <| hwk 0 (Xd 8 1 true true gE) <| hrt 1) <| ?_
 refine hcl 5 [] (Qn7 p0 p1 x68) fun x77 _=>hrt 5
theorem g_law32_chapter_ok  : Ct Tryd.prog 33 [] (J0) (fun x=>.agg [vI x.Grain,.ref 0 0 x.Nodes.length]) (fun x=>[oR false 3 Aj x.Nodes]):=by
 refine hfn [] Tryd.func33 <| hop 0 (fun _=>sgL false [] [] false gE) <| hop 0 (fun _=>sgL false [] [] true gE) <| hbs 0 [.lst true] false [] <| hop 1 (fun _=>sgL false [] [] true gE) <| hop 0 (fun _=>sgL false [] [] true gE) <| hop 0 (fun _=>sgL false [] [] true gE) <| hbs 0 [.lst true] false [] <| hop 1 (fun _=>sgL false [] [] true gE) <| ?_
 refine hop 0 (fun _=>sgL false [] [] true gE) <| hop 0 (fun _=>sgL false [] [] true gE) <| hop 0 (fun _=>sgL false [] [] true gE) <| hop 0 (fun _=>sgL false [] [] true gE) <| hbs 0 [.lst true] false [] <| hbs 1 [.keep,.lst true,.lst false] false [] <| hrt 3
theorem g_act_graph_withoutInto_ok (p0:Aa) (p1:Int):Ct Tryd.prog 144 [.agg [eL true (AV.int .u64) p0.sets.parents],.int .u64 p1] (Xz p0 p1) (fun x=>.agg [.ref 0 0 x.sets.parents.length]) (fun x=>[oR true 1 (AV.int .u64) x.sets.parents]):=by
 refine hfn [] Tryd.func144 <| hop 0 (fun _=>sgL false [] [] false gE) <| hop 0 (fun _=>sgL false [] [] false gE) <| hoh 4 (fun _ _ h k=>Qnj (enc:=(AV.int .u64)) (m:=p0.sets.parents) (w:=1) (bytes:=8) (nr':=true) (fl':=true) (a:=.emp) (b:=eL true (AV.int .u64) p0.sets.parents) (rds:=[]) false kr (.inr rfl) (Qed (fun _=>rfl)) kr gE kr h k) <| hlp 4 (fun s1=>⟨[(1,.int .u64 p1),(4,.ptr 0 0 0),(5,.ref 1 0 s1.2.length),(13,vI (zn p0.sets.parents)),(14,vI s1.1)],[oX true false 1 (.agg [.nils]),oR true 1 (AV.int .u64) s1.2],29⟩) (fun v=>(.exit 0,⟨[(4,.ptr 0 0 0),(5,.ref 1 0 v.length)],[oX true false 1 (.agg [.nils]),oR true 1 (AV.int .u64) v],29⟩)) (wz [1,2]) (fun s1=>?_) fun x10=>?_
 ·refine hbr 1 [15] (?_) ?_
  ·refine hoh 5 (fun _ _ h k=>Yh (k:=.u64) (k':=.i64) (a:=p1) (b:=s1.1) kr gE h k) <| hbr 2 [21] (?_) ?_
   ·refine hbd fun a6 q7=>hop 3 (fun _=>Qq (enc:=(AV.int .u64)) (l:=s1.2) (n:=s1.1) (w:=1) (ob:=1) (ro:=false) (nr:=true) (fl:=true) (a:=a6) kr kr gE q7) <| hop 0 (fun _=>Zm (enc:=(AV.int .u64)) (l:=s1.2) (n:=s1.1) (ob:=1) (w:=1) (bx:=false) (nr:=true) (fl:=true) (c:=0) (a:=a6) (a':=0) (v:=.int .u64 0) false kr kr q7 kr kr kr gE kr) <| hkl 0 [5,22] (ls s1.2 (zt s1.1) 0) <| hnx 2 (wz [0,1])
   refine hnx 3 (wz [0,1])
  refine hdx 1 (wz [0,1])
 refine hrt 5
theorem g_act_graph_first_ok (p0:Aa) (p1:Int) (p2:Int) (p3:Int):Ct Tryd.prog 115 [.agg [eL true (AV.int .u64) p0.sets.parents],.int .u64 p1,.int .u64 p2,.int .u64 p3] (Qe8 p0 p1 p2 p3) (fun x=>.agg [.ref 0 0 x.sets.parents.length]) (fun x=>[oR true 1 (AV.int .u64) x.sets.parents]):=by
 refine hfn [] Tryd.func115 <| hop 0 (fun _=>sgL false [] [] false gE) <| hop 0 (fun _=>sgL false [] [] false gE) <| hcl 2 [] (g_act_graph_withoutInto_ok p0 p2) fun x1 _=>hrt 2
theorem Qfn (p0:Aa) (p1:Int):Ct Tryd.prog 145 [.agg [eL true (AV.int .u64) p0.sets.parents],.int .u64 p1] (Qbg p0 p1) (fun x=>.agg [.ref 0 0 x.sets.parents.length]) (fun x=>[oR true 1 (AV.int .u64) x.sets.parents]):=by
 refine hfn [] Tryd.func145 <| hop 0 (fun _=>sgL false [] [] false gE) <| hop 0 (fun _=>sgL false [] [] false gE) <| hoh 4 (fun _ _ h k=>Qnj (enc:=(AV.int .u64)) (m:=p0.sets.parents) (w:=1) (bytes:=8) (nr':=true) (fl':=true) (a:=.emp) (b:=eL true (AV.int .u64) p0.sets.parents) (rds:=[]) false kr (.inr rfl) (Qed (fun _=>rfl)) kr gE kr h k) <| hlp 4 (fun s1=>⟨[(1,.int .u64 p1),(4,.ptr 0 0 0),(5,.ref 1 0 s1.2.length),(13,vI (zn p0.sets.parents)),(14,vI s1.1)],[oX true false 1 (.agg [.nils]),oR true 1 (AV.int .u64) s1.2],28⟩) (fun v=>(.exit 0,⟨[(4,.ptr 0 0 0),(5,.ref 1 0 v.length)],[oX true false 1 (.agg [.nils]),oR true 1 (AV.int .u64) v],28⟩)) (wz [1,2]) (fun s1=>?_) fun x8=>?_
 ·refine hbr 1 [15] (?_) ?_
  ·refine hbd fun a4 q5=>hop 5 (fun _=>Qq (enc:=(AV.int .u64)) (l:=s1.2) (n:=s1.1) (w:=1) (ob:=1) (ro:=false) (nr:=true) (fl:=true) (a:=a4) kr kr gE q5) <| hop 0 (fun _=>Zg (enc:=(AV.int .u64)) (l:=s1.2) (n:=s1.1) (w:=1) (ob:=1) (c:=0) (bx:=false) (ro:=false) (nr:=true) (fl:=true) (a:=a4) kr kr q5 gE) <| hop 2 (fun _=>Qq (enc:=(AV.int .u64)) (l:=s1.2) (n:=s1.1) (w:=1) (ob:=1) (ro:=false) (nr:=true) (fl:=true) (a:=a4) kr kr gE q5) <| hop 0 (fun _=>Zm (enc:=(AV.int .u64)) (l:=s1.2) (n:=s1.1) (ob:=1) (w:=1) (bx:=false) (nr:=true) (fl:=true) (c:=0) (a:=a4) (a':=zv (zb a4 &&& ~~~ zb p1).toNat) (v:=.int .u64 (zv (zb a4 &&& ~~~ zb p1).toNat)) false kr kr q5 kr kr kr gE kr) <| hkl 0 [5,17] (ls s1.2 (zt s1.1) (zv (zb a4 &&& ~~~ zb p1).toNat)) <| hnx 2 (wz [0,1])
  refine hdx 1 (wz [0,1])
 refine hrt 5
theorem g_act_graph_second_ok (p0:Aa) (p1:Int) (p2:Int) (p3:Int):Ct Tryd.prog 116 [.agg [eL true (AV.int .u64) p0.sets.parents],.int .u64 p1,.int .u64 p2,.int .u64 p3] (Qel p0 p1 p2 p3) (fun x=>.agg [.ref 0 0 x.sets.parents.length]) (fun x=>[oR true 1 (AV.int .u64) x.sets.parents]):=by
 refine hfn [] Tryd.func116 <| hop 0 (fun _=>sgL false [] [] false gE) <| hop 0 (fun _=>sgL false [] [] false gE) <| hcl 2 [] (g_act_graph_withoutInto_ok p0 p2) fun x1 _=>hcl 1 [F (AV.int .u64) x1.sets.parents] (Qfn x1 p1) fun x3 _=>hrt 2
noncomputable abbrev Qgs (p0:Aa):AObj:=oX true false 1 (.agg [eL true (AV.int .u64) p0.sets.parents])
noncomputable abbrev Qer:AObj:=oX true true 8 (.agg [vB false,vB false,vB false,vB false,vB false,vB false,vB false,vB false])
noncomputable abbrev Qi2:List (Nat×AV):=[(2,.ptr 0 0 0),(4,.ptr 1 0 0),(5,.ptr 2 0 0)]
theorem g_act_graph_ancestors_ok (p0:Aa) (p1:Int):Ct Tryd.prog 146 [.agg [eL true (AV.int .u64) p0.sets.parents],.int .u64 p1] (Qcm p0 p1) (fun x=>.agg [vB x.1,vB x.2.1,vB x.2.2.1,vB x.2.2.2.1,vB x.2.2.2.2.1,vB x.2.2.2.2.2.1,vB x.2.2.2.2.2.2.1,vB x.2.2.2.2.2.2.2]) (fun x=>[]):=by
 refine hfn [] Tryd.func146 <| hop 0 (fun _=>sgL false [] [] false gE) <| hop 5 (fun _=>Qr (enc:=(AV.int .u64)) (l:=p0.sets.parents) (fl:=true) kr gE) <| hlp 1 (fun s1=>⟨[(1,.int .u64 p1),(2,.ptr 0 0 0),(4,.ptr 1 0 0),(5,.ptr 2 0 0),(14,vI (zn p0.sets.parents)),(15,vI s1.1)],[(Qgs p0),Qer,oX true true 8 (.agg [vB s1.2.1,vB s1.2.2.1,vB s1.2.2.2.1,vB s1.2.2.2.2.1,vB s1.2.2.2.2.2.1,vB s1.2.2.2.2.2.2.1,vB s1.2.2.2.2.2.2.2.1,vB s1.2.2.2.2.2.2.2.2])],62⟩) (fun v=>(.exit 0,⟨Qi2,[(Qgs p0),Qer,oX true true 8 (.agg [vB v.1,vB v.2.1,vB v.2.2.1,vB v.2.2.2.1,vB v.2.2.2.2.1,vB v.2.2.2.2.2.1,vB v.2.2.2.2.2.2.1,vB v.2.2.2.2.2.2.2])],62⟩)) (wz [0,1,2]) (fun s1=>?_) fun x7=>?_
 ·refine hbr 1 [16] (?_) ?_
  ·refine hoh 6 (fun _ _ h k=>Yh (k:=.u64) (k':=.i64) (a:=p1) (b:=s1.1) kr gE h k) <| hbd fun a4 q5=>hop 2 (fun _=>Q1b (l:=([s1.2.1,s1.2.2.1,s1.2.2.2.1,s1.2.2.2.2.1,s1.2.2.2.2.2.1,s1.2.2.2.2.2.2.1,s1.2.2.2.2.2.2.2.1,s1.2.2.2.2.2.2.2.2]:(List Bool))) (n:=s1.1) (ob:=2) (a:=a4) kr q5 gE) <| hop 0 (fun _=>Q0c (enc:=AV.bool) (l:=([s1.2.1,s1.2.2.1,s1.2.2.2.1,s1.2.2.2.2.1,s1.2.2.2.2.2.1,s1.2.2.2.2.2.2.1,s1.2.2.2.2.2.2.2.1,s1.2.2.2.2.2.2.2.2]:(List Bool))) (n:=s1.1) (w:=8) (ob:=2) (bx:=true) (nr:=true) (fl:=true) (a:=a4) (a':=((zv (zb (Int.fdiv p1 (2^min (zt s1.1) zk)) &&& zb 1).toNat)==1)) false kr kr q5 kr kr kr gE kr) <| hnx 2 (wz [0,1,2])
  refine hdx 1 (wz [0,1,2])
 refine hlp 0 (fun s8=>⟨Qi2,[(Qgs p0),Qer,oX true true 8 (.agg [vB s8.1,vB s8.2.1,vB s8.2.2.1,vB s8.2.2.2.1,vB s8.2.2.2.2.1,vB s8.2.2.2.2.2.1,vB s8.2.2.2.2.2.2.1,vB s8.2.2.2.2.2.2.2])],62⟩) (fun v=>(.exit 2,⟨[(4,.ptr 0 0 0),(5,.ptr 1 0 0)],[Qer,oX true true 8 (.agg [vB v.1,vB v.2.1,vB v.2.2.1,vB v.2.2.2.1,vB v.2.2.2.2.1,vB v.2.2.2.2.2.1,vB v.2.2.2.2.2.2.1,vB v.2.2.2.2.2.2.2])],62⟩)) (wz [0,1,2]) (fun s8=>?_) fun x32=>?_
 ·refine hop 6 (fun _=>Qr (enc:=(AV.int .u64)) (l:=p0.sets.parents) (fl:=true) kr gE) <| hlp 1 (fun s9=>⟨Qi2++[(7,.ptr 3 0 0),(29,eL true (AV.int .u64) p0.sets.parents),(30,vI (zn p0.sets.parents)),(31,vI s9.1)],[(Qgs p0),Qer,oX true true 8 (.agg [vB s9.2.1,vB s8.2.1,vB s8.2.2.1,vB s8.2.2.2.1,vB s8.2.2.2.2.1,vB s8.2.2.2.2.2.1,vB s8.2.2.2.2.2.2.1,vB s8.2.2.2.2.2.2.2]),oX true true 8 (.agg [vB s9.2.2.1,vB s9.2.2.2.1,vB s9.2.2.2.2.1,vB s9.2.2.2.2.2.1,vB s9.2.2.2.2.2.2.1,vB s9.2.2.2.2.2.2.2.1,vB s9.2.2.2.2.2.2.2.2.1,vB s9.2.2.2.2.2.2.2.2.2])],62⟩) (fun v=>(.exit 4,⟨Qi2++[(7,.ptr 3 0 0)],[(Qgs p0),Qer,oX true true 8 (.agg [vB v.1,vB s8.2.1,vB s8.2.2.1,vB s8.2.2.2.1,vB s8.2.2.2.2.1,vB s8.2.2.2.2.2.1,vB s8.2.2.2.2.2.2.1,vB s8.2.2.2.2.2.2.2]),oX true true 8 (.agg [vB v.2.1,vB v.2.2.1,vB v.2.2.2.1,vB v.2.2.2.2.1,vB v.2.2.2.2.2.1,vB v.2.2.2.2.2.2.1,vB v.2.2.2.2.2.2.2.1,vB v.2.2.2.2.2.2.2.2])],62⟩)) (wz [0,1,2,3]) (fun s9=>?_) fun x28=>?_
  ·refine hbr 1 [32] (?_) ?_
   ·refine hbd fun a12 q13=>hop 2 (fun _=>Qj (enc:=(AV.int .u64)) (l:=p0.sets.parents) (n:=s9.1) (fl:=true) (w:=1) (a:=a12) kr kr gE q13) <| hop 6 (fun _=>Qr (enc:=(AV.int .u64)) (l:=p0.sets.parents) (fl:=true) kr gE) <| hlp 1 (fun s14=>⟨Qi2++[(7,.ptr 3 0 0),(8,vI s9.1),(9,.int .u64 a12),(29,eL true (AV.int .u64) p0.sets.parents),(30,vI (zn p0.sets.parents)),(31,vI s9.1),(39,vI (zn p0.sets.parents)),(40,vI s14.1)],[(Qgs p0),Qer,oX true true 8 (.agg [vB s9.2.1,vB s8.2.1,vB s8.2.2.1,vB s8.2.2.2.1,vB s8.2.2.2.2.1,vB s8.2.2.2.2.2.1,vB s8.2.2.2.2.2.2.1,vB s8.2.2.2.2.2.2.2]),oX true true 8 (.agg [vB s14.2.1,vB s14.2.2.1,vB s14.2.2.2.1,vB s14.2.2.2.2.1,vB s14.2.2.2.2.2.1,vB s14.2.2.2.2.2.2.1,vB s14.2.2.2.2.2.2.2.1,vB s14.2.2.2.2.2.2.2.2])],62⟩) (fun v=>(.exit 6,⟨Qi2++[(7,.ptr 3 0 0),(29,eL true (AV.int .u64) p0.sets.parents),(30,vI (zn p0.sets.parents)),(31,vI s9.1)],[(Qgs p0),Qer,oX true true 8 (.agg [vB s9.2.1,vB s8.2.1,vB s8.2.2.1,vB s8.2.2.2.1,vB s8.2.2.2.2.1,vB s8.2.2.2.2.2.1,vB s8.2.2.2.2.2.2.1,vB s8.2.2.2.2.2.2.2]),oX true true 8 (.agg [vB v.1,vB v.2.1,vB v.2.2.1,vB v.2.2.2.1,vB v.2.2.2.2.1,vB v.2.2.2.2.2.1,vB v.2.2.2.2.2.2.1,vB v.2.2.2.2.2.2.2])],62⟩)) (wz [0,1,2,3]) (fun s14=>?_) fun x26=>?_
    ·refine hbr 1 [41] (?_) ?_
     ·refine hbd fun a17 q18=>hop 4 (fun _=>Q1b (l:=([s9.2.1,s8.2.1,s8.2.2.1,s8.2.2.2.1,s8.2.2.2.2.1,s8.2.2.2.2.2.1,s8.2.2.2.2.2.2.1,s8.2.2.2.2.2.2.2]:(List Bool))) (n:=s9.1) (ob:=2) (a:=a17) kr q18 gE) <| hop 0 (fun _=>Q8b (enc:=AV.bool) (l:=([s9.2.1,s8.2.1,s8.2.2.1,s8.2.2.2.1,s8.2.2.2.2.1,s8.2.2.2.2.2.1,s8.2.2.2.2.2.2.1,s8.2.2.2.2.2.2.2]:(List Bool))) (n:=s9.1) (w:=8) (ob:=2) (bx:=true) (ro:=false) (nr:=true) (fl:=true) (a:=a17) kr kr q18 gE) <| hbr 1 [45,46] (?_) ?_
      ·refine hoh 2 (fun _ _ h k=>Yh (k:=.u64) (k':=.i64) (a:=a12) (b:=s14.1) kr gE h k) <| hbr 3 [51,52] (?_) ?_
       ·refine hbd fun a23 q24=>hop 2 (fun _=>Q1b (l:=([s14.2.1,s14.2.2.1,s14.2.2.2.1,s14.2.2.2.2.1,s14.2.2.2.2.2.1,s14.2.2.2.2.2.2.1,s14.2.2.2.2.2.2.2.1,s14.2.2.2.2.2.2.2.2]:(List Bool))) (n:=s14.1) (ob:=3) (a:=a23) kr q24 gE) <| hop 0 (fun _=>Q0c (enc:=AV.bool) (l:=([s14.2.1,s14.2.2.1,s14.2.2.2.1,s14.2.2.2.2.1,s14.2.2.2.2.2.1,s14.2.2.2.2.2.2.1,s14.2.2.2.2.2.2.2.1,s14.2.2.2.2.2.2.2.2]:(List Bool))) (n:=s14.1) (w:=8) (ob:=3) (bx:=true) (nr:=true) (fl:=true) (a:=a23) (a':=true) false kr kr q24 kr kr kr gE kr) <| hnx 2 (wz [0,1,2,3])
       refine hnx 3 (wz [0,1,2,3])
      refine hnx 9 (wz [0,1,2,3])
     refine hdx 1 (wz [0,1,2,3])
    refine hnx 2 (wz [0,1,2,3])
   refine hdx 1 (wz [0,1,2,3])
  refine hbr 3 [59] (hdx 1 (wz [1,2])) <| ?_
  refine hnx 3 (wz [0,1,2])
 refine hrt 3
noncomputable abbrev Qy1 (x1:Aa):List AObj:=[oX true false 1 (.agg [.nils]),oX false false 1 (.agg [.ref 2 0 x1.sets.parents.length]),oR true 1 (AV.int .u64) x1.sets.parents]
theorem g_act_graph_third_ok (p0:Aa) (p1:Int) (p2:Int) (p3:Int):Ct Tryd.prog 117 [.agg [eL true (AV.int .u64) p0.sets.parents],.int .u64 p1,.int .u64 p2,.int .u64 p3] (Qe9 p0 p1 p2 p3) (fun x=>.agg [.ref 0 0 x.sets.parents.length]) (fun x=>[oR true 1 (AV.int .u64) x.sets.parents]):=by
 refine hfn [] Tryd.func117 <| hop 0 (fun _=>sgL false [] [] false gE) <| hop 0 (fun _=>sgL false [] [] false gE) <| hcl 2 [] (g_act_graph_withoutInto_ok p0 p2) fun x1 _=>hop 0 (fun _=>sgL false [] [] false gE) <| hcl 3 [F (AV.int .u64) x1.sets.parents] (g_act_graph_ancestors_ok x1 p3) fun x3 _=>hlp 1 (fun s5=>⟨[(1,.int .u64 s5.1),(8,.ptr 0 0 0),(9,.ptr 1 0 0),(17,.agg [vB s5.2.1,vB x3.2.1,vB x3.2.2.1,vB x3.2.2.2.1,vB x3.2.2.2.2.1,vB x3.2.2.2.2.2.1,vB x3.2.2.2.2.2.2.1,vB x3.2.2.2.2.2.2.2]),(18,vI s5.2.2)],(Qy1 x1),31⟩) (fun v=>(.exit 0,⟨[(1,.int .u64 v),(8,.ptr 0 0 0),(9,.ptr 1 0 0)],(Qy1 x1),31⟩)) (wz [1,3,2]) (fun s5=>?_) fun x13=>?_
 ·refine hbr 1 [19] (?_) ?_
  ·refine hbd fun a8 q9=>hop 2 (fun _=>Q8p (enc:=AV.bool) (l:=([s5.2.1,x3.2.1,x3.2.2.1,x3.2.2.2.1,x3.2.2.2.2.1,x3.2.2.2.2.2.1,x3.2.2.2.2.2.2.1,x3.2.2.2.2.2.2.2]:(List Bool))) (n:=s5.2.2) (a:=a8) (w:=1) (g:=false) (v:=vB a8) kr (fun _=>rfl) kr q9 kr gE) <| hbr 3 [21,11,22] (hoh 3 (fun _ _ h k=>Qdp (k:=.u64) (k':=.i64) (a:=1) (b:=s5.2.2) kr gE h k) <| hnx 4 (wz [0,1,2])) <| ?_
   refine hnx 3 (wz [0,1,2])
  refine hdx 1 (wz [0,1,2])
 refine hcl 2 [F (AV.int .u64) x1.sets.parents] (g_act_graph_withoutInto_ok x1 x13) fun x14 _=>hrt 2
theorem Qbu (p0:Qd):Ct Tryd.prog 73 [.agg [vI p0.Grain,eL false Aj p0.Nodes]] (Qbp p0) (fun x=>.tup [eL true (AV.int .u64) x.1,vI x.2]) (fun x=>[]):=by
 refine hfn [[.lst true],[.keep]] Tryd.func73 <| hop 0 (fun _=>sgL false [] [] false gE) <| hcl 3 [] (g_net_read_ok p0) fun x1 _=>hop 3 (fun _=>sgL false [] [] false gE) <| hrt 8
end
end Go.Ab
