/- Functions. No conditions. -/
import Derived.Test.YtokcpkcoahlkjaaProg
import Derived.Shelf.Lays2
import Derived.Test.YtokcpkcoahlkjaaW11
import Derived.KernelRfl
import Derived.Test.YtokcpkcoahlkjaaW12
set_option linter.all false
namespace Go.Ab
open Go Go.Shelf Go.Proofs
def Qyf:Go.Shelf.Ren:=⟨fun | 21=>117 | 27=>123 | 28=>124 | 35=>127 | 39=>128 | n=>n,fun | 22=>33 | 3=>3 | 4=>4 | 0=>0 | n=>n,fun | n=>n⟩
theorem Q4w:Go.Proofs.Lays2.n21 Try.prog Qyf:={
 mixed:=by kernel_rfl,
 f21:=Try.func117.trans (congrArg some (by kernel_rfl)),
 f27:=Try.func123.trans (congrArg some (by kernel_rfl)),
 f28:=Try.func124.trans (congrArg some (by kernel_rfl)),
 f35:=Try.func127.trans (congrArg some (by kernel_rfl)),
 f39:=Try.func128.trans (congrArg some (by kernel_rfl)),
 t0:=Try.underlying0,
 a0:=Try.isAgg0,
 z0:=Try.sizeOf0,
 v0:=Try.zeroValue0,
 t3:=Try.underlying3,
 a3:=Try.isAgg3,
 z3:=Try.sizeOf3,
 v3:=Try.zeroValue3,
 t4:=Try.underlying4,
 a4:=Try.isAgg4,
 z4:=Try.sizeOf4,
 v4:=Try.zeroValue4,
 t22:=Try.underlying33,
 a22:=Try.isAgg33,
 z22:=Try.sizeOf33,
 v22:=Try.zeroValue33,
 i3:=by kernel_rfl }
end Go.Ab
namespace Go.Ab
open Go Go.Proofs
set_option maxRecDepth 100000
set_option maxHeartbeats 4000000
theorem Q0a:(Try.prog.follows .mixedOrders)=true:=by kernel_rfl
theorem Qq4:Qef Try.prog 45=true:=by kernel_rfl
theorem Q0d:Qef Try.prog 74=true:=by kernel_rfl
section
attribute [local irreducible] RW WP
noncomputable abbrev o1_1 (p0:Qz):AObj:=oX true false 5 (.agg [vI p0.Net.Grain,eL false eTapi_Node p0.Net.Nodes,z1 p0.cards,eL true (AV.int .u64) p0.sets,z1 p0.order])
noncomputable abbrev o1_2 (p1:Tapi_Node):AObj:=oX true false 3 (.agg [vI p1.Card,z1 p1.Parents,z2 p1.Rows])
noncomputable abbrev o1_3:AObj:=oX true true 1 (vB false)
noncomputable abbrev o1_4:AObj:=.loop 66 [(2,.ptr 0 0 0),(3,.ptr 1 0 0),(4,.ptr 2 0 0),(34,.fn (.func 125) [] [.ptr 3 0 0])] [35,36] (cA Try.f111 [true,true,true,true,false,true,true]) (cB Try.f111 [true,true,true,true,false,true,true]) .ready none
noncomputable abbrev o1_5:AObj:=.loop 66 [(2,.ptr 0 0 0),(3,.ptr 1 0 0),(4,.ptr 2 0 0),(34,.fn (.func 125) [] [.ptr 3 0 0])] [35,36] (cA Try.f111 [true,true,true,true,false,true,true]) (cB Try.f111 [true,true,true,true,false,true,true]) .busy none
theorem Qfn (p0:Qz) (p1:Tapi_Node):Ct Try.prog 111 [.agg [vI p0.Net.Grain,eL false eTapi_Node p0.Net.Nodes,z1 p0.cards,eL true (AV.int .u64) p0.sets,z1 p0.order],.agg [vI p1.Card,z1 p1.Parents,z2 p1.Rows]] (Vn p0 p1) (fun x=>vB x) (fun x=>[]):=by
 refine hfn [] Try.func111 <| hop 0 (fun _=>sgL false [] [] false gE) <| hop 0 (fun _=>sgL false [] [] false gE) <| hop 4 (fun _=>Za (enc:=eI) (l:=p1.Parents) (fl:=true) kr gE) <| hlp 1 (fun s1=>⟨[(2,.ptr 0 0 0),(3,.ptr 1 0 0),(4,.ptr 2 0 0),(5,vI s1.1),(14,z1 p1.Parents),(15,vI (zn p1.Parents)),(16,vI s1.2)],[(o1_1 p0),(o1_2 p1),o1_3],66⟩) (fun v=>(.exit 0,⟨[(2,.ptr 0 0 0),(3,.ptr 1 0 0),(4,.ptr 2 0 0),(5,vI v)],[(o1_1 p0),(o1_2 p1),o1_3],66⟩)) (wz [0,1,2]) (fun s1=>?_) fun x9=>?_
 ·refine hbr 1 [17] (?_) ?_
  ·refine hbd fun a4 q5=>hop 1 (fun _=>Ql (enc:=eI) (l:=p1.Parents) (n:=s1.2) (fl:=true) (w:=1) (a:=a4) kr kr gE q5) <| hbd fun a6 q7=>hop 6 (fun _=>Ql (enc:=eI) (l:=p0.cards) (n:=a4) (fl:=true) (w:=1) (a:=a6) kr kr gE q7) <| hnx 5 (wz [0,1,2])
  refine hdx 1 (wz [0,1,2])
 refine hop 2 (fun _=>Za (enc:=z1) (l:=p1.Rows) (fl:=false) kr gE) <| hbr 2 [32] (hrt 3) <| ?_
 refine hil 2 Try.func119 <| hop 0 (fun _=>sgL false [] [] false gE) <| hwk 3 (wl [2] [3]) <| hwk 1 (wl [2,3,4,34] [0,1,2,3]) <| hrg 0 Try.func125 <| hop 2 (fun _=>Za (enc:=z1) (l:=p1.Rows) (fl:=false) kr gE) <| hlp 1 (fun s12=>⟨[(0,.yld 4),(6,z2 p1.Rows),(7,vI (zn p1.Rows)),(8,vI s12)],[(o1_1 p0),(o1_2 p1),o1_3,(o1_2 p1),o1_4],19⟩) (fun x=>match x with | .inl v=>(.ret,⟨[],[(o1_1 p0),(o1_2 p1),o1_3,(o1_2 p1),.loop 66 [(2,.ptr 0 0 0),(3,.ptr 1 0 0),(4,.ptr 2 0 0),(34,.fn (.func 125) [] [.ptr 3 0 0])] [35,36] (cA Try.f111 [true,true,true,true,false,true,true]) (cB Try.f111 [true,true,true,true,false,true,true]) .done (some .ret)],19⟩) | .inr v=>(.exit 0,⟨[],[(o1_1 p0),(o1_2 p1),o1_3,(o1_2 p1),o1_4],19⟩)) (wz []) (fun s12=>?_) (hsm (fun x34=>?_) (fun x35=>?_))
 ·refine hbr 1 [9] (?_) ?_
  ·refine hbd fun a15 q16=>hop 2 (fun _=>Ql (enc:=z1) (l:=p1.Rows) (n:=s12) (fl:=false) (w:=1) (a:=a15) kr kr gE q16) <| hyl 6 <| hop 6 (fun _=>Za (enc:=eI) (l:=a15) (fl:=true) kr gE) <| hlp 1 (fun s17=>⟨[(3,.ptr 1 0 0),(4,.ptr 2 0 0),(9,z1 a15),(10,vI s17.1),(40,z1 a15),(41,vI (zn a15)),(42,vI s17.2)],[(o1_1 p0),(o1_2 p1),o1_3,(o1_2 p1),o1_5],66⟩) (fun x=>match x with | .inl v=>(.ret,⟨[(4,.ptr 2 0 0)],[(o1_1 p0),(o1_2 p1),o1_3,(o1_2 p1),o1_5],66⟩) | .inr v=>(.exit 4,⟨[(3,.ptr 1 0 0),(4,.ptr 2 0 0),(9,z1 a15),(10,vI v)],[(o1_1 p0),(o1_2 p1),o1_3,(o1_2 p1),o1_5],66⟩)) (wz []) (fun s17=>?_) (hsm (fun x27=>?_) (fun x28=>?_))
   ·refine hbr 1 [43] (?_) ?_
    ·refine hbd fun a20 q21=>hop 1 (fun _=>Ql (enc:=eI) (l:=a15) (n:=s17.2) (fl:=true) (w:=1) (a:=a20) kr kr gE q21) <| hbr 5 [47,48] (hdx 6 (wz [])) <| ?_
     refine hbr 4 [51,52] (hdx 2 (wz [])) <| ?_
     refine hnx 7 (wz [])
    refine hdx 1 (wz [])
   ·refine hdx 2 (wz [])
   refine hop 1 (fun _=>Za (enc:=eI) (l:=a15) (fl:=true) kr gE) <| hbr 4 [61,62] (hwk 5 (wl [4] []) <| hdx 3 (wz [])) <| ?_
   refine hbr 3 [64,65] (hwk 2 (wl [4] []) <| hdx 3 (wz [])) <| ?_
   refine hnx 5 (wz [])
  refine hdx 1 (wz [])
 ·refine hrt 0
 refine hrt 2
theorem Qnr (p0:(List Int)):Ct Try.prog 112 [eL true (AV.int .u64) p0] (Qca p0) (fun x=>.tup [.ref 0 0 x.1.length,vB x.2]) (fun x=>[oR true 1 eI x.1]):=by
 refine hfn [] Try.func112 <| hop 3 (fun _=>Za (enc:=(AV.int .u64)) (l:=p0) (fl:=true) kr gE) <| hoh 0 (fun _ _ h k=>mkL (enc:=eI) (z:=(0:Int)) (z0:=vI 0) (n:=0) (m:=(zn p0)) (w:=1) (bytes:=8) [] true kr kr gE kr h k) <| hlp 2 (fun s1=>⟨[(0,eL true (AV.int .u64) p0),(4,.ref 0 0 s1.2.length),(5,.int .u64 s1.1)],[oR true 1 eI s1.2],44⟩) (fun x=>match x with | .inl v=>(.ret,⟨[(2,.ref 0 0 0),(3,vB false)],[.row false false true true 1 []],44⟩) | .inr v=>(.exit 0,⟨[(4,.ref 0 0 v.length)],[oR true 1 eI v],44⟩)) (wz [0]) (fun s1=>?_) (hsm (fun x17=>?_) (fun x18=>?_))
 ·refine hop 3 (fun _=>Za (enc:=(AV.int .u64)) (l:=p0) (fl:=true) kr gE) <| hbr 1 [15] (?_) ?_
  ·refine hop 2 (fun _=>Za (enc:=(AV.int .u64)) (l:=p0) (fl:=true) kr gE) <| hlp 1 (fun s4=>⟨[(0,eL true (AV.int .u64) p0),(4,.ref 0 0 s1.2.length),(5,.int .u64 s1.1),(16,eL true (AV.int .u64) p0),(17,vI (zn p0)),(18,vI s4)],[oR true 1 eI s1.2],44⟩) (fun x=>match x with | .inl v=>(.exit 1,⟨[(0,eL true (AV.int .u64) p0),(4,.ref 0 0 v.2.length),(5,.int .u64 v.1)],[oR true 1 eI v.2],44⟩) | .inr v=>(.exit 2,⟨[],[],44⟩)) (wz [0]) (fun s4=>?_) (hsm (fun x14=>?_) (fun x15=>?_))
   ·refine hbr 1 [19] (?_) ?_
    ·refine hbd fun a7 q8=>hop 2 (fun _=>Ql (enc:=(AV.int .u64)) (l:=p0) (n:=s4) (fl:=true) (w:=1) (a:=a7) kr kr gE q8) <| hoh 5 (fun _ _ h k=>Qvz (k:=.u64) (k':=.i64) (a:=s1.1) (b:=s4) kr gE h k) <| hbr 3 [27,28] (?_) ?_
     ·refine hbr 5 [32,33] (?_) ?_
      ·refine hop 3 (fun _=>sgL false [] [] true gE) <| hoh 0 (fun _ _ h k=>Y9 (enc:=eI) (l:=s1.2) (m:=([s4]:(List Int))) (w:=1) (bytes:=8) (ob:=0) (nr:=true) (fl:=true) (nr':=true) (fl':=true) (b:=.ref 1 0 1) (rds:=[1]) false kr kr kr kr gE kr h k) <| hoh 3 (fun _ _ h k=>Quy (k:=.u64) (k':=.i64) (a:=1) (b:=s4) kr gE h k) <| hdx 2 (wz [2])
      refine hnx 3 (wz [0])
     refine hnx 8 (wz [0])
    refine hdx 1 (wz [])
   ·refine hnx 0 (wz [0])
   refine hwk 2 (wl [2,3] []) <| hwk 0 (Jh 2 1 true true gE) <| hdn 1
  refine hdx 1 (wz [0])
 ·refine hrt 0
 refine hrt 4
noncomputable abbrev Qod (a34:Int):Int:=(zv (1*2^min (zt a34) (IntKind.bits .u64)))
noncomputable abbrev o3_7:AObj:=oX true false 5 (.agg [vI 0,.nils,.nils,.nils,.nils])
noncomputable abbrev o3_8 (p0:Qc):AObj:=oR true 1 (AV.int .u64) (List.replicate (zt (zn p0.Nodes)) (0:Int))
noncomputable abbrev o3_9 (a29:Tapi_Node):AObj:=oX true false 3 (.agg [vI a29.Card,z1 a29.Parents,z2 a29.Rows])
noncomputable abbrev s3_10:List (Nat×AV):=[(2,.ptr 0 0 0),(4,.ptr 1 0 0)]
noncomputable abbrev u3_11:St:=⟨[(2,.ptr 0 0 0),(3,vI 50)],[o3_7],140⟩
theorem g_net_read_ok (p0:Qc):Ct Try.prog 96 [.agg [vI p0.Grain,eL false eTapi_Node p0.Nodes]] (Qak p0) (fun x=>.tup [.agg [vI x.1.Net.Grain,eL false eTapi_Node x.1.Net.Nodes,z1 x.1.cards,eL true (AV.int .u64) x.1.sets,z1 x.1.order],vI x.2]) (fun x=>[]):=by
 refine hfn [[.keep,.lst false,.lst true,.lst true,.lst true],[.keep]] Try.func96 <| hop 0 (fun _=>sgL false [] [] false gE) <| hop 0 (fun _=>sgL false [] [] false gE) <| hbr 5 [17,18] (hrt 21) <| ?_
 refine hbr 5 [21,22,23] (hrt 16) <| ?_
 refine hop 2 (fun _=>Za (enc:=eTapi_Node) (l:=p0.Nodes) (fl:=false) kr gE) <| hbr 3 [27,28,29] (hrt 10) <| ?_
 refine hop 2 (fun _=>Za (enc:=eTapi_Node) (l:=p0.Nodes) (fl:=false) kr gE) <| hbr 2 [33,34] (hrt 5) <| ?_
 refine hop 5 (fun _=>Za (enc:=eTapi_Node) (l:=p0.Nodes) (fl:=false) kr gE) <| hoh 0 (fun _ _ h k=>mkL (enc:=eI) (z:=(0:Int)) (z0:=vI 0) (n:=(zn p0.Nodes)) (m:=(zn p0.Nodes)) (w:=1) (bytes:=8) [] true kr kr gE kr h k) <| hop 2 (fun _=>Za (enc:=eTapi_Node) (l:=p0.Nodes) (fl:=false) kr gE) <| hoh 0 (fun _ _ h k=>mkL (enc:=(AV.int .u64)) (z:=(0:Int)) (z0:=.int .u64 0) (n:=(zn p0.Nodes)) (m:=(zn p0.Nodes)) (w:=1) (bytes:=8) [] true kr kr gE kr h k) <| hop 1 (fun _=>sgL false [] [] false gE) <| hop 5 (fun _=>Za (enc:=eTapi_Node) (l:=p0.Nodes) (fl:=false) kr gE) <| hlp 1 (fun s9=>⟨s3_10++[(5,vI s9.1),(48,eL false eTapi_Node p0.Nodes),(49,vI (zn p0.Nodes)),(50,vI s9.2.1)],[o3_7,oX false false 5 (.agg [vI p0.Grain,eL false eTapi_Node p0.Nodes,.ref 2 0 s9.2.2.length,.ref 3 0 ((List.replicate (zt (zn p0.Nodes)) (0:Int)).length),.nils]),oR true 1 eI s9.2.2,(o3_8 p0)],140⟩) (fun x=>match x with | .inl v=>(.ret,u3_11) | .inr v=>(.exit 0,⟨s3_10++[(5,vI v.1)],[o3_7,oX false false 5 (.agg [vI p0.Grain,eL false eTapi_Node p0.Nodes,.ref 2 0 v.2.length,.ref 3 0 ((List.replicate (zt (zn p0.Nodes)) (0:Int)).length),.nils]),oR true 1 eI v.2,(o3_8 p0)],140⟩)) (wz [1,4,2,3]) (fun s9=>?_) (hsm (fun x22=>?_) (fun x23=>?_))
 ·refine hbr 1 [51] (?_) ?_
  ·refine hbd fun a12 q13=>hop 2 (fun _=>Ql (enc:=eTapi_Node) (l:=p0.Nodes) (n:=s9.2.1) (fl:=false) (w:=3) (a:=a12) kr kr gE q13) <| hop 1 (fun _=>sgL false [] [] false gE) <| hbr 6 [57,58] (hdx 8 (wz [0])) <| ?_
   refine hbr 4 [61,62] (hdx 4 (wz [0])) <| ?_
   refine hbd fun a18 q19=>hop 6 (fun _=>Qv (enc:=eI) (l:=s9.2.2) (n:=s9.2.1) (w:=1) (ob:=2) (ro:=false) (nr:=true) (fl:=true) (a:=a18) kr kr gE q19) <| hop 0 (fun _=>Xm (enc:=eI) (l:=s9.2.2) (n:=s9.2.1) (ob:=2) (w:=1) (bx:=false) (nr:=true) (fl:=true) (c:=0) (a:=a18) (a':=a12.Card) (v:=vI a12.Card) false kr kr q19 kr kr kr gE kr) <| hkn 0 (fun n20=>⟨s3_10++[(5,vI s9.1),(48,eL false eTapi_Node p0.Nodes),(49,vI (zn p0.Nodes)),(50,vI s9.2.1),(51,vB true),(52,vI s9.2.1),(53,.fz [vI a12.Card,z1 a12.Parents,z2 a12.Rows]),(54,.agg [vI a12.Card,z1 a12.Parents,z2 a12.Rows]),(7,.ptr 4 0 0),(6,vI s9.2.1),(55,.ptr 4 0 0),(56,vI a12.Card),(57,vB false),(58,vB false),(59,.ptr 4 0 0),(60,vI a12.Card),(61,vB false),(62,vB false),(64,.ptr 1 0 2),(65,.ref 2 0 n20),(66,vI s9.2.1),(67,.ptr 4 0 0),(68,vI a12.Card),(69,.ptr 2 (zt s9.2.1) 0)],[o3_7,oX false false 5 (.agg [vI p0.Grain,eL false eTapi_Node p0.Nodes,.ref 2 0 n20,.ref 3 0 ((List.replicate (zt (zn p0.Nodes)) (0:Int)).length),.nils]),oR true 1 eI (List.set s9.2.2 (zt s9.2.1) a12.Card),(o3_8 p0),oX true false 3 (.agg [vI a12.Card,z1 a12.Parents,z2 a12.Rows])],140⟩) (ls s9.2.2 (zt s9.2.1) a12.Card) <| hnx 7 (wz [0,1,2,3])
  refine hdx 1 (wz [0,1,2,3])
 ·refine hrt 0
 refine hbr 2 [76] (hrt 5) <| ?_
 refine hop 4 (fun _=>Za (enc:=eTapi_Node) (l:=p0.Nodes) (fl:=false) kr gE) <| hlp 1 (fun s26=>⟨s3_10++[(80,eL false eTapi_Node p0.Nodes),(81,vI (zn p0.Nodes)),(82,vI s26.1)],[o3_7,oX false false 5 (.agg [vI p0.Grain,eL false eTapi_Node p0.Nodes,.ref 2 0 x23.2.length,.ref 3 0 s26.2.length,.nils]),oR true 1 eI x23.2,oR true 1 (AV.int .u64) s26.2],140⟩) (fun x=>match x with | .inl v=>(.ret,u3_11) | .inr v=>(.exit 2,⟨s3_10,[o3_7,oX false false 5 (.agg [vI p0.Grain,eL false eTapi_Node p0.Nodes,.ref 2 0 x23.2.length,.ref 3 0 v.length,.nils]),oR true 1 eI x23.2,oR true 1 (AV.int .u64) v],140⟩)) (wz [0,1,2,3]) (fun s26=>?_) (hsm (fun x53=>?_) (fun x54=>?_))
 ·refine hbr 1 [83] (?_) ?_
  ·refine hbd fun a29 q30=>hop 2 (fun _=>Ql (enc:=eTapi_Node) (l:=p0.Nodes) (n:=s26.1) (fl:=false) (w:=3) (a:=a29) kr kr gE q30) <| hop 1 (fun _=>sgL false [] [] false gE) <| hop 5 (fun _=>Za (enc:=eI) (l:=a29.Parents) (fl:=true) kr gE) <| hlp 1 (fun s31=>⟨s3_10++[(8,vI s26.1),(9,.ptr 2 0 0),(10,vI s31.1),(80,eL false eTapi_Node p0.Nodes),(81,vI (zn p0.Nodes)),(82,vI s26.1),(88,z1 a29.Parents),(89,vI (zn a29.Parents)),(90,vI s31.2.1)],[o3_7,oX false false 5 (.agg [vI p0.Grain,eL false eTapi_Node p0.Nodes,.ref 3 0 x23.2.length,.ref 4 0 s31.2.2.length,.nils]),(o3_9 a29),oR true 1 eI x23.2,oR true 1 (AV.int .u64) s31.2.2],140⟩) (fun x=>match x with | .inl v=>(.ret,u3_11) | .inr v=>(.exit 4,⟨s3_10++[(9,.ptr 2 0 0),(80,eL false eTapi_Node p0.Nodes),(81,vI (zn p0.Nodes)),(82,vI s26.1)],[o3_7,oX false false 5 (.agg [vI p0.Grain,eL false eTapi_Node p0.Nodes,.ref 3 0 x23.2.length,.ref 4 0 v.length,.nils]),(o3_9 a29),oR true 1 eI x23.2,oR true 1 (AV.int .u64) v],140⟩)) (wz [0,1,4,2,3]) (fun s31=>?_) (hsm (fun x46=>?_) (fun x47=>?_))
   ·refine hbr 1 [91] (?_) ?_
    ·refine hbd fun a34 q35=>hop 1 (fun _=>Ql (enc:=eI) (l:=a29.Parents) (n:=s31.2.1) (fl:=true) (w:=1) (a:=a34) kr kr gE q35) <| hbr 6 [96,97] (hdx 16 (wz [0])) <| ?_
     refine hop 4 (fun _=>Za (enc:=eTapi_Node) (l:=p0.Nodes) (fl:=false) kr gE) <| hbr 3 [103,104,105] (hdx 8 (wz [0])) <| ?_
     refine hbr 4 [108,109] (hdx 4 (wz [0])) <| ?_
     refine hbd fun a42 q43=>hop 7 (fun _=>Qv (enc:=(AV.int .u64)) (l:=s31.2.2) (n:=s26.1) (w:=1) (ob:=4) (ro:=false) (nr:=true) (fl:=true) (a:=a42) kr kr gE q43) <| hop 0 (fun _=>Zi (enc:=(AV.int .u64)) (l:=s31.2.2) (n:=s26.1) (w:=1) (ob:=4) (c:=0) (bx:=false) (ro:=false) (nr:=true) (fl:=true) (a:=a42) kr kr q43 gE) <| hoh 1 (fun _ _ h k=>Quy (k:=.u64) (k':=.i64) (a:=1) (b:=a34) kr gE h k) <| hop 1 (fun _=>Qv (enc:=(AV.int .u64)) (l:=s31.2.2) (n:=s26.1) (w:=1) (ob:=4) (ro:=false) (nr:=true) (fl:=true) (a:=a42) kr kr gE q43) <| hop 0 (fun _=>Xm (enc:=(AV.int .u64)) (l:=s31.2.2) (n:=s26.1) (ob:=4) (w:=1) (bx:=false) (nr:=true) (fl:=true) (c:=0) (a:=a42) (a':=zv (zb a42 ||| zb (Qod a34)).toNat) (v:=.int .u64 (zv (zb a42 ||| zb (Qod a34)).toNat)) false kr kr q43 kr kr kr gE kr) <| hkn 0 (fun n44=>⟨s3_10++[(8,vI s26.1),(9,.ptr 2 0 0),(10,vI a34),(80,eL false eTapi_Node p0.Nodes),(81,vI (zn p0.Nodes)),(82,vI s26.1),(88,z1 a29.Parents),(89,vI (zn a29.Parents)),(90,vI s31.2.1),(91,vB true),(92,.fz [vI a34]),(93,vI a34),(12,vI a34),(94,vI a34),(95,vI s31.1),(96,vB false),(97,vB false),(98,vI a34),(99,.ptr 1 0 0),(100,.ptr 1 0 1),(101,eL false eTapi_Node p0.Nodes),(102,vI (zn p0.Nodes)),(103,vB false),(104,vB false),(105,vB false),(106,vI a34),(107,vI s26.1),(108,vB false),(109,vB false),(111,vI a34),(112,.ptr 1 0 3),(113,.ref 4 0 n44),(114,vI s26.1),(115,.ptr 4 (zt s26.1) 0),(116,.int .u64 a42),(117,vI a34),(118,.int .u64 (Qod a34)),(119,.int .u64 (zv (zb a42 ||| zb (Qod a34)).toNat)),(120,.ptr 4 (zt s26.1) 0)],[o3_7,oX false false 5 (.agg [vI p0.Grain,eL false eTapi_Node p0.Nodes,.ref 3 0 x23.2.length,.ref 4 0 n44,.nils]),(o3_9 a29),oR true 1 eI x23.2,oR true 1 (AV.int .u64) (List.set s31.2.2 (zt s26.1) (zv (zb a42 ||| zb (Qod a34)).toNat))],140⟩) (ls s31.2.2 (zt s26.1) (zv (zb a42 ||| zb (Qod a34)).toNat)) <| hnx 2 (wz [0,1,2,3,4])
    refine hdx 1 (wz [0,1,2,3,4])
   ·refine hdn 0
   refine hcl 2 [F eI x23.2,F (AV.int .u64) x47] (us:=[.agg [vI p0.Grain,eL false eTapi_Node p0.Nodes,z1 x23.2,eL true (AV.int .u64) x47,.nils],.agg [vI a29.Card,z1 a29.Parents,z2 a29.Rows]]) (rv:=fun x48=>vB x48) (ro:=fun x48=>[]) (fun x48 q49=>Q0.args [[.keep,.keep,.keep,.keep,.lst true],[.keep,.keep,.keep]] (Qfn (Qz.mk p0 x23.2 x47 []) a29 x48 q49)) fun x48 _=>hbr 1 [125] (hdx 4 (wz [0])) <| ?_
   refine hnx 3 (wz [0,1,3,4])
  refine hdx 1 (wz [0,1,2,3])
 ·refine hrt 0
 refine hcl 2 [F (AV.int .u64) x54] (Qnr x54) fun x55 _=>hbr 7 [135] (hrt 5) <| ?_
 refine hwk 7 (wl [2,3] [0,2,3,4]) <| hwk 0 (won 0 0 [F eI x23.2,F (AV.int .u64) x54,F eI x55.1]) <| hrt 1
theorem g_net_Check_ok (p0:Qc):Ct Try.prog 70 [.agg [vI p0.Grain,eL false eTapi_Node p0.Nodes]] (Qgi p0) (fun x=>vI x) (fun x=>[]):=by
 refine hfn [] Try.func70 <| hop 0 (fun _=>sgL false [] [] false gE) <| hcl 2 [] (g_net_read_ok p0) fun x1 _=>hop 3 (fun _=>sgL false [] [] false gE) <| hrt 5
theorem g_net_CheckEvidence_ok (p0:Qc) (p1:(List Int)):Ct Try.prog 71 [.agg [vI p0.Grain,eL false eTapi_Node p0.Nodes],z1 p1] (Zj p0 p1) (fun x=>vI x) (fun x=>[]):=by
 refine hfn [] Try.func71 <| hop 0 (fun _=>sgL false [] [] false gE) <| hcl 2 [] (g_net_read_ok p0) fun x1 _=>hop 3 (fun _=>sgL false [] [] false gE) <| hbr 4 [15] (hrt 4) <| ?_
 refine hop 2 (fun _=>Za (enc:=eI) (l:=p1) (fl:=true) kr gE) <| hop 3 (fun _=>Za (enc:=eTapi_Node) (l:=x1.1.Net.Nodes) (fl:=false) kr gE) <| hbr 1 [23] (hrt 3) <| ?_
 refine hop 2 (fun _=>Za (enc:=eI) (l:=p1) (fl:=true) kr gE) <| hlp 1 (fun s7=>⟨[(5,.ptr 0 0 0),(24,z1 p1),(25,vI (zn p1)),(26,vI s7)],[oX true false 5 (.agg [vI x1.1.Net.Grain,eL false eTapi_Node x1.1.Net.Nodes,z1 x1.1.cards,eL true (AV.int .u64) x1.1.sets,z1 x1.1.order])],43⟩) (fun x=>match x with | .inl v=>(.ret,⟨[(4,vI 2)],[],43⟩) | .inr v=>(.exit 0,⟨[],[],43⟩)) (wz [1]) (fun s7=>?_) (hsm (fun x19=>?_) (fun x20=>?_))
 ·refine hbr 1 [27] (?_) ?_
  ·refine hbd fun a10 q11=>hop 2 (fun _=>Ql (enc:=eI) (l:=p1) (n:=s7) (fl:=true) (w:=1) (a:=a10) kr kr gE q11) <| hbr 6 [32,33] (hdx 10 (wz [])) <| ?_
   refine hbd fun a14 q15=>hop 4 (fun _=>Ql (enc:=eI) (l:=x1.1.cards) (n:=s7) (fl:=true) (w:=1) (a:=a14) kr kr gE q15) <| hbr 3 [40,41] (hdx 2 (wz [])) <| ?_
   refine hnx 3 (wz [0])
  refine hdx 1 (wz [])
 ·refine hrt 0
 refine hrt 2
theorem g_sensitive_check_ok (p0:Qc) (p1:(List Int)) (p2:Int) (p3:Tapi_Shift) (p4:(List Int)):Ct Try.prog 35 [.agg [vI p0.Grain,eL false eTapi_Node p0.Nodes],z1 p1,vI p2,.agg [vI p3.Node,vI p3.Row,vI p3.From,vI p3.To],z1 p4] (Yk p0 p1 p2 p3 p4) (fun x=>vI x) (fun x=>[]):=by
 refine hfn [] Try.func35 <| hop 0 (fun _=>sgL false [] [] false gE) <| hcl 3 [] (g_net_Check_ok p0) fun x1 _=>hbr 3 [19] (hrt 4) <| ?_
 refine hcl 3 [] (g_net_CheckEvidence_ok p0 p1) fun x5 _=>hbr 3 [25] (hrt 4) <| ?_
 refine hbr 4 [28,29] (hrt 9) <| ?_
 refine hop 3 (fun _=>Za (enc:=eTapi_Node) (l:=p0.Nodes) (fl:=false) kr gE) <| hbr 2 [34,35] (hrt 3) <| ?_
 refine hop 2 (fun _=>Za (enc:=eI) (l:=p4) (fl:=true) kr gE) <| hlp 1 (fun s13=>⟨[(2,vI p2),(5,.ptr 0 0 0),(8,.ptr 1 0 0),(36,z1 p4),(37,vI (zn p4)),(38,vI s13)],[oX true false 2 (.agg [vI p0.Grain,eL false eTapi_Node p0.Nodes]),oX true true 4 (.agg [vI p3.Node,vI p3.Row,vI p3.From,vI p3.To])],112⟩) (fun x=>match x with | .inl v=>(.ret,⟨[(10,vI 2)],[],112⟩) | .inr v=>(.exit 0,⟨[(5,.ptr 0 0 0),(8,.ptr 1 0 0)],[oX true false 2 (.agg [vI p0.Grain,eL false eTapi_Node p0.Nodes]),oX true true 4 (.agg [vI p3.Node,vI p3.Row,vI p3.From,vI p3.To])],112⟩)) (wz [0,1]) (fun s13=>?_) (hsm (fun x25=>?_) (fun x26=>?_))
 ·refine hbr 1 [39] (?_) ?_
  ·refine hbd fun a16 q17=>hop 1 (fun _=>Ql (enc:=eI) (l:=p4) (n:=s13) (fl:=true) (w:=1) (a:=a16) kr kr gE q17) <| hbr 5 [43,44] (hdx 11 (wz [])) <| ?_
   refine hbd fun a20 q21=>hop 4 (fun _=>Ql (enc:=eTapi_Node) (l:=p0.Nodes) (n:=p2) (fl:=false) (w:=3) (a:=a20) kr kr gE q21) <| hbr 4 [52,53] (hdx 2 (wz [])) <| ?_
   refine hnx 3 (wz [0,1])
  refine hdx 1 (wz [0,1])
 ·refine hrt 0
 refine hbr 4 [57,58] (hrt 10) <| ?_
 refine hop 4 (fun _=>Za (enc:=eTapi_Node) (l:=p0.Nodes) (fl:=false) kr gE) <| hbr 2 [64,65] (hrt 3) <| ?_
 refine hbd fun a31 q32=>hop 5 (fun _=>Ql (enc:=eTapi_Node) (l:=p0.Nodes) (n:=p3.Node) (fl:=false) (w:=3) (a:=a31) kr kr gE q32) <| hop 1 (fun _=>sgL false [] [] false gE) <| hbr 5 [74,75] (hrt 10) <| ?_
 refine hop 4 (fun _=>Za (enc:=z1) (l:=a31.Rows) (fl:=false) kr gE) <| hbr 2 [81,82] (hrt 3) <| ?_
 refine hbr 5 [85,86] (hrt 28) <| ?_
 refine hbr 7 [91,92,93] (hrt 21) <| ?_
 refine hbr 5 [96,97,98] (hrt 16) <| ?_
 refine hbr 7 [103,104,105] (hrt 9) <| ?_
 refine hbr 6 [110,111] (hrt 3) <| ?_
 refine hrt 3
noncomputable abbrev Quv (p0:Qc):AObj:=oX true false 2 (.agg [vI p0.Grain,eL false eTapi_Node p0.Nodes])
noncomputable abbrev Qu0 (p2:Tapi_Shift):AObj:=oX true true 4 (.agg [vI p2.Node,vI p2.Row,vI p2.From,vI p2.To])
theorem Qhu (p0:Qc) (p1:(List Int)) (p2:Tapi_Shift):Ct Try.prog 74 [.agg [vI p0.Grain,eL false eTapi_Node p0.Nodes],z1 p1,.agg [vI p2.Node,vI p2.Row,vI p2.From,vI p2.To]] (J0 p0 p1 p2) (fun x=>.tup [vI x.1,vI x.2]) (fun x=>[]):=by
 refine hfn [] Try.func74 <| hop 0 (fun _=>sgL false [] [] false gE) <| hop 15 (fun _=>Za (enc:=eTapi_Node) (l:=p0.Nodes) (fl:=false) kr gE) <| hlp 1 (fun s1=>⟨[(1,z1 p1),(3,.ptr 0 0 0),(5,.ptr 1 0 0),(8,.ptr 2 0 0),(9,vI s1.1),(10,vI s1.2.1),(11,vI s1.2.2.1),(24,eL false eTapi_Node p0.Nodes),(25,vI (zn p0.Nodes)),(26,vI s1.2.2.2)],[(Quv p0),(Qu0 p2),oX true true 2 (.agg [vI p2.Node,vI p2.Row])],91⟩) (fun v=>(.exit 0,⟨[(9,vI v.1),(10,vI v.2.1),(11,vI v.2.2)],[],91⟩)) (wz [0,1,2]) (fun s1=>?_) fun x30=>?_
 ·refine hbr 1 [27] (?_) ?_
  ·refine hbd fun a4 q5=>hop 2 (fun _=>Ql (enc:=eTapi_Node) (l:=p0.Nodes) (n:=s1.2.2.2) (fl:=false) (w:=3) (a:=a4) kr kr gE q5) <| hop 1 (fun _=>sgL false [] [] false gE) <| hop 5 (fun _=>Za (enc:=eI) (l:=a4.Parents) (fl:=true) kr gE) <| hlp 1 (fun s6=>⟨[(1,z1 p1),(3,.ptr 0 0 0),(5,.ptr 1 0 0),(8,.ptr 2 0 0),(9,vI s1.1),(10,vI s1.2.1),(11,vI s1.2.2.1),(12,vI s1.2.2.2),(13,.ptr 3 0 0),(14,vI s6.1),(24,eL false eTapi_Node p0.Nodes),(25,vI (zn p0.Nodes)),(26,vI s1.2.2.2),(32,z1 a4.Parents),(33,vI (zn a4.Parents)),(34,vI s6.2)],[(Quv p0),(Qu0 p2),oX true true 2 (.agg [vI p2.Node,vI p2.Row]),oX true false 3 (.agg [vI a4.Card,z1 a4.Parents,z2 a4.Rows])],91⟩) (fun v=>(.exit 2,⟨[(1,z1 p1),(3,.ptr 0 0 0),(5,.ptr 1 0 0),(8,.ptr 2 0 0),(9,vI s1.1),(10,vI s1.2.1),(11,vI s1.2.2.1),(12,vI s1.2.2.2),(13,.ptr 3 0 0),(14,vI v),(24,eL false eTapi_Node p0.Nodes),(25,vI (zn p0.Nodes)),(26,vI s1.2.2.2)],[(Quv p0),(Qu0 p2),oX true true 2 (.agg [vI p2.Node,vI p2.Row]),oX true false 3 (.agg [vI a4.Card,z1 a4.Parents,z2 a4.Rows])],91⟩)) (wz [0,1,2,3]) (fun s6=>?_) fun x16=>?_
   ·refine hbr 1 [35] (?_) ?_
    ·refine hbd fun a9 q10=>hop 1 (fun _=>Ql (enc:=eI) (l:=a4.Parents) (n:=s6.2) (fl:=true) (w:=1) (a:=a9) kr kr gE q10) <| hbd fun a11 q12=>hop 7 (fun _=>Ql (enc:=eTapi_Node) (l:=p0.Nodes) (n:=a9) (fl:=false) (w:=3) (a:=a11) kr kr gE q12) <| hbd fun a13 q14=>hop 5 (fun _=>Ql (enc:=eI) (l:=p1) (n:=a9) (fl:=true) (w:=1) (a:=a13) kr kr gE q14) <| hnx 5 (wz [0,1,2,3])
    refine hdx 1 (wz [0,1,2,3])
   refine hbd fun a17 q18=>hop 4 (fun _=>Ql (enc:=z1) (l:=a4.Rows) (n:=x16) (fl:=false) (w:=1) (a:=a17) kr kr gE q18) <| hbd fun a19 q20=>hop 3 (fun _=>Ql (enc:=eI) (l:=p1) (n:=s1.2.2.2) (fl:=true) (w:=1) (a:=a19) kr kr gE q20) <| hbd fun a21 q22=>hop 1 (fun _=>Ql (enc:=eI) (l:=a17) (n:=a19) (fl:=true) (w:=1) (a:=a21) kr kr gE q22) <| hbr 7 [67] (hwk 5 (wl [1,3,5,8,9,10,11,24,25,26] [0,1,2]) <| hnx 3 (wz [0,1,2])) <| ?_
   refine hop 5 (fun _=>Ql (enc:=eI) (l:=p1) (n:=s1.2.2.2) (fl:=true) (w:=1) (a:=a19) kr kr gE q20) <| hbr 5 [79,76] (hnx 4 (wz [0,1,2])) <| ?_
   refine hbr 5 [83,80] (hnx 4 (wz [0,1,2])) <| ?_
   refine hnx 3 (wz [0,1,2])
  refine hdx 1 (wz [])
 refine hrt 9
end
noncomputable abbrev Qqa (p0:Qc):AObj:=oX true false 2 (.agg [vI p0.Grain,eL false eTapi_Node p0.Nodes])
noncomputable abbrev Qul (p2:Int):AObj:=oX true true 1 (vI p2)
noncomputable abbrev Qus (p3:Tapi_Shift):AObj:=oX true true 4 (.agg [vI p3.Node,vI p3.Row,vI p3.From,vI p3.To])
noncomputable abbrev Qqn (a1:Tapi_Node):AObj:=oX false false 1 (.ref 4 0 ((List.replicate (zt a1.Card) ((0,0,0,0):(Int × Int × Int × Int))).length))
noncomputable abbrev Qqm (a1:Tapi_Node):AObj:=oR true 4 (fun x:(Int × Int × Int × Int)=>AV.agg [vI x.1,vI x.2.1,vI x.2.2.1,vI x.2.2.2]) (List.replicate (zt a1.Card) ((0,0,0,0):(Int × Int × Int × Int)))
noncomputable abbrev Q40:AObj:=oX false false 1 (.fn (.func 97) [] [.ptr 8 0 0,.ptr 9 0 0,.ptr 10 0 0,.ptr 11 0 0,.ptr 7 0 0])
noncomputable abbrev Q4i:AObj:=oX false false 1 (.fn (.func 73) [] [.ptr 0 0 0,.ptr 2 0 0,.ptr 3 0 0,.ptr 1 0 0,.ptr 5 0 0,.ptr 6 0 0])
noncomputable abbrev Q4l (p1:(List Int)):AObj:=oX true false 1 (z1 p1)
noncomputable abbrev o8_22 (s3:(Int × (List (Int × Int × Int × Int)) × Int × Int × (List Int))):AObj:=oX false false 1 (.ref 12 0 s3.2.2.2.2.length)
noncomputable abbrev o8_23 (s3:(Int × (List (Int × Int × Int × Int)) × Int × Int × (List Int))) (a10:Int) (a12:(Int × Int × Int × Int)) (x8:(Int × Int)):AObj:=oR true 4 (fun x:(Int × Int × Int × Int)=>AV.agg [vI x.1,vI x.2.1,vI x.2.2.1,vI x.2.2.2]) (List.set (List.set s3.2.1 (zt a10) (zw (a12.1+x8.1),a12.2.1,a12.2.2.1,a12.2.2.2)) (zt a10) ((zw (a12.1+x8.1),a12.2.1,a12.2.2.1,a12.2.2.2).1,zw (((zw (a12.1+x8.1),a12.2.1,a12.2.2.1,a12.2.2.2).2.1)+x8.2),(zw (a12.1+x8.1),a12.2.1,a12.2.2.1,a12.2.2.2).2.2.1,(zw (a12.1+x8.1),a12.2.1,a12.2.2.1,a12.2.2.2).2.2.2))
noncomputable abbrev Q0m (s3:(Int × (List (Int × Int × Int × Int)) × Int × Int × (List Int))) (a10:Int) (a12:(Int × Int × Int × Int)) (x8:(Int × Int)):AObj:=oX false false 1 (.ref 4 0 ((List.set (List.set s3.2.1 (zt a10) (zw (a12.1+x8.1),a12.2.1,a12.2.2.1,a12.2.2.2)) (zt a10) ((zw (a12.1+x8.1),a12.2.1,a12.2.2.1,a12.2.2.2).1,zw (((zw (a12.1+x8.1),a12.2.1,a12.2.2.1,a12.2.2.2).2.1)+x8.2),(zw (a12.1+x8.1),a12.2.1,a12.2.2.1,a12.2.2.2).2.2.1,(zw (a12.1+x8.1),a12.2.1,a12.2.2.1,a12.2.2.2).2.2.2)).length))
noncomputable abbrev o8_25 (s18:(Int × (List (Int × Int × Int × Int)) × Int × Int × (List Int))):AObj:=oR true 4 (fun x:(Int × Int × Int × Int)=>AV.agg [vI x.1,vI x.2.1,vI x.2.2.1,vI x.2.2.2]) s18.2.1
noncomputable abbrev o8_26 (x37:((List (Int × Int × Int × Int)) × Int × Int × (List Int))):AObj:=oX true true 1 (vI x37.2.2.1)
noncomputable abbrev Qk8 (s39:(Int × (List (Int × Int × Int × Int)))):AObj:=oX false false 1 (.ref 3 0 s39.2.length)
noncomputable abbrev Qqd (s39:(Int × (List (Int × Int × Int × Int)))):AObj:=oR true 4 (fun x:(Int × Int × Int × Int)=>AV.agg [vI x.1,vI x.2.1,vI x.2.2.1,vI x.2.2.2]) s39.2
noncomputable abbrev o8_29 (s39:(Int × (List (Int × Int × Int × Int)))) (a42:(Int × Int × Int × Int)) (x37:((List (Int × Int × Int × Int)) × Int × Int × (List Int))):AObj:=oR true 4 (fun x:(Int × Int × Int × Int)=>AV.agg [vI x.1,vI x.2.1,vI x.2.2.1,vI x.2.2.2]) (List.set s39.2 (zt s39.1) (a42.1,a42.2.1,x37.2.1,a42.2.2.2))
noncomputable abbrev Qu7:Nat×AV:=(41,.fn (.func 97) [] [.ptr 8 0 0,.ptr 9 0 0,.ptr 10 0 0,.ptr 11 0 0,.ptr 7 0 0])
noncomputable abbrev l8_31 (a0 a1 a2 a3 a4:AObj) (p0:Qc) (p2:Int) (p3:Tapi_Shift) (p1:(List Int)):List AObj:=[(Qqa p0),(Qul p2),(Qus p3),a0,a1,a2,a3,Q40,a4,Q4i,(Qqa p0),(Q4l p1)]
noncomputable abbrev s8_32 (a0 a1:Nat×AV) (x37:((List (Int × Int × Int × Int)) × Int × Int × (List Int))) (s39:(Int × (List (Int × Int × Int × Int)))):List (Nat×AV):=[(9,.ptr 0 0 0),(10,.ptr 1 0 0),(11,.ptr 2 0 0),(25,vI (zn x37.1)),(26,vI s39.1),(27,vB true),(28,vI s39.1),(12,vI s39.1),a0,(30,vI s39.1),a1,(32,vI s39.1),(33,vI x37.2.1),(34,vI x37.2.2.1),(35,.ptr 3 (zt s39.1) 0),(36,.ptr 3 (zt s39.1) 2)]
noncomputable abbrev s8_33 (s3:(Int × (List (Int × Int × Int × Int)) × Int × Int × (List Int))) (a16:Tapi_Node) (s18:(Int × (List (Int × Int × Int × Int)) × Int × Int × (List Int))):List (Nat×AV):=[(0,vI s3.1),(1,.ptr 8 0 0),(4,.ptr 11 0 0),(5,.ptr 7 0 0),(20,vI a16.Card),(21,vI s18.1)]
noncomputable abbrev Qv0 (s3:(Int × (List (Int × Int × Int × Int)) × Int × Int × (List Int))) (a10:Int) (a12:(Int × Int × Int × Int)) (x8:(Int × Int)) (p0:Qc) (p2:Int) (p3:Tapi_Shift) (p1:(List Int)):St:=⟨[],(l8_31 (Q0m s3 a10 a12 x8) (o8_23 s3 a10 a12 x8) (oX true true 1 (vI (zw (s3.2.2.1+x8.1)))) (oX true true 1 (vI (zw (s3.2.2.2.1+x8.2)))) (o8_22 s3) p0 p2 p3 p1)++[oR true 1 eI s3.2.2.2.2],46⟩
noncomputable abbrev Q1f (s3:(Int × (List (Int × Int × Int × Int)) × Int × Int × (List Int))) (a16:Tapi_Node) (s18:(Int × (List (Int × Int × Int × Int)) × Int × Int × (List Int))) (p0:Qc) (p2:Int) (p3:Tapi_Shift) (p1:(List Int)):St:=⟨(s8_33 s3 a16 s18)++[Qu7,(42,vI s3.1),(43,vI (zw (s3.1+1)))],(l8_31 (oX false false 1 (.ref 4 0 s18.2.1.length)) (o8_25 s18) (oX true true 1 (vI s18.2.2.1)) (oX true true 1 (vI s18.2.2.2.1)) (oX false false 1 (.ref 12 0 ((List.set s18.2.2.2.2 (zt s3.1) s18.1).length))) p0 p2 p3 p1)++[oR true 1 eI (List.set s18.2.2.2.2 (zt s3.1) s18.1)],46⟩
noncomputable abbrev Q0q (x36:((List (Int × Int × Int × Int)) × Int × Int × (List Int))) (p0:Qc) (p2:Int) (p3:Tapi_Shift) (p1:(List Int)):St:=⟨[],(l8_31 (oX false false 1 (.ref 4 0 x36.1.length)) (oR true 4 (fun x:(Int × Int × Int × Int)=>AV.agg [vI x.1,vI x.2.1,vI x.2.2.1,vI x.2.2.2]) x36.1) (oX true true 1 (vI x36.2.1)) (oX true true 1 (vI x36.2.2.1)) (oX false false 1 (.ref 12 0 x36.2.2.2.length)) p0 p2 p3 p1)++[oR true 1 eI x36.2.2.2],46⟩
theorem Qcj (p0:Qc) (p1:(List Int)) (p2:Int) (p3:Tapi_Shift) (x:(List (Int × Int × Int × Int))) (h:Ym p0 p1 p2 p3=some x):Q0 Try.prog 36 [.agg [vI p0.Grain,eL false eTapi_Node p0.Nodes],z1 p1,vI p2,.agg [vI p3.Node,vI p3.Row,vI p3.From,vI p3.To]] (.ret (.ref 0 0 x.length) [oR true 4 (fun x:(Int × Int × Int × Int)=>AV.agg [vI x.1,vI x.2.1,vI x.2.2.1,vI x.2.2.2]) x]):=by
 refine Q06 [] Try.func36 rfl (by decide +kernel) rfl ?_
 unfold Ym at h
 refine Qsj (base':=0) (st':=⟨[(0,.agg [vI p0.Grain,eL false eTapi_Node p0.Nodes]),(1,z1 p1),(2,vI p2),(3,.agg [vI p3.Node,vI p3.Row,vI p3.From,vI p3.To])],[],41⟩) kr kr ?_
 refine Z3 (Y4 ?_)
 refine sgL false [] [] false gE ?_
 refine sz 3 4 (Xu rfl (Z3 (Y4 (sz 3 3 ?_))))
 refine Jj h (fun a1 q2 h=>?_)
 refine Ql (enc:=eTapi_Node) (l:=p0.Nodes) (n:=p2) (fl:=false) (w:=3) (a:=a1) kr rfl gE q2 ?_
 refine sz 2 6 ?_
 refine mkL (enc:=(fun x:(Int × Int × Int × Int)=>AV.agg [vI x.1,vI x.2.1,vI x.2.2.1,vI x.2.2.2])) (z:=((0,0,0,0):(Int × Int × Int × Int))) (z0:=.agg [vI 0,vI 0,vI 0,vI 0]) (n:=a1.Card) (m:=a1.Card) (w:=4) (bytes:=32) [] true kr rfl gE kr h (fun h=>?_)
 refine sgL false [] [] false gE ?_
 refine sz 1 9 (Xu rfl (Z3 ?_))
 refine wgc [1,4,6,7,9] [0,1,2,4,3] ⟨[(1,z1 p1),(4,.ptr 0 0 0),(6,.ptr 1 0 0),(7,.ptr 2 0 0),(9,.ptr 3 0 0)],[(Qqa p0),(Qul p2),(Qus p3),(Qqn a1),(Qqm a1)],41⟩ ?_
 refine rn (Z3 (Y4 (sz 3 3 ?_)))
 refine Qv2 (f:=72) (fn:=Try.f72) (as0:=[.agg [vI p0.Grain,eL false eTapi_Node p0.Nodes],z1 p1,.fn (.func 73) [] [.ptr 0 0 0,.ptr 2 0 0,.ptr 3 0 0,.ptr 1 0 0,.ptr 5 0 0,.ptr 6 0 0]]) kr Try.func72 rfl (by decide +kernel) rfl ?_
 refine Qsj (base':=7) (st':=⟨[(0,.agg [vI p0.Grain,eL false eTapi_Node p0.Nodes]),(1,z1 p1),(2,.fn (.func 73) [] [.ptr 0 0 0,.ptr 2 0 0,.ptr 3 0 0,.ptr 1 0 0,.ptr 5 0 0,.ptr 6 0 0])],[(Qqa p0),(Qul p2),(Qus p3),(Qqn a1),(Qqm a1),oX true true 1 (vI 0),oX true true 1 (vI 0)],15⟩) kr kr ?_
 refine Z3 (Y4 ?_)
 refine sgL false [] [] false gE ?_
 refine sgL false [] [] false gE ?_
 refine sgL false [] [] false gE ?_
 refine Xu rfl (Z3 (Y4 (sz 2 2 ?_)))
 refine Za (enc:=eTapi_Node) (l:=p0.Nodes) (fl:=false) kr gE ?_
 refine mkL (enc:=eI) (z:=(0:Int)) (z0:=vI 0) (n:=(zn p0.Nodes)) (m:=(zn p0.Nodes)) (w:=1) (bytes:=8) [] true kr rfl gE kr h (fun h=>?_)
 refine sgL false [] [] false gE ?_
 refine sz 1 6 (Xu rfl (Z3 (wg [3,4,5,6] [7,8,9,11,10] (Y4 ?_))))
 refine sgL false [] [] false gE ?_
 refine Xu rfl (sq ?_)
 refine wgc [7] [12,10,9,7,8,11] ⟨[(7,.ptr 7 0 0)],(l8_31 (Qqn a1) (Qqm a1) (oX true true 1 (vI 0)) (oX true true 1 (vI 0)) (oX false false 1 (.ref 12 0 ((List.replicate (zt (zn p0.Nodes)) (0:Int)).length))) p0 p2 p3 p1)++[oR true 1 eI (List.replicate (zt (zn p0.Nodes)) (0:Int))],15⟩ ?_
 refine Y4 ?_
 refine sgz 1 1 (S:=⟨[(7,.ptr 7 0 0),(13,.fn (.func 97) [] [.ptr 8 0 0,.ptr 9 0 0,.ptr 10 0 0,.ptr 11 0 0,.ptr 7 0 0])],(l8_31 (Qqn a1) (Qqm a1) (oX true true 1 (vI 0)) (oX true true 1 (vI 0)) (oX false false 1 (.ref 12 0 ((List.replicate (zt (zn p0.Nodes)) (0:Int)).length))) p0 p2 p3 p1)++[oR true 1 eI (List.replicate (zt (zn p0.Nodes)) (0:Int))],15⟩) ?_
 refine Q5b (f:=97) (fn:=Try.f97) (as0:=[vI 0,.ptr 8 0 0,.ptr 9 0 0,.ptr 10 0 0,.ptr 11 0 0,.ptr 7 0 0]) (N:=13) (I:=fun s3=>⟨[(0,vI s3.1),(1,.ptr 8 0 0),(2,.ptr 9 0 0),(3,.ptr 10 0 0),(4,.ptr 11 0 0),(5,.ptr 7 0 0)],(l8_31 (oX false false 1 (.ref 4 0 s3.2.1.length)) (oR true 4 (fun x:(Int × Int × Int × Int)=>AV.agg [vI x.1,vI x.2.1,vI x.2.2.1,vI x.2.2.2]) s3.2.1) (oX true true 1 (vI s3.2.2.1)) (oX true true 1 (vI s3.2.2.2.1)) (o8_22 s3) p0 p2 p3 p1)++[oR true 1 eI s3.2.2.2.2],46⟩) (E:=fun v=>⟨[],(l8_31 (oX false false 1 (.ref 4 0 v.1.length)) (oR true 4 (fun x:(Int × Int × Int × Int)=>AV.agg [vI x.1,vI x.2.1,vI x.2.2.1,vI x.2.2.2]) v.1) (oX true true 1 (vI v.2.1)) (oX true true 1 (vI v.2.2.1)) (oX false false 1 (.ref 12 0 v.2.2.2.length)) p0 p2 p3 p1)++[oR true 1 eI v.2.2.2],46⟩) (F:=(Q2 p0 p3 p2 p1)) (0,(List.replicate (zt a1.Card) ((0,0,0,0):(Int × Int × Int × Int))),0,0,(List.replicate (zt (zn p0.Nodes)) (0:Int))) kr Try.func97 rfl (by decide +kernel) rfl kr rfl h ?_ (fun x37 h=>?_)
 ·intro r4 i5 s3 y38 h
  unfold Q2 at h
  refine Q14 ?_
  refine Z3 (sq ?_)
  refine wbz h (fun q7 h=>?_) (fun q7 h=>?_)
  ·refine Z3 (wg [1,2] [] (Y4 (sz 2 2 ?_)))
   refine Qv2 (f:=73) (fn:=Try.f73) (as0:=[.ref 12 0 s3.2.2.2.2.length,.ptr 0 0 0,.ptr 2 0 0,.ptr 3 0 0,.ptr 1 0 0,.ptr 5 0 0,.ptr 6 0 0]) kr Try.func73 rfl (by decide +kernel) rfl ?_
   refine Qsj (base':=13) (st':=⟨[(0,.ref 12 0 s3.2.2.2.2.length),(1,.ptr 0 0 0),(2,.ptr 2 0 0),(3,.ptr 3 0 0),(4,.ptr 1 0 0),(5,.ptr 5 0 0),(6,.ptr 6 0 0)],(l8_31 (oX false false 1 (.ref 4 0 s3.2.1.length)) (oR true 4 (fun x:(Int × Int × Int × Int)=>AV.agg [vI x.1,vI x.2.1,vI x.2.2.1,vI x.2.2.2]) s3.2.1) (oX true true 1 (vI s3.2.2.1)) (oX true true 1 (vI s3.2.2.2.1)) (o8_22 s3) p0 p2 p3 p1)++[oR true 1 eI s3.2.2.2.2],47⟩) kr kr ?_
   refine Z3 (Y4 (sz 3 3 ?_))
   refine Qqk (as0:=[.agg [vI p0.Grain,eL false eTapi_Node p0.Nodes],.ref 12 0 s3.2.2.2.2.length,.agg [vI p3.Node,vI p3.Row,vI p3.From,vI p3.To]]) (ids:=[12]) kr Q0d (Qy (K6 (Qy rfl (Qy rfl Y6 (by rfl)) (by rfl))) (Qy (Yo (w:=1) (bx:=false) (ro:=false) (enc:=eI) (l:=s3.2.2.2.2) (fl:=true) kr) (Qy (K6 (Qy rfl (Qy rfl (Qy rfl (Qy rfl Y6 (by rfl)) (by rfl)) (by rfl)) (by rfl))) Y6 (by rfl)) (by rfl)) (by rfl)) (fun x8 q9=>Qhu p0 s3.2.2.2.2 p3 x8 q9) gF h (fun x8 q9 h=>?_)
   refine sz 5 9 (Xu rfl (Z3 (wg [0,3,4,5,6,8,9] [] (rga Q0a (sy 3 3 ?_)))))
   refine Jj h (fun a10 q11 h=>?_)
   refine Qv (enc:=eI) (l:=s3.2.2.2.2) (n:=p2) (w:=1) (ob:=12) (ro:=false) (nr:=true) (fl:=true) (a:=a10) kr kr gE q11 ?_
   refine Zi (enc:=eI) (l:=s3.2.2.2.2) (n:=p2) (w:=1) (ob:=12) (c:=0) (bx:=false) (ro:=false) (nr:=true) (fl:=true) (a:=a10) kr kr q11 gE ?_
   refine Jj h (fun a12 q13 h=>?_)
   refine Qv (enc:=(fun x:(Int × Int × Int × Int)=>AV.agg [vI x.1,vI x.2.1,vI x.2.2.1,vI x.2.2.2])) (l:=s3.2.1) (n:=a10) (w:=4) (ob:=4) (ro:=false) (nr:=true) (fl:=true) (a:=a12) kr kr gE q13 ?_
   refine sy 1 7 ?_
   refine Zi (enc:=(fun x:(Int × Int × Int × Int)=>AV.agg [vI x.1,vI x.2.1,vI x.2.2.1,vI x.2.2.2])) (l:=s3.2.1) (n:=a10) (w:=4) (ob:=4) (c:=0) (bx:=false) (ro:=false) (nr:=true) (fl:=true) (a:=a12) kr kr q13 gE ?_
   refine sy 2 10 ?_
   refine Qv (enc:=(fun x:(Int × Int × Int × Int)=>AV.agg [vI x.1,vI x.2.1,vI x.2.2.1,vI x.2.2.2])) (l:=s3.2.1) (n:=a10) (w:=4) (ob:=4) (ro:=false) (nr:=true) (fl:=true) (a:=a12) kr kr gE q13 ?_
   refine sy 1 12 ?_
   refine Xm (enc:=(fun x:(Int × Int × Int × Int)=>AV.agg [vI x.1,vI x.2.1,vI x.2.2.1,vI x.2.2.2])) (l:=s3.2.1) (n:=a10) (ob:=4) (w:=4) (bx:=false) (nr:=true) (fl:=true) (c:=0) (a:=a12) (a':=(zw (a12.1+x8.1),a12.2.1,a12.2.2.1,a12.2.2.2)) (v:=vI (zw (a12.1+x8.1))) false kr kr q13 kr rfl kr gE kr ?_
   refine Qlt (n:=s3.2.1.length) (m:=(List.set s3.2.1 (zt a10) (zw (a12.1+x8.1),a12.2.1,a12.2.2.1,a12.2.2.2)).length) (S:=fun n15=>⟨[(0,.ref 12 0 s3.2.2.2.2.length),(3,.ptr 3 0 0),(4,.ptr 1 0 0),(5,.ptr 5 0 0),(6,.ptr 6 0 0),(8,vI x8.1),(9,vI x8.2),(17,.ref 4 0 n15),(18,.ref 12 0 s3.2.2.2.2.length),(19,vI p2),(20,.ptr 12 (zt p2) 0),(21,vI a10),(22,.ptr 4 (zt a10) 0),(23,.ptr 4 (zt a10) 0),(24,vI a12.1),(25,vI x8.1),(26,vI (zw (a12.1+x8.1))),(27,.ptr 4 (zt a10) 0),(28,.ptr 4 (zt a10) 0)],(l8_31 (oX false false 1 (.ref 4 0 n15)) (oR true 4 (fun x:(Int × Int × Int × Int)=>AV.agg [vI x.1,vI x.2.1,vI x.2.2.1,vI x.2.2.2]) (List.set s3.2.1 (zt a10) (zw (a12.1+x8.1),a12.2.1,a12.2.2.1,a12.2.2.2))) (oX true true 1 (vI s3.2.2.1)) (oX true true 1 (vI s3.2.2.2.1)) (o8_22 s3) p0 p2 p3 p1)++[oR true 1 eI s3.2.2.2.2],47⟩) (by simp only [List.length_set]) ?_
   refine rgd (Z3 (wg [0,3,4,5,6,8,9] [] (rga Q0a (sy 3 3 ?_))))
   refine Qv (enc:=eI) (l:=s3.2.2.2.2) (n:=p2) (w:=1) (ob:=12) (ro:=false) (nr:=true) (fl:=true) (a:=a10) kr kr gE q11 ?_
   refine Zi (enc:=eI) (l:=s3.2.2.2.2) (n:=p2) (w:=1) (ob:=12) (c:=0) (bx:=false) (ro:=false) (nr:=true) (fl:=true) (a:=a10) kr kr q11 gE ?_
   refine Qv (enc:=(fun x:(Int × Int × Int × Int)=>AV.agg [vI x.1,vI x.2.1,vI x.2.2.1,vI x.2.2.2])) (l:=(List.set s3.2.1 (zt a10) (zw (a12.1+x8.1),a12.2.1,a12.2.2.1,a12.2.2.2))) (n:=a10) (w:=4) (ob:=4) (ro:=false) (nr:=true) (fl:=true) (a:=(zw (a12.1+x8.1),a12.2.1,a12.2.2.1,a12.2.2.2)) kr kr gE (Qag (zw (a12.1+x8.1),a12.2.1,a12.2.2.1,a12.2.2.2) q13) ?_
   refine sy 1 7 ?_
   refine Zi (enc:=(fun x:(Int × Int × Int × Int)=>AV.agg [vI x.1,vI x.2.1,vI x.2.2.1,vI x.2.2.2])) (l:=(List.set s3.2.1 (zt a10) (zw (a12.1+x8.1),a12.2.1,a12.2.2.1,a12.2.2.2))) (n:=a10) (w:=4) (ob:=4) (c:=1) (bx:=false) (ro:=false) (nr:=true) (fl:=true) (a:=(zw (a12.1+x8.1),a12.2.1,a12.2.2.1,a12.2.2.2)) kr kr (Qag (zw (a12.1+x8.1),a12.2.1,a12.2.2.1,a12.2.2.2) q13) gE ?_
   refine sy 2 10 ?_
   refine Qv (enc:=(fun x:(Int × Int × Int × Int)=>AV.agg [vI x.1,vI x.2.1,vI x.2.2.1,vI x.2.2.2])) (l:=(List.set s3.2.1 (zt a10) (zw (a12.1+x8.1),a12.2.1,a12.2.2.1,a12.2.2.2))) (n:=a10) (w:=4) (ob:=4) (ro:=false) (nr:=true) (fl:=true) (a:=(zw (a12.1+x8.1),a12.2.1,a12.2.2.1,a12.2.2.2)) kr kr gE (Qag (zw (a12.1+x8.1),a12.2.1,a12.2.2.1,a12.2.2.2) q13) ?_
   refine sy 1 12 ?_
   refine Xm (enc:=(fun x:(Int × Int × Int × Int)=>AV.agg [vI x.1,vI x.2.1,vI x.2.2.1,vI x.2.2.2])) (l:=(List.set s3.2.1 (zt a10) (zw (a12.1+x8.1),a12.2.1,a12.2.2.1,a12.2.2.2))) (n:=a10) (ob:=4) (w:=4) (bx:=false) (nr:=true) (fl:=true) (c:=1) (a:=(zw (a12.1+x8.1),a12.2.1,a12.2.2.1,a12.2.2.2)) (a':=((zw (a12.1+x8.1),a12.2.1,a12.2.2.1,a12.2.2.2).1,zw (((zw (a12.1+x8.1),a12.2.1,a12.2.2.1,a12.2.2.2).2.1)+x8.2),(zw (a12.1+x8.1),a12.2.1,a12.2.2.1,a12.2.2.2).2.2.1,(zw (a12.1+x8.1),a12.2.1,a12.2.2.1,a12.2.2.2).2.2.2)) (v:=vI (zw (((zw (a12.1+x8.1),a12.2.1,a12.2.2.1,a12.2.2.2).2.1)+x8.2))) false kr kr (Qag (zw (a12.1+x8.1),a12.2.1,a12.2.2.1,a12.2.2.2) q13) kr rfl kr gE kr ?_
   refine Qlt (n:=(List.set s3.2.1 (zt a10) (zw (a12.1+x8.1),a12.2.1,a12.2.2.1,a12.2.2.2)).length) (m:=(List.set (List.set s3.2.1 (zt a10) (zw (a12.1+x8.1),a12.2.1,a12.2.2.1,a12.2.2.2)) (zt a10) ((zw (a12.1+x8.1),a12.2.1,a12.2.2.1,a12.2.2.2).1,zw (((zw (a12.1+x8.1),a12.2.1,a12.2.2.1,a12.2.2.2).2.1)+x8.2),(zw (a12.1+x8.1),a12.2.1,a12.2.2.1,a12.2.2.2).2.2.1,(zw (a12.1+x8.1),a12.2.1,a12.2.2.1,a12.2.2.2).2.2.2)).length) (S:=fun n14=>⟨[(0,.ref 12 0 s3.2.2.2.2.length),(3,.ptr 3 0 0),(4,.ptr 1 0 0),(5,.ptr 5 0 0),(6,.ptr 6 0 0),(8,vI x8.1),(9,vI x8.2),(29,.ref 4 0 n14),(30,.ref 12 0 s3.2.2.2.2.length),(31,vI p2),(32,.ptr 12 (zt p2) 0),(33,vI a10),(34,.ptr 4 (zt a10) 0),(35,.ptr 4 (zt a10) 1),(36,vI ((zw (a12.1+x8.1),a12.2.1,a12.2.2.1,a12.2.2.2).2.1)),(37,vI x8.2),(38,vI (zw (((zw (a12.1+x8.1),a12.2.1,a12.2.2.1,a12.2.2.2).2.1)+x8.2))),(39,.ptr 4 (zt a10) 0),(40,.ptr 4 (zt a10) 1)],(l8_31 (oX false false 1 (.ref 4 0 n14)) (o8_23 s3 a10 a12 x8) (oX true true 1 (vI s3.2.2.1)) (oX true true 1 (vI s3.2.2.2.1)) (o8_22 s3) p0 p2 p3 p1)++[oR true 1 eI s3.2.2.2.2],47⟩) (by simp only [List.length_set]) ?_
   refine rgd (Z3 (wg [5,6,8,9] [] (rn (wg [6,9] [] (rn ?_)))))
   refine ⟨⟨[(1,.ptr 8 0 0),(2,.ptr 9 0 0),(12,.fn (.func 73) [] [.ptr 0 0 0,.ptr 2 0 0,.ptr 3 0 0,.ptr 1 0 0,.ptr 5 0 0,.ptr 6 0 0]),(13,.ref 12 0 s3.2.2.2.2.length),(14,.tup [])],(l8_31 (Q0m s3 a10 a12 x8) (o8_23 s3 a10 a12 x8) (oX true true 1 (vI (zw (s3.2.2.1+x8.1)))) (oX true true 1 (vI (zw (s3.2.2.2.1+x8.2)))) (o8_22 s3) p0 p2 p3 p1)++[oR true 1 eI s3.2.2.2.2],46⟩,by kernel_rfl,?_⟩
   refine Xu rfl ?_
   refine wgc [] [] (Qv0 s3 a10 a12 x8 p0 p2 p3 p1) ?_
   refine Qqz ?_
   cases h
   refine ⟨(Qv0 s3 a10 a12 x8 p0 p2 p3 p1),(Zy (live:=[]) (keep:=[]) (st':=(Qv0 s3 a10 a12 x8 p0 p2 p3 p1)) (by kernel_rfl)),?_⟩
   exact .inl (by kernel_rfl)
  refine wp_skip (Z3 (wg [0,1,3,4,5] [] (Y4 (sz 3 3 ?_))))
  refine Jj h (fun a16 q17 h=>?_)
  refine Ql (enc:=eTapi_Node) (l:=p0.Nodes) (n:=s3.1) (fl:=false) (w:=3) (a:=a16) kr rfl gE q17 ?_
  refine sz 3 7 (Xu rfl (Qe4 ?_))
  refine wwh h (fun s18=>⟨(s8_33 s3 a16 s18),(l8_31 (oX false false 1 (.ref 4 0 s18.2.1.length)) (o8_25 s18) (oX true true 1 (vI s18.2.2.1)) (oX true true 1 (vI s18.2.2.2.1)) (oX false false 1 (.ref 12 0 s18.2.2.2.2.length)) p0 p2 p3 p1)++[oR true 1 eI s18.2.2.2.2],46⟩) (fun v out=>out=.go (.exit 0) ⟨[],(l8_31 (oX false false 1 (.ref 4 0 v.1.length)) (oR true 4 (fun x:(Int × Int × Int × Int)=>AV.agg [vI x.1,vI x.2.1,vI x.2.2.1,vI x.2.2.2]) v.1) (oX true true 1 (vI v.2.1)) (oX true true 1 (vI v.2.2.1)) (oX false false 1 (.ref 12 0 v.2.2.2.length)) p0 p2 p3 p1)++[oR true 1 eI v.2.2.2],46⟩) (Zy (live:=[0,1,4,5,20,21]) (keep:=[]) kr) ?_ ?_
  ·intro s18 o h
   unfold Vj at h
   refine sq (Z3 ?_)
   refine wb [22] h (fun q20 h=>?_) (fun q20 h=>?_)
   ·refine wcT (wp_skip (Z3 (Qe4 (sq (Z3 (Y4 (sz 2 2 ?_)))))))
    refine Jj h (fun a21 q22 h=>?_)
    refine Ql (enc:=eI) (l:=p1) (n:=s3.1) (fl:=true) (w:=1) (a:=a21) kr rfl gE q22 ?_
    refine sz 3 6 ?_
    refine Q1d (Zy (live:=[0,1,4,5,20,21,7,29]) (keep:=[]) (st':=⟨(s8_33 s3 a16 s18)++[(7,vI s18.1),(29,vB (a21==(-1)))],(l8_31 (oX false false 1 (.ref 4 0 s18.2.1.length)) (o8_25 s18) (oX true true 1 (vI s18.2.2.1)) (oX true true 1 (vI s18.2.2.2.1)) (oX false false 1 (.ref 12 0 s18.2.2.2.2.length)) p0 p2 p3 p1)++[oR true 1 eI s18.2.2.2.2],46⟩) kr) ?_
    refine rb [29] h (fun q24 h=>?_) (fun q24 h=>?_)
    ·refine sz 7 13 (Xu rfl (wcT (Z3 (wg [0,1,4,5,20,21,7] [] (Y4 (sz 3 3 ?_))))))
     refine Jj h (fun a25 q26 h=>?_)
     refine Qv (enc:=eI) (l:=s18.2.2.2.2) (n:=s3.1) (w:=1) (ob:=12) (ro:=false) (nr:=true) (fl:=true) (a:=a25) kr kr gE q26 ?_
     refine Xm (enc:=eI) (l:=s18.2.2.2.2) (n:=s3.1) (ob:=12) (w:=1) (bx:=false) (nr:=true) (fl:=true) (c:=0) (a:=a25) (a':=s18.1) (v:=vI s18.1) false kr kr q26 kr rfl kr gE kr ?_
     refine Qlt (n:=s18.2.2.2.2.length) (m:=(List.set s18.2.2.2.2 (zt s3.1) s18.1).length) (S:=fun n28=>⟨(s8_33 s3 a16 s18)++[(7,vI s18.1),(37,.ref 12 0 n28),(38,vI s3.1),(39,vI s18.1),(40,.ptr 12 (zt s3.1) 0)],(l8_31 (oX false false 1 (.ref 4 0 s18.2.1.length)) (o8_25 s18) (oX true true 1 (vI s18.2.2.1)) (oX true true 1 (vI s18.2.2.2.1)) (oX false false 1 (.ref 12 0 n28)) p0 p2 p3 p1)++[oR true 1 eI (List.set s18.2.2.2.2 (zt s3.1) s18.1)],46⟩) (by simp only [List.length_set]) ?_
     refine Xu rfl (wg [0,1,4,5,20,21] [] (Y4 ?_))
     refine sgz 3 3 (S:=(Q1f s3 a16 s18 p0 p2 p3 p1)) ?_
     refine Qyr (f:=97) (fn:=Try.f97) (as0:=[vI (zw (s3.1+1)),.ptr 8 0 0,.ptr 9 0 0,.ptr 10 0 0,.ptr 11 0 0,.ptr 7 0 0]) (zw (s3.1+1),s18.2.1,s18.2.2.1,s18.2.2.2.1,(List.set s18.2.2.2.2 (zt s3.1) s18.1)) kr Try.func97 rfl (by decide +kernel) rfl kr rfl i5 h (fun x27 h=>?_)
     refine ⟨⟨(s8_33 s3 a16 s18)++[Qu7,(42,vI s3.1),(43,vI (zw (s3.1+1))),(44,.tup [])],(l8_31 (oX false false 1 (.ref 4 0 x27.1.length)) (oR true 4 (fun x:(Int × Int × Int × Int)=>AV.agg [vI x.1,vI x.2.1,vI x.2.2.1,vI x.2.2.2]) x27.1) (oX true true 1 (vI x27.2.1)) (oX true true 1 (vI x27.2.2.1)) (oX false false 1 (.ref 12 0 x27.2.2.2.length)) p0 p2 p3 p1)++[oR true 1 eI x27.2.2.2],46⟩,by kernel_rfl,?_⟩
     refine Xu rfl (rn ?_)
     cases h
     exact ⟨_,rfl,(Zy (live:=[0,1,4,5,20,21]) (keep:=[]) kr)⟩
    refine sz 2 8 ?_
    refine Ql (enc:=eI) (l:=p1) (n:=s3.1) (fl:=true) (w:=1) (a:=a21) kr rfl gE q22 ?_
    refine sz 4 13 (Xu rfl ?_)
    refine wbz h (fun q30 h=>?_) (fun q30 h=>?_)
    ·refine Z3 (wg [0,1,4,5,20,21,7] [] (Y4 (sz 3 3 ?_)))
     refine Jj h (fun a31 q32 h=>?_)
     refine Qv (enc:=eI) (l:=s18.2.2.2.2) (n:=s3.1) (w:=1) (ob:=12) (ro:=false) (nr:=true) (fl:=true) (a:=a31) kr kr gE q32 ?_
     refine Xm (enc:=eI) (l:=s18.2.2.2.2) (n:=s3.1) (ob:=12) (w:=1) (bx:=false) (nr:=true) (fl:=true) (c:=0) (a:=a31) (a':=s18.1) (v:=vI s18.1) false kr kr q32 kr rfl kr gE kr ?_
     refine Qlt (n:=s18.2.2.2.2.length) (m:=(List.set s18.2.2.2.2 (zt s3.1) s18.1).length) (S:=fun n34=>⟨(s8_33 s3 a16 s18)++[(7,vI s18.1),(37,.ref 12 0 n34),(38,vI s3.1),(39,vI s18.1),(40,.ptr 12 (zt s3.1) 0)],(l8_31 (oX false false 1 (.ref 4 0 s18.2.1.length)) (o8_25 s18) (oX true true 1 (vI s18.2.2.1)) (oX true true 1 (vI s18.2.2.2.1)) (oX false false 1 (.ref 12 0 n34)) p0 p2 p3 p1)++[oR true 1 eI (List.set s18.2.2.2.2 (zt s3.1) s18.1)],46⟩) (by simp only [List.length_set]) ?_
     refine Xu rfl (wg [0,1,4,5,20,21] [] (Y4 ?_))
     refine sgz 3 3 (S:=(Q1f s3 a16 s18 p0 p2 p3 p1)) ?_
     refine Qyr (f:=97) (fn:=Try.f97) (as0:=[vI (zw (s3.1+1)),.ptr 8 0 0,.ptr 9 0 0,.ptr 10 0 0,.ptr 11 0 0,.ptr 7 0 0]) (zw (s3.1+1),s18.2.1,s18.2.2.1,s18.2.2.2.1,(List.set s18.2.2.2.2 (zt s3.1) s18.1)) kr Try.func97 rfl (by decide +kernel) rfl kr rfl i5 h (fun x33 h=>?_)
     refine ⟨⟨(s8_33 s3 a16 s18)++[Qu7,(42,vI s3.1),(43,vI (zw (s3.1+1))),(44,.tup [])],(l8_31 (oX false false 1 (.ref 4 0 x33.1.length)) (oR true 4 (fun x:(Int × Int × Int × Int)=>AV.agg [vI x.1,vI x.2.1,vI x.2.2.1,vI x.2.2.2]) x33.1) (oX true true 1 (vI x33.2.1)) (oX true true 1 (vI x33.2.2.1)) (oX false false 1 (.ref 12 0 x33.2.2.2.length)) p0 p2 p3 p1)++[oR true 1 eI x33.2.2.2],46⟩,by kernel_rfl,?_⟩
     refine Xu rfl (rn ?_)
     cases h
     exact ⟨_,rfl,(Zy (live:=[0,1,4,5,20,21]) (keep:=[]) kr)⟩
    refine wp_skip (wg [0,1,4,5,20,21] [] (rn ?_))
    cases h
    exact ⟨_,rfl,(Zy (live:=[0,1,4,5,20,21]) (keep:=[]) kr)⟩
   refine wcF (wg [] [] ?_)
   refine Qn0 ?_
   cases h
   exact ⟨kr,rfl⟩
  intro x36 h out hx
  subst hx
  cases h
  refine ⟨(Q0q x36 p0 p2 p3 p1),(Zy (live:=[]) (keep:=[]) (st':=(Q0q x36 p0 p2 p3 p1)) (by kernel_rfl)),?_⟩
  exact .inr (by kernel_rfl)
 refine ⟨⟨[(7,.ptr 7 0 0),(13,.fn (.func 97) [] [.ptr 8 0 0,.ptr 9 0 0,.ptr 10 0 0,.ptr 11 0 0,.ptr 7 0 0]),(14,.tup [])],(l8_31 (oX false false 1 (.ref 4 0 x37.1.length)) (oR true 4 (fun x:(Int × Int × Int × Int)=>AV.agg [vI x.1,vI x.2.1,vI x.2.2.1,vI x.2.2.2]) x37.1) (oX true true 1 (vI x37.2.1)) (o8_26 x37) (oX false false 1 (.ref 12 0 x37.2.2.2.length)) p0 p2 p3 p1)++[oR true 1 eI x37.2.2.2],15⟩,by kernel_rfl,?_⟩
 refine Xu rfl ?_
 refine ⟨⟨[(1,z1 p1),(4,.ptr 0 0 0),(6,.ptr 1 0 0),(7,.ptr 2 0 0),(9,.ptr 3 0 0),(10,.ptr 5 0 0),(11,.ptr 6 0 0),(20,.agg [vI p0.Grain,eL false eTapi_Node p0.Nodes]),(21,z1 p1),(22,.fn (.func 73) [] [.ptr 0 0 0,.ptr 2 0 0,.ptr 3 0 0,.ptr 1 0 0,.ptr 5 0 0,.ptr 6 0 0]),(23,.tup [])],(l8_31 (oX false false 1 (.ref 4 0 x37.1.length)) (oR true 4 (fun x:(Int × Int × Int × Int)=>AV.agg [vI x.1,vI x.2.1,vI x.2.2.1,vI x.2.2.2]) x37.1) (oX true true 1 (vI x37.2.1)) (o8_26 x37) (oX false false 1 (.ref 12 0 x37.2.2.2.length)) p0 p2 p3 p1)++[oR true 1 eI x37.2.2.2],41⟩,by kernel_rfl,?_⟩
 refine Xu rfl (Z3 (Z3 (wg [9,10,11] [3,5,6,4] (rn (Qe4 ?_)))))
 refine wwh h (fun s39=>⟨[(9,.ptr 0 0 0),(10,.ptr 1 0 0),(11,.ptr 2 0 0),(25,vI (zn x37.1)),(26,vI s39.1)],[(Qk8 s39),oX true true 1 (vI x37.2.1),(o8_26 x37),(Qqd s39)],41⟩) (fun v out=>out=.go (.exit 0) ⟨[(9,.ptr 0 0 0)],[oX false false 1 (.ref 1 0 v.length),oR true 4 (fun x:(Int × Int × Int × Int)=>AV.agg [vI x.1,vI x.2.1,vI x.2.2.1,vI x.2.2.2]) v],41⟩) (Zy (live:=[9,10,11,25,26]) (keep:=[0,1,2,3]) kr) ?_ ?_
 ·intro s39 o h
  unfold Ye at h
  refine sq (Z3 ?_)
  refine wb [27] h (fun q41 h=>?_) (fun q41 h=>?_)
  ·refine wcT (wp_skip (Z3 (Qe4 ?_)))
   refine sqN (S:=⟨[(9,.ptr 0 0 0),(10,.ptr 1 0 0),(11,.ptr 2 0 0),(25,vI (zn x37.1)),(26,vI s39.1),(27,vB true),(28,vI s39.1),(12,vI s39.1)],[(Qk8 s39),oX true true 1 (vI x37.2.1),(o8_26 x37),(Qqd s39)],41⟩) ?_
   refine Q0f (p:=8) (q:=9) (ob:=3) (pre:=[0,1,2,3,4,5,6,7]) (post:=[10,11]) (orL Q0a) kr ?_
   refine sy 6 8 ?_
   refine Jj h (fun a42 q43 h=>?_)
   refine Qv (enc:=(fun x:(Int × Int × Int × Int)=>AV.agg [vI x.1,vI x.2.1,vI x.2.2.1,vI x.2.2.2])) (l:=s39.2) (n:=s39.1) (w:=4) (ob:=3) (ro:=false) (nr:=true) (fl:=true) (a:=a42) kr kr gE q43 ?_
   refine sgy 1 10 (S:=⟨(s8_32 (29,.ref 3 0 s39.2.length) (31,.ref 3 0 s39.2.length) x37 s39),[(Qk8 s39),oX true true 1 (vI x37.2.1),(o8_26 x37),(Qqd s39)],41⟩) ?_
   refine rgd ?_
   refine ⟨_,⟨(s8_32 (29,.ref 3 0 s39.2.length) (31,.ref 3 0 s39.2.length) x37 s39)++[(37,.ptr 3 (zt s39.1) 0)],[(Qk8 s39),oX true true 1 (vI x37.2.1),(o8_26 x37),(o8_29 s39 a42 x37)],41⟩,rfl,rfl,Q2b (enc:=(fun x:(Int × Int × Int × Int)=>AV.agg [vI x.1,vI x.2.1,vI x.2.2.1,vI x.2.2.2])) (l:=s39.2) (n:=s39.1) (m:=s39.1) (w:=4) (ob:=3) (p:=8) (q:=9) (c:=2) (fl:=true) (a:=a42) (a1:=(a42.1,a42.2.1,x37.2.1,a42.2.2.2)) (b:=a42) (v:=vI x37.2.1) (Sa:=⟨(s8_32 (29,.ref 3 0 s39.2.length) (31,.ref 3 0 s39.2.length) x37 s39),[(Qk8 s39),oX true true 1 (vI x37.2.1),(o8_26 x37),(o8_29 s39 a42 x37)],41⟩) (Sb:=⟨(s8_32 (29,.ref 3 0 s39.2.length) (31,.ref 3 0 s39.2.length) x37 s39)++[(37,.ptr 3 (zt s39.1) 0)],[(Qk8 s39),oX true true 1 (vI x37.2.1),(o8_26 x37),(Qqd s39)],41⟩) kr kr q43 q43 kr kr kr kr kr kr kr kr kr kr kr kr kr kr kr kr kr,?_⟩
   refine Qlt (n:=s39.2.length) (m:=(List.set s39.2 (zt s39.1) (a42.1,a42.2.1,x37.2.1,a42.2.2.2)).length) (S:=fun n45=>⟨(s8_32 (29,.ref 3 0 n45) (31,.ref 3 0 n45) x37 s39)++[(37,.ptr 3 (zt s39.1) 0)],[oX false false 1 (.ref 3 0 n45),oX true true 1 (vI x37.2.1),(o8_26 x37),(o8_29 s39 a42 x37)],41⟩) (by simp only [List.length_set]) ?_
   refine sy 1 2 ?_
   refine Xm (enc:=(fun x:(Int × Int × Int × Int)=>AV.agg [vI x.1,vI x.2.1,vI x.2.2.1,vI x.2.2.2])) (l:=(List.set s39.2 (zt s39.1) (a42.1,a42.2.1,x37.2.1,a42.2.2.2))) (n:=s39.1) (ob:=3) (w:=4) (bx:=false) (nr:=true) (fl:=true) (c:=3) (a:=(a42.1,a42.2.1,x37.2.1,a42.2.2.2)) (a':=((a42.1,a42.2.1,x37.2.1,a42.2.2.2).1,(a42.1,a42.2.1,x37.2.1,a42.2.2.2).2.1,(a42.1,a42.2.1,x37.2.1,a42.2.2.2).2.2.1,x37.2.2.1)) (v:=vI x37.2.2.1) false kr kr (Qag (a42.1,a42.2.1,x37.2.1,a42.2.2.2) q43) kr rfl kr gE kr ?_
   refine Qlt (n:=(List.set s39.2 (zt s39.1) (a42.1,a42.2.1,x37.2.1,a42.2.2.2)).length) (m:=(List.set (List.set s39.2 (zt s39.1) (a42.1,a42.2.1,x37.2.1,a42.2.2.2)) (zt s39.1) ((a42.1,a42.2.1,x37.2.1,a42.2.2.2).1,(a42.1,a42.2.1,x37.2.1,a42.2.2.2).2.1,(a42.1,a42.2.1,x37.2.1,a42.2.2.2).2.2.1,x37.2.2.1)).length) (S:=fun n44=>⟨(s8_32 (29,.ref 3 0 n44) (31,.ref 3 0 n44) x37 s39)++[(37,.ptr 3 (zt s39.1) 0),(38,.ptr 3 (zt s39.1) 3)],[oX false false 1 (.ref 3 0 n44),oX true true 1 (vI x37.2.1),(o8_26 x37),oR true 4 (fun x:(Int × Int × Int × Int)=>AV.agg [vI x.1,vI x.2.1,vI x.2.2.1,vI x.2.2.2]) (List.set (List.set s39.2 (zt s39.1) (a42.1,a42.2.1,x37.2.1,a42.2.2.2)) (zt s39.1) ((a42.1,a42.2.1,x37.2.1,a42.2.2.2).1,(a42.1,a42.2.1,x37.2.1,a42.2.2.2).2.1,(a42.1,a42.2.1,x37.2.1,a42.2.2.2).2.2.1,x37.2.2.1))],41⟩) (by simp only [List.length_set]) ?_
   refine rgd ?_
   refine ⟨_,rfl,rfl,?_⟩
   refine wg [9,10,11,25,26] [0,1,2,3] (rn ?_)
   cases h
   exact ⟨_,rfl,(Zy (live:=[9,10,11,25,26]) (keep:=[0,1,2,3]) kr)⟩
  refine wcF (wg [9] [0,3] ?_)
  refine Qn0 ?_
  cases h
  exact ⟨kr,rfl⟩
 intro x47 h out hx
 subst hx
 refine sq (wg [8] [1] ?_)
 cases h
 exact Qqz (show Qla _ _ _ _=_ from by kernel_rfl)
section
attribute [local irreducible] RW WP
theorem g_sensitive_Line_ok (p0:Qc) (p1:(List Int)) (p2:Int) (p3:Int) (p4:Tapi_Shift):Ct Try.prog 12 [.agg [vI p0.Grain,eL false eTapi_Node p0.Nodes],z1 p1,vI p2,vI p3,.agg [vI p4.Node,vI p4.Row,vI p4.From,vI p4.To]] (Zf p0 p1 p2 p3 p4) (fun x=>.tup [.agg [vI x.1.1,vI x.1.2.1,vI x.1.2.2.1,vI x.1.2.2.2],vI x.2]) (fun x=>[]):=by
 refine hfn [] Try.func12 <| hop 0 (fun _=>sgL false [] [] false gE) <| hop 8 (fun _=>sgL false [] [] true gE) <| hcl 0 [] (g_sensitive_check_ok p0 p1 p2 p4 [p3]) fun x1 _=>hbr 3 [21] (hrt 6) <| ?_
 refine hcl 5 [] (Qcj p0 p1 p2 p4) fun x5 _=>hbd fun a7 q8=>hop 1 (fun _=>Qv (enc:=(fun x:(Int × Int × Int × Int)=>AV.agg [vI x.1,vI x.2.1,vI x.2.2.1,vI x.2.2.2])) (l:=x5) (n:=p3) (w:=4) (ob:=4) (ro:=false) (nr:=true) (fl:=true) (a:=a7) kr kr gE q8) <| hop 0 (fun _=>Zi (enc:=(fun x:(Int × Int × Int × Int)=>AV.agg [vI x.1,vI x.2.1,vI x.2.2.1,vI x.2.2.2])) (l:=x5) (n:=p3) (w:=4) (ob:=4) (c:=0) (bx:=false) (ro:=false) (nr:=true) (fl:=true) (a:=a7) kr kr q8 gE) <| hrt 3
theorem Qfg (p0:Int) (p1:Int):Ct Try.prog 84 [.int .u64 p0,.int .u64 p1] (Ko p0 p1) (fun x=>.int .u64 x) (fun x=>[]):=by
 refine hfn [] Try.func84 <| hlp 1 (fun s1=>⟨[(0,.int .u64 s1.1),(1,.int .u64 s1.2)],[],12⟩) (fun v=>(.exit 0,⟨[(0,.int .u64 v)],[],12⟩)) (wz []) (fun s1=>?_) fun x5=>?_
 ·refine hbr 2 [6] (hoh 5 (fun _ _ h k=>Kk (k:=.u64) (a:=s1.1) (b:=s1.2) kr gE h k) <| hnx 2 (wz [])) <| ?_
  refine hdx 1 (wz [])
 refine hrt 3
theorem g_frac_size_ok (p0:Int):Ct Try.prog 85 [vI p0] (X9 p0) (fun x=>.int .u64 x) (fun x=>[]):=by
 refine hfn [] Try.func85 <| hbr 3 [4] (hrt 6) <| ?_
 refine hrt 5
theorem g_frac_Check_ok (p0:Tapi_Q):Ct Try.prog 81 [.agg [vI p0.N,vI p0.D]] (J2 p0) (fun x=>vI x) (fun x=>[]):=by
 refine hfn [] Try.func81 <| hbr 6 [5,6] (hrt 17) <| ?_
 refine hbr 5 [9,10,11] (hrt 12) <| ?_
 refine hbr 5 [14,15,16] (hrt 7) <| ?_
 refine hbr 4 [19,20] (hrt 3) <| ?_
 refine hcl 4 [] (g_frac_size_ok p0.N) fun x9 _=>hcl 3 [] (Qfg x9 (zv (p0.D))) fun x11 _=>hbr 1 [28] (hrt 3) <| ?_
 refine hrt 3
theorem Ky (p0:Tapi_Q):Ct Try.prog 49 [.agg [vI p0.N,vI p0.D]] (Xw p0) (fun x=>vI x) (fun x=>[]):=by
 refine hfn [] Try.func49 <| hcl 3 [] (g_frac_Check_ok p0) fun x1 _=>hbr 3 [7] (hrt 4) <| ?_
 refine hbr 5 [11,12] (hrt 12) <| ?_
 refine hbr 5 [15,16,17] (hrt 7) <| ?_
 refine hbr 4 [20,21] (hrt 3) <| ?_
 refine hrt 3
theorem Kw (p0:Qc) (p1:Tapi_Shift):Ct Try.prog 50 [.agg [vI p0.Grain,eL false eTapi_Node p0.Nodes],.agg [vI p1.Node,vI p1.Row,vI p1.From,vI p1.To]] (Yy p0 p1) (fun x=>.tup [vI x.1,vI x.2]) (fun x=>[]):=by
 refine hfn [] Try.func50 <| hop 0 (fun _=>sgL false [] [] false gE) <| hbd fun a1 q2=>hop 8 (fun _=>Ql (enc:=eTapi_Node) (l:=p0.Nodes) (n:=p1.Node) (fl:=false) (w:=3) (a:=a1) kr kr gE q2) <| hbd fun a3 q4=>hop 4 (fun _=>Ql (enc:=z1) (l:=a1.Rows) (n:=p1.Row) (fl:=false) (w:=1) (a:=a3) kr kr gE q4) <| hbd fun a5 q6=>hop 6 (fun _=>Ql (enc:=eI) (l:=a3) (n:=p1.To) (fl:=true) (w:=1) (a:=a5) kr kr gE q6) <| hbd fun a7 q8=>?_
 refine hop 5 (fun _=>Ql (enc:=eI) (l:=a3) (n:=p1.From) (fl:=true) (w:=1) (a:=a7) kr kr gE q8) <| hrt 4
theorem g_frac_fit_ok (p0:Bool) (p1:(Int × Int)) (p2:(Int × Int)):Ct Try.prog 86 [vB p0,.agg [.int .u64 p1.1,.int .u64 p1.2],.agg [.int .u64 p2.1,.int .u64 p2.2]] (Qis p0 p1 p2) (fun x=>.agg [vI x.N,vI x.D]) (fun x=>[]):=by
 refine hfn [] Try.func86 <| hbr 7 [9,10] (hnn) <| ?_
 refine hbr 5 [13,14,15] (hnn) <| ?_
 refine hbr 5 [18,19,20] (hnn) <| ?_
 refine hbr 4 [23,24] (hnn) <| ?_
 refine hbr 2 [0,27] (hrt 11) <| ?_
 refine hrt 10
theorem Qi3 (c0:Int) (c1:Int):Ct Try.prog 83 [.fz [vI c0],.fz [vI c1]] (Qbp c0 c1) (fun x=>.agg [vI x.N,vI x.D]) (fun x=>[]):=by
 refine hfn [] Try.func83 <| hcl 3 [] (g_frac_size_ok c0) fun x1 _=>hcl 1 [] (g_frac_size_ok c1) fun x3 _=>hcl 0 [] (Qfg x1 x3) fun x5 _=>hcl 8 [] (g_frac_size_ok c0) fun x7 _=>hoh 1 (fun _ _ h k=>Qvl (k:=.u64) (a:=x7) (b:=x5) kr gE h k) <| hcl 2 [] (g_frac_size_ok c1) fun x9 _=>hoh 1 (fun _ _ h k=>Qvl (k:=.u64) (a:=x9) (b:=x5) kr gE h k) <| hcl 1 [] (g_frac_fit_ok (!((decide (c0 < 0))==(decide (c1 < 0)))) (0,zv (Int.tdiv x7 x5)) (0,zv (Int.tdiv x9 x5))) fun x11 _=>?_
 refine hrt 2
theorem g_frac_Make_ok (p0:Int) (p1:Int):Ct Try.prog 51 [vI p0,vI p1] (Jy p0 p1) (fun x=>.tup [.agg [vI x.1.N,vI x.1.D],vI x.2]) (fun x=>[]):=by
 refine hfn [] Try.func51 <| hbr 6 [7] (hrt 5) <| ?_
 refine hcl 2 [] (us:=[.fn (.func 83) [] [.fz [vI p0],.fz [vI p1]]]) (rv:=fun x3=>.tup [.agg [vI x3.N,vI x3.D],vI 0]) (ro:=fun x3=>[]) (fun x3 q4=>Qyi Qys Try.func83 rfl (by decide +kernel) (Qi3 p0 p1 x3 q4)) fun x3 _=>hrt 5
theorem g_sensitive_At_ok (p0:Qc) (p1:(List Int)) (p2:Int) (p3:Int) (p4:Tapi_Shift) (p5:Tapi_Q):Ct Try.prog 16 [.agg [vI p0.Grain,eL false eTapi_Node p0.Nodes],z1 p1,vI p2,vI p3,.agg [vI p4.Node,vI p4.Row,vI p4.From,vI p4.To],.agg [vI p5.N,vI p5.D]] (X1 p0 p1 p2 p3 p4 p5) (fun x=>.tup [.agg [vI x.1.N,vI x.1.D],vI x.2]) (fun x=>[]):=by
 refine hfn [] Try.func16 <| hop 0 (fun _=>sgL false [] [] false gE) <| hcl 9 [] (g_sensitive_Line_ok p0 p1 p2 p3 p4) fun x1 _=>hbr 8 [30] (hrt 6) <| ?_
 refine hcl 2 [] (Ky p5) fun x5 _=>hbr 3 [36] (hrt 6) <| ?_
 refine hcl 3 [] (Kw p0 p4) fun x9 _=>hbr 13 [51,52] (hrt 13) <| ?_
 refine hbr 8 [59,60] (hrt 5) <| ?_
 refine hbr 15 [74] (hrt 5) <| ?_
 refine hcl 13 [] (g_frac_Make_ok (zw ((zw (x1.1.1*p5.D))+(zw (x1.1.2.1*p5.N)))) (zw ((zw (x1.1.2.2.1*p5.D))+(zw (x1.1.2.2.2*p5.N))))) fun x17 _=>hrt 5
theorem g_law24_rain_ok  : Ct Try.prog 31 [] (Qac) (fun x=>.agg [vI x.Grain,.ref 0 0 x.Nodes.length]) (fun x=>[oR false 3 eTapi_Node x.Nodes]):=by
 refine hfn [] Try.func31 <| hop 0 (fun _=>sgL false [] [] false gE) <| hop 0 (fun _=>sgL false [] [] true gE) <| hbs 0 [.lst true] false [] <| hop 1 (fun _=>sgL false [] [] true gE) <| hop 0 (fun _=>sgL false [] [] true gE) <| hop 0 (fun _=>sgL false [] [] true gE) <| hbs 0 [.lst true] false [] <| hbs 1 [.keep,.lst true,.lst false] false [] <| ?_
 refine hrt 3
theorem Qd3 (p0:Int) (p1:Int) (p2:Int):Ct Try.prog 53 [vI p0,vI p1,vI p2] (Qed p0 p1 p2) (fun x=>vB x) (fun x=>[]):=by
 refine hfn [] Try.func53 <| hcl 1 [] (g_law24_rain_ok ) fun x1 _=>hop 0 (fun _=>sgL false [] [] true gE) <| hcl 3 [F eTapi_Node x1.Nodes] (g_sensitive_At_ok x1 [-1,1] 0 1 (Tapi_Shift.mk 0 0 0 1) (Tapi_Q.mk p0 1)) fun x3 _=>hbr 9 [19,20] (hrt 8) <| ?_
 refine hrt 8
theorem g_math_bits_Mul64_ok (p0:Int) (p1:Int):Ct Try.prog 115 [.int .u64 p0,.int .u64 p1] (Qd9 p0 p1) (fun x=>.tup [.int .u64 x.1,.int .u64 x.2]) (fun x=>[]):=by
 refine hfn [] Try.func115 <| hrt 51
theorem Qf2 (p0:Int) (p1:Int):Ct Try.prog 104 [.int .u64 p0,.int .u64 p1] (Qfc p0 p1) (fun x=>.agg [.int .u64 x.1,.int .u64 x.2]) (fun x=>[]):=by
 refine hfn [] Try.func104 <| hcl 3 [] (g_math_bits_Mul64_ok p0 p1) fun x1 _=>hrt 10
theorem Qoa (p0:(Int × Int)) (p1:(Int × Int)):Ct Try.prog 105 [.agg [.int .u64 p0.1,.int .u64 p0.2],.agg [.int .u64 p1.1,.int .u64 p1.2]] (Qlg p0 p1) (fun x=>vB x) (fun x=>[]):=by
 refine hfn [] Try.func105 <| hbr 9 [9,10] (hrt 15) <| ?_
 refine hbr 6 [15,16] (hrt 9) <| ?_
 refine hrt 9
theorem g_frac_Cmp_1_ok (p0:Tapi_Q) (p1:Tapi_Q):Ct Try.prog 103 [.agg [vI p0.N,vI p0.D],.agg [vI p1.N,vI p1.D]] (Qka p0 p1) (fun x=>vI x) (fun x=>[]):=by
 refine hfn [] Try.func103 <| hcl 6 [] (g_frac_size_ok p0.N) fun x1 _=>hcl 3 [] (Qf2 x1 (zv (p1.D))) fun x3 _=>hcl 2 [] (g_frac_size_ok p1.N) fun x5 _=>hcl 3 [] (Qf2 x5 (zv (p0.D))) fun x7 _=>hbr 12 [28,21] (?_) ?_
 ·refine hbr 4 [24,31] (hrt 3) <| ?_
  refine hrt 3
 refine hbr 5 [35,32] (hrt 3) <| ?_
 refine hcl 4 [] (Qoa (x3.1,x3.2) (x7.1,x7.2)) fun x15 _=>hbr 5 [43,36] (hrt 3) <| ?_
 refine hrt 3
theorem Qfo (c0:Int) (c1:Int) (c2:Int) (c3:Int):Ct Try.prog 114 [.fz [.fn (.func 103) [] []],.fz [vI c0,vI c1],.fz [vI c2,vI c3]] (Qcy c0 c1 c2 c3) (fun x=>vI x) (fun x=>[]):=by
 refine hfn [] Try.func114 <| hcl 4 [] (g_frac_Cmp_1_ok (Tapi_Q.mk c0 c1) (Tapi_Q.mk c2 c3)) fun x1 _=>hrt 2
theorem g_frac_Cmp_ok (p0:Tapi_Q) (p1:Tapi_Q):Ct Try.prog 89 [.agg [vI p0.N,vI p0.D],.agg [vI p1.N,vI p1.D]] (Qmw p0 p1) (fun x=>.tup [vI x.1,vI x.2]) (fun x=>[]):=by
 refine hfn [] Try.func89 <| hil 6 Try.func102 <| hop 2 (fun _=>sgL false [] [] false gE) <| hcl 3 [] (g_frac_Check_ok p0) fun x1 _=>hbr 2 [11,12] (hrt 15) <| ?_
 refine hcl 1 [] (g_frac_Check_ok p1) fun x5 _=>hbr 2 [15,16] (hrt 11) <| ?_
 refine hcl 2 [] (us:=[.fn (.func 114) [] [.fz [.fn (.func 103) [] []],.fz [vI p0.N,vI p0.D],.fz [vI p1.N,vI p1.D]]]) (rv:=fun x9=>.tup [vI x9,vI 0]) (ro:=fun x9=>[]) (fun x9 q10=>Qwh Qww Try.func114 rfl (by decide +kernel) (Qfo p0.N p0.D p1.N p1.D x9 q10)) fun x9 _=>hrt 10
theorem g_sensitive_less_ok (p0:Tapi_Q) (p1:Tapi_Q):Ct Try.prog 60 [.agg [vI p0.N,vI p0.D],.agg [vI p1.N,vI p1.D]] (Vy p0 p1) (fun x=>vB x) (fun x=>[]):=by
 refine hfn [] Try.func60 <| hcl 5 [] (g_frac_Cmp_ok p0 p1) fun x1 _=>hrt 9
theorem Qgh (p0:Tapi_Q) (p1:Int) (p2:Int):Ct Try.prog 56 [.agg [vI p0.N,vI p0.D],vI p1,vI p2] (Qc3 p0 p1 p2) (fun x=>vB x) (fun x=>[]):=by
 refine hfn [] Try.func56 <| hcl 5 [] (g_sensitive_less_ok p0 (Tapi_Q.mk p1 1)) fun x1 _=>hbr 2 [11,12] (hcl 3 [] (g_sensitive_less_ok (Tapi_Q.mk p2 1) p0) fun x5 _=>hrt 4) <| ?_
 refine hrt 8
theorem Qfm (p0:(Int × Int × Int × Int)) (p1:Tapi_Q) (p2:Int) (p3:Int):Ct Try.prog 57 [.agg [vI p0.1,vI p0.2.1,vI p0.2.2.1,vI p0.2.2.2],.agg [vI p1.N,vI p1.D],vI p2,vI p3] (Qcv p0 p1 p2 p3) (fun x=>vB x) (fun x=>[]):=by
 refine hfn [] Try.func57 <| hbr 7 [11,12] (?_) ?_
 ·refine hbr 4 [15,16] (hrt 3) <| ?_
  refine hbr 5 [19,20] (?_) ?_
  ·refine hbr 5 [24,25] (hrt 18) <| ?_
   refine hbr 6 [29,30,31] (hrt 12) <| ?_
   refine hrt 3
  refine hrt 14
 refine hbr 9 [19,20] (?_) ?_
 ·refine hbr 5 [24,25] (hrt 18) <| ?_
  refine hbr 6 [29,30,31] (hrt 12) <| ?_
  refine hrt 3
 refine hrt 14
theorem Qfl (p0:Qc) (p1:(List Int)) (p2:Int) (p3:Int) (p4:Tapi_Shift) (p5:Tapi_Q):Ct Try.prog 21 [.agg [vI p0.Grain,eL false eTapi_Node p0.Nodes],z1 p1,vI p2,vI p3,.agg [vI p4.Node,vI p4.Row,vI p4.From,vI p4.To],.agg [vI p5.N,vI p5.D]] (Qbx p0 p1 p2 p3 p4 p5) (fun x=>.tup [.agg [vI x.1.N,vI x.1.D],vI x.2]) (fun x=>[]):=by
 refine hfn [] Try.func21 <| hop 0 (fun _=>sgL false [] [] false gE) <| hcl 9 [] (g_sensitive_Line_ok p0 p1 p2 p3 p4) fun x1 _=>hbr 8 [32] (hrt 6) <| ?_
 refine hcl 2 [] (Ky p5) fun x5 _=>hbr 3 [38] (hrt 6) <| ?_
 refine hbr 5 [43,44] (hrt 11) <| ?_
 refine hbr 6 [49,50] (hrt 5) <| ?_
 refine hcl 3 [] (Kw p0 p4) fun x13 _=>hbr 31 [81] (?_) ?_
 ·refine hbr 4 [83,84] (hrt 14) <| ?_
  refine hbr 5 [87,88,89] (hrt 9) <| ?_
  refine hbr 4 [92,93] (hrt 5) <| ?_
  refine hrt 5
 refine hcl 3 [] (g_frac_Make_ok (zw ((zw (x1.1.2.2.1*p5.N)) - (zw (x1.1.1*p5.D)))) (zw ((zw (x1.1.2.1*p5.D)) - (zw (x1.1.2.2.2*p5.N))))) fun x23 _=>hbr 8 [103] (hrt 6) <| ?_
 refine hcl 4 [] (Qgh x23.1 x13.1 x13.2) fun x27 _=>hbr 2 [110,111] (hrt 12) <| ?_
 refine hcl 4 [] (Qfm (x1.1.1,x1.1.2.1,x1.1.2.2.1,x1.1.2.2.2) x23.1 x13.1 x13.2) fun x31 _=>hbr 2 [117,118] (hrt 5) <| ?_
 refine hrt 5
theorem g_law24_threshold_ok (p0:(List Int)) (p1:Tapi_Shift) (p2:Tapi_Q) (p3:Tapi_Q) (p4:Int):Ct Try.prog 54 [z1 p0,.agg [vI p1.Node,vI p1.Row,vI p1.From,vI p1.To],.agg [vI p2.N,vI p2.D],.agg [vI p3.N,vI p3.D],vI p4] (Yn p0 p1 p2 p3 p4) (fun x=>vB x) (fun x=>[]):=by
 refine hfn [] Try.func54 <| hcl 5 [] (us:=[]) (rv:=fun x1=>.agg [vI x1.Grain,eL false eTapi_Node x1.Nodes]) (ro:=fun x1=>[]) (fun x1 q2=>Q0.froz (g_law24_rain_ok  x1 q2) (K6 (Qy rfl (Qy (Yo (w:=3) (bx:=false) (ro:=false) (enc:=eTapi_Node) (l:=x1.Nodes) (fl:=false) rfl) Y6 (by rfl)) (by rfl)))) fun x1 _=>hcl 3 [] (Qfl x1 p0 0 1 p1 p2) fun x3 _=>hbr 10 [23,24] (hrt 6) <| ?_
 refine hrt 6
end
section
attribute [local irreducible] RW WP
noncomputable abbrev Qnl:AObj:=oX true true 2 (.agg [vI 0,vI 0])
noncomputable abbrev Qmt (x5:(List (Int × Int × Int × Int))):AObj:=oR true 4 (fun x:(Int × Int × Int × Int)=>AV.agg [vI x.1,vI x.2.1,vI x.2.2.1,vI x.2.2.2]) x5
noncomputable abbrev Qx5:AObj:=.loop 91 [(8,.ptr 0 0 0),(9,.ptr 1 0 0),(71,.fn (.func 88) [] [.ptr 2 0 0,.ptr 3 0 0])] [72,73] (cA Try.f23 [true,true,true,true,true,true,true,true,false,true,true]) (cB Try.f23 [true,true,true,true,true,true,true,true,false,true,true]) .ready none
theorem Qi5 (p0:Qc) (p1:(List Int)) (p2:Int) (p3:Tapi_Shift):Ct Try.prog 23 [.agg [vI p0.Grain,eL false eTapi_Node p0.Nodes],z1 p1,vI p2,.agg [vI p3.Node,vI p3.Row,vI p3.From,vI p3.To]] (Qfd p0 p1 p2 p3) (fun x=>.tup [.agg [vI x.1.N,vI x.1.D],.agg [vI x.2.1.N,vI x.2.1.D],vI x.2.2]) (fun x=>[]):=by
 refine hfn [] Try.func23 <| hop 0 (fun _=>sgL false [] [] false gE) <| hcl 8 [] (us:=[.agg [vI p0.Grain,eL false eTapi_Node p0.Nodes],z1 p1,vI p2,.agg [vI p3.Node,vI p3.Row,vI p3.From,vI p3.To],.nils]) (rv:=fun x1=>vI x1) (ro:=fun x1=>[]) (fun x1 q2=>Q0.args [[.keep,.keep],[.keep],[.keep],[.keep,.keep,.keep,.keep],[.lst true]] (g_sensitive_check_ok p0 p1 p2 p3 [] x1 q2)) fun x1 _=>hbr 3 [26] (hrt 8) <| ?_
 refine hcl 5 [] (Qcj p0 p1 p2 p3) fun x5 _=>hbd fun a7 q8=>hop 2 (fun _=>Qv (enc:=(fun x:(Int × Int × Int × Int)=>AV.agg [vI x.1,vI x.2.1,vI x.2.2.1,vI x.2.2.2])) (l:=x5) (n:=0) (w:=4) (ob:=4) (ro:=false) (nr:=true) (fl:=true) (a:=a7) kr kr gE q8) <| hop 1 (fun _=>Zi (enc:=(fun x:(Int × Int × Int × Int)=>AV.agg [vI x.1,vI x.2.1,vI x.2.2.1,vI x.2.2.2])) (l:=x5) (n:=0) (w:=4) (ob:=4) (c:=2) (bx:=false) (ro:=false) (nr:=true) (fl:=true) (a:=a7) kr kr q8 gE) <| hbr 1 [39] (hrt 7) <| ?_
 refine hlp 5 (fun s11=>⟨[(4,.ptr 0 0 0),(7,.ptr 1 0 0),(8,.ptr 2 0 0),(9,.ptr 3 0 0),(12,.ref 4 0 x5.length),(13,vI s11.1),(42,.ref 4 0 x5.length),(43,vI (zn x5)),(44,vI s11.2)],[oX true false 2 (.agg [vI p0.Grain,eL false eTapi_Node p0.Nodes]),oX true true 4 (.agg [vI p3.Node,vI p3.Row,vI p3.From,vI p3.To]),Qnl,Qnl,(Qmt x5)],91⟩) (fun v=>(.exit 0,⟨[(4,.ptr 0 0 0),(7,.ptr 1 0 0),(8,.ptr 2 0 0),(9,.ptr 3 0 0),(12,.ref 4 0 x5.length),(13,vI v)],[oX true false 2 (.agg [vI p0.Grain,eL false eTapi_Node p0.Nodes]),oX true true 4 (.agg [vI p3.Node,vI p3.Row,vI p3.From,vI p3.To]),Qnl,Qnl,(Qmt x5)],91⟩)) (wz [0,1,2,3,4]) (fun s11=>?_) fun x21=>?_
 ·refine hbr 1 [45] (?_) ?_
  ·refine hbd fun a14 q15=>hop 2 (fun _=>Qv (enc:=(fun x:(Int × Int × Int × Int)=>AV.agg [vI x.1,vI x.2.1,vI x.2.2.1,vI x.2.2.2])) (l:=x5) (n:=s11.2) (w:=4) (ob:=4) (ro:=false) (nr:=true) (fl:=true) (a:=a14) kr kr gE q15) <| hop 0 (fun _=>Zi (enc:=(fun x:(Int × Int × Int × Int)=>AV.agg [vI x.1,vI x.2.1,vI x.2.2.1,vI x.2.2.2])) (l:=x5) (n:=s11.2) (w:=4) (ob:=4) (c:=0) (bx:=false) (ro:=false) (nr:=true) (fl:=true) (a:=a14) kr kr q15 gE) <| hbd fun a16 q17=>hop 8 (fun _=>Qv (enc:=(fun x:(Int × Int × Int × Int)=>AV.agg [vI x.1,vI x.2.1,vI x.2.2.1,vI x.2.2.2])) (l:=x5) (n:=s11.1) (w:=4) (ob:=4) (ro:=false) (nr:=true) (fl:=true) (a:=a16) kr kr gE q17) <| hop 1 (fun _=>Zi (enc:=(fun x:(Int × Int × Int × Int)=>AV.agg [vI x.1,vI x.2.1,vI x.2.2.1,vI x.2.2.2])) (l:=x5) (n:=s11.1) (w:=4) (ob:=4) (c:=0) (bx:=false) (ro:=false) (nr:=true) (fl:=true) (a:=a16) kr kr q17 gE) <| hbr 1 [56] (hnx 5 (wz [0,1,2,3,4])) <| ?_
   refine hnx 3 (wz [0,1,2,3,4])
  refine hdx 1 (wz [0,1,2,3,4])
 refine hcl 2 [] (Kw p0 p3) fun x22 _=>hil 13 Try.func59 <| hop 0 (fun _=>sgL false [] [] false gE) <| hwk 4 (wl [4] [5,6]) <| hwk 1 (wl [8,9,71] [2,3,5,6,4]) <| hrg 0 Try.func88 <| hlp 3 (fun s24=>⟨[(0,.yld 5),(1,.ptr 2 0 0),(2,.ptr 3 0 0),(10,.ref 4 0 x5.length),(11,vI (zn x5)),(12,vI s24.1)],[oX true true 2 (.agg [vI s24.2.1,vI s24.2.2.1]),oX true true 2 (.agg [vI s24.2.2.2.1,vI s24.2.2.2.2]),oX false false 1 (.ref 4 0 x5.length),oX true true 1 (vI x21),(Qmt x5),Qx5],50⟩) (fun v=>(.exit 0,⟨[],[oX true true 2 (.agg [vI v.1,vI v.2.1]),oX true true 2 (.agg [vI v.2.2.1,vI v.2.2.2]),oX false false 1 (.ref 4 0 x5.length),oX true true 1 (vI x21),(Qmt x5),Qx5],50⟩)) (wz []) (fun s24=>?_) fun x48=>?_
 ·refine hbr 1 [13] (?_) ?_
  ·refine hbd fun a27 q28=>hop 1 (fun _=>Qv (enc:=(fun x:(Int × Int × Int × Int)=>AV.agg [vI x.1,vI x.2.1,vI x.2.2.1,vI x.2.2.2])) (l:=x5) (n:=s24.1) (w:=4) (ob:=4) (ro:=false) (nr:=true) (fl:=true) (a:=a27) kr kr gE q28) <| hop 0 (fun _=>Zi (enc:=(fun x:(Int × Int × Int × Int)=>AV.agg [vI x.1,vI x.2.1,vI x.2.2.1,vI x.2.2.2])) (l:=x5) (n:=s24.1) (w:=4) (ob:=4) (c:=0) (bx:=false) (ro:=false) (nr:=true) (fl:=true) (a:=a27) kr kr q28 gE) <| hbd fun a29 q30=>hop 5 (fun _=>Qv (enc:=(fun x:(Int × Int × Int × Int)=>AV.agg [vI x.1,vI x.2.1,vI x.2.2.1,vI x.2.2.2])) (l:=x5) (n:=x21) (w:=4) (ob:=4) (ro:=false) (nr:=true) (fl:=true) (a:=a29) kr kr gE q30) <| hop 1 (fun _=>Zi (enc:=(fun x:(Int × Int × Int × Int)=>AV.agg [vI x.1,vI x.2.1,vI x.2.2.1,vI x.2.2.2])) (l:=x5) (n:=x21) (w:=4) (ob:=4) (c:=0) (bx:=false) (ro:=false) (nr:=true) (fl:=true) (a:=a29) kr kr q30 gE) <| hop 7 (fun _=>Qv (enc:=(fun x:(Int × Int × Int × Int)=>AV.agg [vI x.1,vI x.2.1,vI x.2.2.1,vI x.2.2.2])) (l:=x5) (n:=x21) (w:=4) (ob:=4) (ro:=false) (nr:=true) (fl:=true) (a:=a29) kr kr gE q30) <| hop 1 (fun _=>Zi (enc:=(fun x:(Int × Int × Int × Int)=>AV.agg [vI x.1,vI x.2.1,vI x.2.2.1,vI x.2.2.2])) (l:=x5) (n:=x21) (w:=4) (ob:=4) (c:=1) (bx:=false) (ro:=false) (nr:=true) (fl:=true) (a:=a29) kr kr q30 gE) <| hbr 6 [33] (hwk 1 (wl [0,1,2,10,11,12] []) <| hnx 3 (wz [])) <| ?_
   refine hcl 4 [] (g_frac_Make_ok (zw (0 - (zw (a29.1 - a27.1)))) (zw (a29.2.1 - a27.2.1))) fun x33 _=>hbr 8 [42] (hwk 1 (wl [0,1,2,10,11,12] []) <| hnx 3 (wz [])) <| ?_
   refine hyl 5 <| hbr 5 [72,18,74,75] (?_) ?_
   ·refine hcl 2 [] (g_sensitive_less_ok x33.1 (Tapi_Q.mk s24.2.2.2.1 s24.2.2.2.2)) fun x39 _=>hbr 1 [78,79] (hnx 15 (wz [])) <| ?_
    refine hnx 13 (wz [])
   refine hcl 10 [] (g_sensitive_less_ok (Tapi_Q.mk s24.2.1 s24.2.2.1) x33.1) fun x43 _=>hbr 1 [86,87] (hnx 7 (wz [])) <| ?_
   refine hnx 5 (wz [])
  refine hdx 1 (wz [])
 refine hrt 7
theorem g_law24_stay_ok (p0:(List Int)) (p1:Int) (p2:Int):Ct Try.prog 55 [z1 p0,vI p1,vI p2] (Qfj p0 p1 p2) (fun x=>vB x) (fun x=>[]):=by
 refine hfn [] Try.func55 <| hcl 1 [] (g_law24_rain_ok ) fun x1 _=>hcl 2 [F eTapi_Node x1.Nodes] (Qi5 x1 p0 0 (Tapi_Shift.mk 0 0 0 1)) fun x3 _=>hbr 12 [19,20] (?_) ?_
 ·refine hbr 6 [24,25,26] (hrt 7) <| ?_
  refine hrt 7
 refine hrt 13
theorem g_law24_works_ok  : Ct Try.prog 20 [] (Qd4) (fun x=>vB x) (fun x=>[]):=by
 refine hfn [] Try.func20 <| hcl 1 [] (g_law24_rain_ok ) fun x1 _=>hop 0 (fun _=>sgL false [] [] true gE) <| hop 0 (fun _=>sgL false [] [] false gE) <| hcl 11 [F eTapi_Node x1.Nodes] (g_sensitive_Line_ok x1 [-1,1] 0 1 (Tapi_Shift.mk 0 0 0 1)) fun x3 _=>hcl 9 [F eTapi_Node x1.Nodes] (g_sensitive_Line_ok x1 [-1,1] 0 1 (Tapi_Shift.mk 1 1 1 0)) fun x5 _=>hcl 10 [F eTapi_Node x1.Nodes] (g_sensitive_At_ok x1 [-1,1] 0 1 (Tapi_Shift.mk 0 0 0 1) (Tapi_Q.mk 8 1)) fun x7 _=>hop 7 (fun _=>sgL false [] [] true gE) <| hcl 1 [F eTapi_Node x1.Nodes] (g_sensitive_Line_ok x1 [2,0] 0 1 (Tapi_Shift.mk 0 0 0 1)) fun x9 _=>?_
 refine hcl 9 [F eTapi_Node x1.Nodes] (g_sensitive_Line_ok x1 [-1,1] 2 0 (Tapi_Shift.mk 0 0 0 1)) fun x11 _=>hcl 9 [F eTapi_Node x1.Nodes] (g_sensitive_Line_ok x1 [-1,1] 0 1 (Tapi_Shift.mk 0 0 0 0)) fun x13 _=>hcl 10 [F eTapi_Node x1.Nodes] (g_sensitive_At_ok x1 [-1,1] 0 1 (Tapi_Shift.mk 0 0 0 1) (Tapi_Q.mk 2 4)) fun x15 _=>hcl 10 [F eTapi_Node x1.Nodes] (g_sensitive_At_ok x1 [-1,1] 0 1 (Tapi_Shift.mk 0 0 0 1) (Tapi_Q.mk 1 2000)) fun x17 _=>hbr 13 [89,90] (?_) ?_
 ·refine hbr 4 [92,93,94] (?_) ?_
  ·refine hbr 5 [97,98,99] (?_) ?_
   ·refine hbr 4 [101,102,103] (?_) ?_
    ·refine hbr 4 [105,106,107] (?_) ?_
     ·refine hbr 4 [109,110,111] (?_) ?_
      ·refine hbr 4 [113,114,115] (?_) ?_
       ·refine hbr 4 [117,118,119] (?_) ?_
        ·refine hbr 4 [121,122,123] (?_) ?_
         ·refine hbr 4 [125,126,127] (?_) ?_
          ·refine hcl 0 [] (Qd3 0 12 19) fun x39 _=>hbr 2 [128,129,130] (?_) ?_
           ·refine hcl 0 [] (Qd3 1 8 11) fun x43 _=>hbr 2 [131,132,133] (?_) ?_
            ·refine hcl 0 [] (Qd3 7 1 1) fun x47 _=>hbr 4 [134,135,22,136,137] (?_) ?_
             ·refine hcl 4 [] (g_law24_threshold_ok [-1,1] (Tapi_Shift.mk 0 0 0 1) (Tapi_Q.mk 1 2) (Tapi_Q.mk (-1) 1) 0) fun x51 _=>hbr 2 [142,143,144] (?_) ?_
              ·refine hcl 1 [] (g_law24_stay_ok [-1,1] (-1) 7) fun x55 _=>hbr 2 [146,147,148] (?_) ?_
               ·refine hop 0 (fun _=>sgL false [] [] true gE) <| hcl 0 [] (g_law24_stay_ok [-1,-1] (-3) 2) fun x59 _=>hbr 4 [22,150,151,152,153] (?_) ?_
                ·refine hcl 4 [] (g_law24_threshold_ok [-1,1] (Tapi_Shift.mk 0 0 0 1) (Tapi_Q.mk 0 1) (Tapi_Q.mk (-3) 1) 0) fun x63 _=>hbr 2 [158,159,160] (?_) ?_
                 ·refine hcl 4 [] (g_law24_threshold_ok [-1,1] (Tapi_Shift.mk 1 1 1 0) (Tapi_Q.mk 1 2) (Tapi_Q.mk 10 3) 0) fun x67 _=>hbr 2 [165,166,167] (?_) ?_
                  ·refine hop 0 (fun _=>sgL false [] [] true gE) <| hcl 3 [] (g_law24_threshold_ok [1,1] (Tapi_Shift.mk 0 0 0 1) (Tapi_Q.mk 1 1) (Tapi_Q.mk 0 0) 4) fun x71 _=>hbr 2 [172,173,174] (hcl 4 [] (g_law24_threshold_ok [-1,1] (Tapi_Shift.mk 1 1 1 0) (Tapi_Q.mk 3 4) (Tapi_Q.mk 0 0) 4) fun x75 _=>hrt 3) <| ?_
                   refine hrt 8
                  refine hrt 15
                 refine hrt 22
                refine hrt 29
               refine hrt 35
              refine hrt 39
             refine hrt 46
            refine hrt 51
           refine hrt 54
          refine hrt 57
         refine hrt 61
        refine hrt 65
       refine hrt 69
      refine hrt 73
     refine hrt 77
    refine hrt 81
   refine hrt 85
  refine hrt 90
 refine hrt 94
theorem g_ref02_At_ok (p0:(List Int)) (p1:(List Int)):Ct Try.prog 46 [z1 p0,z1 p1] (Qei p0 p1) (fun x=>.ref 0 0 x.length) (fun x=>[oR true 1 eI x]):=by
 refine hfn [] Try.func46 <| hlp 3 (fun s1=>⟨[(0,z1 p0),(1,z1 p1),(5,.ref 0 0 s1.2.length),(6,vI s1.1)],[oR true 1 eI s1.2],24⟩) (fun v=>(.exit 0,⟨[(5,.ref 0 0 v.length)],[oR true 1 eI v],24⟩)) (Q9 (Zy (live:=[0,1,5,6]) (keep:=[]) gE) (Q9 (Jh 5 1 true true gE) (Zy (live:=[0,1,5,6]) (keep:=[0]) kr))) (fun s1=>?_) fun x9=>?_
 ·refine hop 2 (fun _=>Za (enc:=eI) (l:=p1) (fl:=true) kr gE) <| hbr 1 [10] (?_) ?_
  ·refine hbd fun a4 q5=>hop 5 (fun _=>Ql (enc:=eI) (l:=p1) (n:=s1.1) (fl:=true) (w:=1) (a:=a4) kr kr gE q5) <| hbd fun a6 q7=>hop 1 (fun _=>Ql (enc:=eI) (l:=p0) (n:=a4) (fl:=true) (w:=1) (a:=a6) kr kr gE q7) <| hop 1 (fun _=>sgL false [] [] true gE) <| hoh 0 (fun _ _ h k=>Y9 (enc:=eI) (l:=s1.2) (m:=([a6]:(List Int))) (w:=1) (bytes:=8) (ob:=0) (nr:=true) (fl:=true) (nr':=true) (fl':=true) (b:=.ref 1 0 1) (rds:=[1]) false kr kr kr kr gE kr h k) <| hnx 4 (wz [2])
  refine hdx 1 (wz [0])
 refine hrt 3
theorem Qmc (p0:Qc):Ct Try.prog 78 [.agg [vI p0.Grain,eL false eTapi_Node p0.Nodes]] (Qa6 p0) (fun x=>.ref 0 0 x.length) (fun x=>[oR true 1 eI x]):=by
 refine hfn [] Try.func78 <| hop 0 (fun _=>sgL false [] [] false gE) <| hlp 3 (fun s1=>⟨[(1,.ptr 0 0 0),(3,.ref 1 0 s1.2.length),(4,vI s1.1)],[oX true false 2 (.agg [vI p0.Grain,eL false eTapi_Node p0.Nodes]),oR true 1 eI s1.2],22⟩) (fun v=>(.exit 0,⟨[(3,.ref 0 0 v.length)],[oR true 1 eI v],22⟩)) (Q9 (Zy (live:=[1,3,4]) (keep:=[0]) gE) (Q9 (Jh 3 1 true true gE) (Zy (live:=[1,3,4]) (keep:=[0,1]) kr))) (fun s1=>?_) fun x7=>?_
 ·refine hop 3 (fun _=>Za (enc:=eTapi_Node) (l:=p0.Nodes) (fl:=false) kr gE) <| hbr 1 [9] (?_) ?_
  ·refine hbd fun a4 q5=>hop 5 (fun _=>Ql (enc:=eTapi_Node) (l:=p0.Nodes) (n:=s1.1) (fl:=false) (w:=3) (a:=a4) kr kr gE q5) <| hop 2 (fun _=>sgL false [] [] true gE) <| hoh 0 (fun _ _ h k=>Y9 (enc:=eI) (l:=s1.2) (m:=([a4.Card]:(List Int))) (w:=1) (bytes:=8) (ob:=1) (nr:=true) (fl:=true) (nr':=true) (fl':=true) (b:=.ref 2 0 1) (rds:=[2]) false kr kr kr kr gE kr h k) <| hnx 4 (wz [0,3])
  refine hdx 1 (wz [1])
 refine hrt 3
theorem Qax (p0:Qc) (p1:Int):Ct Try.prog 45 [.agg [vI p0.Grain,eL false eTapi_Node p0.Nodes],vI p1] (Z4 p0 p1) (fun x=>.ref 0 0 x.length) (fun x=>[oR true 1 eI x]):=by
 refine hfn [] Try.func45 <| hop 0 (fun _=>sgL false [] [] false gE) <| hcl 3 [] (us:=[.agg [vI p0.Grain,eL false eTapi_Node p0.Nodes]]) (rv:=fun x1=>z1 x1) (ro:=fun x1=>[]) (fun x1 q2=>Q0.froz (Qmc p0 x1 q2) (Yo (w:=1) (bx:=false) (ro:=false) (enc:=eI) (l:=x1) (fl:=true) rfl)) fun x1 _=>hbd fun a3 q4=>hop 3 (fun _=>Ql (enc:=eTapi_Node) (l:=p0.Nodes) (n:=p1) (fl:=false) (w:=3) (a:=a3) kr kr gE q4) <| hcl 2 [] (g_ref02_At_ok x1 a3.Parents) fun x5 _=>hrt 2
theorem Qgl (p0:Tharuspexref02_Draft):Ct Try.prog 90 [.agg [eL true (AV.int .u8) p0.C,.int .u16 p0.Which,eL true (AV.int .u8) p0.Order]] (V3 p0) (fun x=>.ref 0 0 x.length) (fun x=>[oR true 1 eI x]):=by
 refine hfn [] Try.func90 <| hop 0 (fun _=>sgL false [] [] false gE) <| hlp 3 (fun s1=>⟨[(1,.ptr 0 0 0),(3,.ref 1 0 s1.2.length),(4,vI s1.1)],[oX true false 3 (.agg [eL true (AV.int .u8) p0.C,.int .u16 p0.Which,eL true (AV.int .u8) p0.Order]),oR true 1 eI s1.2],28⟩) (fun v=>(.exit 0,⟨[(3,.ref 0 0 v.length)],[oR true 1 eI v],28⟩)) (Q9 (Zy (live:=[1,3,4]) (keep:=[0]) gE) (Q9 (Jh 3 1 true true gE) (Zy (live:=[1,3,4]) (keep:=[0,1]) kr))) (fun s1=>?_) fun x9=>?_
 ·refine hop 3 (fun _=>Za (enc:=(AV.int .u8)) (l:=p0.C) (fl:=true) kr gE) <| hbr 2 [9,10] (?_) ?_
  ·refine hbr 3 [12,13] (?_) ?_
   ·refine hbd fun a6 q7=>hop 5 (fun _=>Ql (enc:=(AV.int .u8)) (l:=p0.C) (n:=s1.1) (fl:=true) (w:=1) (a:=a6) kr kr gE q7) <| hop 4 (fun _=>sgL false [] [] true gE) <| hoh 0 (fun _ _ h k=>Y9 (enc:=eI) (l:=s1.2) (m:=([zw (1+(zw (Int.tmod a6 4)))]:(List Int))) (w:=1) (bytes:=8) (ob:=1) (nr:=true) (fl:=true) (nr':=true) (fl':=true) (b:=.ref 2 0 1) (rds:=[2]) false kr kr kr kr gE kr h k) <| hnx 4 (wz [0,3])
   refine hdx 1 (wz [1])
  refine hdx 4 (wz [1])
 refine hrt 3
theorem g_ref02_Draft_Permutation_ok (p0:Tharuspexref02_Draft):Ct Try.prog 61 [.agg [eL true (AV.int .u8) p0.C,.int .u16 p0.Which,eL true (AV.int .u8) p0.Order]] (X6 p0) (fun x=>.ref 0 0 x.length) (fun x=>[oR true 1 eI x]):=by
 refine hfn [] Try.func61 <| hop 0 (fun _=>sgL false [] [] false gE) <| hlp 3 (fun s1=>⟨[(1,.ptr 0 0 0),(3,.ref 1 0 s1.2.length),(4,vI s1.1)],[oX true false 3 (.agg [eL true (AV.int .u8) p0.C,.int .u16 p0.Which,eL true (AV.int .u8) p0.Order]),oR true 1 eI s1.2],42⟩) (fun v=>(.exit 0,⟨[(3,.ref 0 0 v.length)],[oR true 1 eI v],42⟩)) (Q9 (Zy (live:=[1,3,4]) (keep:=[0]) gE) (Q9 (Jh 3 1 true true gE) (Zy (live:=[1,3,4]) (keep:=[0,1]) kr))) (fun s1=>?_) fun x15=>?_
 ·refine hcl 2 [] (Qgl p0) fun x2 _=>hbr 2 [11] (?_) ?_
  ·refine hop 5 (fun _=>Za (enc:=(AV.int .u8)) (l:=p0.Order) (fl:=true) kr gE) <| hbr 1 [18] (?_) ?_
   ·refine hbd fun a8 q9=>hop 4 (fun _=>Ql (enc:=(AV.int .u8)) (l:=p0.Order) (n:=s1.1) (fl:=true) (w:=1) (a:=a8) kr kr gE q9) <| hoh 4 (fun _ _ h k=>Kk (k:=.i64) (a:=zw (a8)) (b:=zw (s1.1+1)) kr gE h k) <| hoq 5 (fun _ _ h k=>Qmr (enc:=eI) (l:=s1.2) (ob:=1) (ro:=false) (nr:=true) (fl:=true) (lo:=none) (hi:=(some (vI (Int.tmod (zw (a8)) (zw (s1.1+1)))))) (a:=0) (b:=Int.tmod (zw (a8)) (zw (s1.1+1))) (w:=1) kr kr kr kr gE h k) fun q10=>hoh 0 (fun _ _ h k=>Qv6 (enc:=eI) (m:=(sub s1.2 0 (Int.tmod (zw (a8)) (zw (s1.1+1))))) (w:=1) (bytes:=8) (nr':=true) (fl':=true) (a:=.nils) (b:=.ref 1 0 (zt (Int.tmod (zw (a8)) (zw (s1.1+1))) - zt (0:Int))) (rds:=[1]) false kr (.inl rfl) (Qea (a:=0) (b:=Int.tmod (zw (a8)) (zw (s1.1+1))) (ro:=false) kr q10) kr gE kr h k) <| hop 1 (fun _=>sgL false [] [] true gE) <| hoh 0 (fun _ _ h k=>Y9 (enc:=eI) (l:=(sub s1.2 0 (Int.tmod (zw (a8)) (zw (s1.1+1))))) (m:=([s1.1]:(List Int))) (w:=1) (bytes:=8) (ob:=3) (nr:=true) (fl:=true) (nr':=true) (fl':=true) (b:=.ref 4 0 1) (rds:=[4]) false kr kr kr kr gE kr h k) <| hoq 4 (fun _ _ h k=>Qmr (enc:=eI) (l:=s1.2) (ob:=1) (ro:=false) (nr:=true) (fl:=true) (lo:=(some (vI (Int.tmod (zw (a8)) (zw (s1.1+1)))))) (hi:=none) (a:=Int.tmod (zw (a8)) (zw (s1.1+1))) (b:=(zn s1.2)) (w:=1) kr kr kr kr gE h k) fun q11=>hoh 0 (fun _ _ h k=>Y9 (enc:=eI) (l:=((sub s1.2 0 (Int.tmod (zw (a8)) (zw (s1.1+1))))++([s1.1]:(List Int)))) (m:=(sub s1.2 (Int.tmod (zw (a8)) (zw (s1.1+1))) (zn s1.2))) (w:=1) (bytes:=8) (ob:=5) (nr:=true) (fl:=true) (nr':=true) (fl':=true) (b:=.ref 1 (zt (Int.tmod (zw (a8)) (zw (s1.1+1)))) (zt (zn s1.2) - zt (Int.tmod (zw (a8)) (zw (s1.1+1))))) (rds:=[1]) false kr kr (Qea (a:=Int.tmod (zw (a8)) (zw (s1.1+1))) (b:=(zn s1.2)) (ro:=false) kr q11) kr gE kr h k) <| ?_
    refine hnx 4 (wz [0,6])
   refine hoq 5 (fun _ _ h k=>Qmr (enc:=eI) (l:=s1.2) (ob:=1) (ro:=false) (nr:=true) (fl:=true) (lo:=none) (hi:=(some (vI 0))) (a:=0) (b:=0) (w:=1) kr kr kr kr gE h k) fun q12=>hoh 0 (fun _ _ h k=>Qv6 (enc:=eI) (m:=(sub s1.2 0 0)) (w:=1) (bytes:=8) (nr':=true) (fl':=true) (a:=.nils) (b:=.ref 1 0 0) (rds:=[1]) false kr (.inl rfl) (Qea (a:=0) (b:=0) (ro:=false) kr q12) kr gE kr h k) <| hop 1 (fun _=>sgL false [] [] true gE) <| hoh 0 (fun _ _ h k=>Y9 (enc:=eI) (l:=(sub s1.2 0 0)) (m:=([s1.1]:(List Int))) (w:=1) (bytes:=8) (ob:=3) (nr:=true) (fl:=true) (nr':=true) (fl':=true) (b:=.ref 4 0 1) (rds:=[4]) false kr kr kr kr gE kr h k) <| hoq 4 (fun _ _ h k=>Qmr (enc:=eI) (l:=s1.2) (ob:=1) (ro:=false) (nr:=true) (fl:=true) (lo:=(some (vI 0))) (hi:=none) (a:=0) (b:=(zn s1.2)) (w:=1) kr kr kr kr gE h k) fun q13=>hoh 0 (fun _ _ h k=>Y9 (enc:=eI) (l:=((sub s1.2 0 0)++([s1.1]:(List Int)))) (m:=(sub s1.2 0 (zn s1.2))) (w:=1) (bytes:=8) (ob:=5) (nr:=true) (fl:=true) (nr':=true) (fl':=true) (b:=.ref 1 0 (zt (zn s1.2) - zt (0:Int))) (rds:=[1]) false kr kr (Qea (a:=0) (b:=(zn s1.2)) (ro:=false) kr q13) kr gE kr h k) <| hnx 4 (wz [0,6])
  refine hdx 1 (wz [1])
 refine hrt 3
theorem Qfq (p0:(List Int)):Ct Try.prog 62 [z1 p0] (Qaa p0) (fun x=>vI x) (fun x=>[]):=by
 refine hfn [] Try.func62 <| hlp 3 (fun s1=>⟨[(0,z1 p0),(3,vI s1.1),(4,vI s1.2)],[],18⟩) (fun v=>(.exit 0,⟨[(3,vI v)],[],18⟩)) (wz []) (fun s1=>?_) fun x7=>?_
 ·refine hop 2 (fun _=>Za (enc:=eI) (l:=p0) (fl:=true) kr gE) <| hbr 1 [8] (hbd fun a4 q5=>hop 4 (fun _=>Ql (enc:=eI) (l:=p0) (n:=s1.2) (fl:=true) (w:=1) (a:=a4) kr kr gE q5) <| hnx 6 (wz [])) <| ?_
  refine hdx 1 (wz [])
 refine hrt 3
theorem Qhm (p0:Int) (p1:Int) (p2:(List Int)) (p3:Int):Ct Try.prog 63 [vI p0,vI p1,eL true (AV.int .u8) p2,vI p3] (Qay p0 p1 p2 p3) (fun x=>.ref 0 0 x.length) (fun x=>[oR true 1 eI x]):=by
 refine hfn [] Try.func63 <| hoh 2 (fun _ _ h k=>mkL (enc:=eI) (z:=(0:Int)) (z0:=vI 0) (n:=p1) (m:=p1) (w:=1) (bytes:=8) [] true kr kr gE kr h k) <| hlp 3 (fun s1=>⟨[(0,vI p0),(1,vI p1),(2,eL true (AV.int .u8) p2),(3,vI p3),(9,.ref 0 0 s1.2.2.length),(10,vI s1.1),(11,vI s1.2.1)],[oR true 1 eI s1.2.2],84⟩) (fun v=>(.exit 0,⟨[(0,vI p0),(1,vI p1),(9,.ref 0 0 v.2.length),(10,vI v.1)],[oR true 1 eI v.2],84⟩)) (wz [0]) (fun s1=>?_) fun x14=>?_
 ·refine hbr 3 [19] (?_) ?_
  ·refine hop 2 (fun _=>Za (enc:=(AV.int .u8)) (l:=p2) (fl:=true) kr gE) <| hbr 1 [24] (?_) ?_
   ·refine hop 8 (fun _=>Za (enc:=(AV.int .u8)) (l:=p2) (fl:=true) kr gE) <| hoh 0 (fun _ _ h k=>Kk (k:=.i64) (a:=zw (p3+s1.2.1)) (b:=(zn p2)) kr gE h k) <| hbd fun a6 q7=>hop 0 (fun _=>Ql (enc:=(AV.int .u8)) (l:=p2) (n:=Int.tmod (zw (p3+s1.2.1)) (zn p2)) (fl:=true) (w:=1) (a:=a6) kr kr gE q7) <| hbd fun a8 q9=>hop 3 (fun _=>Qv (enc:=eI) (l:=s1.2.2) (n:=s1.2.1) (w:=1) (ob:=0) (ro:=false) (nr:=true) (fl:=true) (a:=a8) kr kr gE q9) <| hop 0 (fun _=>Xm (enc:=eI) (l:=s1.2.2) (n:=s1.2.1) (ob:=0) (w:=1) (bx:=false) (nr:=true) (fl:=true) (c:=0) (a:=a8) (a':=zw (Int.tmod a6 8)) (v:=vI (zw (Int.tmod a6 8))) false kr kr q9 kr kr kr gE kr) <| hkl 0 [9,25] (ls s1.2.2 (zt s1.2.1) (zw (Int.tmod a6 8))) <| hop 3 (fun _=>Qv (enc:=eI) (l:=(List.set s1.2.2 (zt s1.2.1) (zw (Int.tmod a6 8)))) (n:=s1.2.1) (w:=1) (ob:=0) (ro:=false) (nr:=true) (fl:=true) (a:=(zw (Int.tmod a6 8))) kr kr gE (Qag (zw (Int.tmod a6 8)) q9)) <| ?_
    refine hop 0 (fun _=>Zi (enc:=eI) (l:=(List.set s1.2.2 (zt s1.2.1) (zw (Int.tmod a6 8)))) (n:=s1.2.1) (w:=1) (ob:=0) (c:=0) (bx:=false) (ro:=false) (nr:=true) (fl:=true) (a:=(zw (Int.tmod a6 8))) kr kr (Qag (zw (Int.tmod a6 8)) q9) gE) <| hnx 5 (wz [0])
   refine hbd fun a11 q12=>hop 4 (fun _=>Qv (enc:=eI) (l:=s1.2.2) (n:=s1.2.1) (w:=1) (ob:=0) (ro:=false) (nr:=true) (fl:=true) (a:=a11) kr kr gE q12) <| hop 0 (fun _=>Zi (enc:=eI) (l:=s1.2.2) (n:=s1.2.1) (w:=1) (ob:=0) (c:=0) (bx:=false) (ro:=false) (nr:=true) (fl:=true) (a:=a11) kr kr q12 gE) <| hnx 5 (wz [0])
  refine hdx 1 (wz [0])
 refine hlp 4 (fun s15=>⟨[(0,vI p0),(1,vI p1),(9,.ref 0 0 s15.2.2.2.length),(10,vI x14.1),(12,vI s15.1),(13,vI s15.2.1),(14,vI s15.2.2.1)],[oR true 1 eI s15.2.2.2],84⟩) (fun v=>(.exit 2,⟨[(9,.ref 0 0 v.2.2.length),(12,vI v.1),(13,vI v.2.1)],[oR true 1 eI v.2.2],84⟩)) (wz [0]) (fun s15=>?_) fun x24=>?_
 ·refine hbr 3 [48] (?_) ?_
  ·refine hbd fun a18 q19=>hop 3 (fun _=>Qv (enc:=eI) (l:=s15.2.2.2) (n:=s15.2.2.1) (w:=1) (ob:=0) (ro:=false) (nr:=true) (fl:=true) (a:=a18) kr kr gE q19) <| hop 0 (fun _=>Zi (enc:=eI) (l:=s15.2.2.2) (n:=s15.2.2.1) (w:=1) (ob:=0) (c:=0) (bx:=false) (ro:=false) (nr:=true) (fl:=true) (a:=a18) kr kr q19 gE) <| hbr 1 [55] (?_) ?_
   ·refine hop 6 (fun _=>Qv (enc:=eI) (l:=s15.2.2.2) (n:=s15.2.2.1) (w:=1) (ob:=0) (ro:=false) (nr:=true) (fl:=true) (a:=a18) kr kr gE q19) <| hop 0 (fun _=>Zi (enc:=eI) (l:=s15.2.2.2) (n:=s15.2.2.1) (w:=1) (ob:=0) (c:=0) (bx:=false) (ro:=false) (nr:=true) (fl:=true) (a:=a18) kr kr q19 gE) <| hoh 2 (fun _ _ h k=>Qvl (k:=.i64) (a:=zw (p0*a18)) (b:=x14.1) kr gE h k) <| hop 0 (fun _=>Qv (enc:=eI) (l:=s15.2.2.2) (n:=s15.2.2.1) (w:=1) (ob:=0) (ro:=false) (nr:=true) (fl:=true) (a:=a18) kr kr gE q19) <| hop 0 (fun _=>Xm (enc:=eI) (l:=s15.2.2.2) (n:=s15.2.2.1) (ob:=0) (w:=1) (bx:=false) (nr:=true) (fl:=true) (c:=0) (a:=a18) (a':=zw (Int.tdiv (zw (p0*a18)) x14.1)) (v:=vI (zw (Int.tdiv (zw (p0*a18)) x14.1))) false kr kr q19 kr kr kr gE kr) <| hkl 0 [9,51,56,59] (ls s15.2.2.2 (zt s15.2.2.1) (zw (Int.tdiv (zw (p0*a18)) x14.1))) <| hop 5 (fun _=>Qv (enc:=eI) (l:=(List.set s15.2.2.2 (zt s15.2.2.1) (zw (Int.tdiv (zw (p0*a18)) x14.1)))) (n:=s15.2.2.1) (w:=1) (ob:=0) (ro:=false) (nr:=true) (fl:=true) (a:=(zw (Int.tdiv (zw (p0*a18)) x14.1))) kr kr gE (Qag (zw (Int.tdiv (zw (p0*a18)) x14.1)) q19)) <| hop 0 (fun _=>Zi (enc:=eI) (l:=(List.set s15.2.2.2 (zt s15.2.2.1) (zw (Int.tdiv (zw (p0*a18)) x14.1)))) (n:=s15.2.2.1) (w:=1) (ob:=0) (c:=0) (bx:=false) (ro:=false) (nr:=true) (fl:=true) (a:=(zw (Int.tdiv (zw (p0*a18)) x14.1))) kr kr (Qag (zw (Int.tdiv (zw (p0*a18)) x14.1)) q19) gE) <| hnx 5 (wz [0])
   refine hop 4 (fun _=>Qv (enc:=eI) (l:=s15.2.2.2) (n:=s15.2.2.1) (w:=1) (ob:=0) (ro:=false) (nr:=true) (fl:=true) (a:=a18) kr kr gE q19) <| hop 0 (fun _=>Zi (enc:=eI) (l:=s15.2.2.2) (n:=s15.2.2.1) (w:=1) (ob:=0) (c:=0) (bx:=false) (ro:=false) (nr:=true) (fl:=true) (a:=a18) kr kr q19 gE) <| hnx 5 (wz [0])
  refine hdx 1 (wz [0])
 refine hbd fun a25 q26=>hop 4 (fun _=>Qv (enc:=eI) (l:=x24.2.2) (n:=x24.2.1) (w:=1) (ob:=0) (ro:=false) (nr:=true) (fl:=true) (a:=a25) kr kr gE q26) <| hop 0 (fun _=>Zi (enc:=eI) (l:=x24.2.2) (n:=x24.2.1) (w:=1) (ob:=0) (c:=0) (bx:=false) (ro:=false) (nr:=true) (fl:=true) (a:=a25) kr kr q26 gE) <| hop 2 (fun _=>Qv (enc:=eI) (l:=x24.2.2) (n:=x24.2.1) (w:=1) (ob:=0) (ro:=false) (nr:=true) (fl:=true) (a:=a25) kr kr gE q26) <| hop 0 (fun _=>Xm (enc:=eI) (l:=x24.2.2) (n:=x24.2.1) (ob:=0) (w:=1) (bx:=false) (nr:=true) (fl:=true) (c:=0) (a:=a25) (a':=zw (a25+x24.1)) (v:=vI (zw (a25+x24.1))) false kr kr q26 kr kr kr gE kr) <| hkl 0 [9,74,76] (ls x24.2.2 (zt x24.2.1) (zw (a25+x24.1))) <| hrt 3
end
end Go.Ab
