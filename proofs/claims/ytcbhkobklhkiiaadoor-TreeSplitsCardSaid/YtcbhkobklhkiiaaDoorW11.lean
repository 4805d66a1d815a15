/- What functions compute. No conditions. -/
import Derived.Test.YtcbhkobklhkiiaaDoorProg
import Derived.Test.YtcbhkobklhkiiaaDoorW9
import Derived.KernelRfl
import Derived.Test.YtcbhkobklhkiiaaDoorW10
import Derived.Test.YtcbhkobklhkiiaaDoorEng6
import Derived.IntWalk
set_option linter.all false
namespace Go.Ab
open Go Go.Proofs
set_option maxRecDepth 100000
set_option maxHeartbeats 4000000
section
attribute [local irreducible] RW WP
noncomputable abbrev Yr (p0:Qe):Int:=(zw ((if 5 < (if 1 > (zn p0.Nodes) then 1 else (zn p0.Nodes)) then 5 else (if 1 > (zn p0.Nodes) then 1 else (zn p0.Nodes))) - 1))
noncomputable abbrev i40_39 (p0:Qe):Int:=(zw (1+(zw (Int.tmod p0.Grain 60))))
noncomputable abbrev Yq (a8:Qr):Int:=(zw (2+(zw (Int.tmod a8.Card 2))))
noncomputable abbrev Yp:Int:=(zw (2+(zw (Int.tmod 0 2))))
noncomputable abbrev Qy3 (p0:Qe):AObj:=oX true false 3 (.agg [.int .u8 p0.Grain,eL false eTharuspexref05_Piece p0.Nodes,eL true (AV.int .u8) p0.Order])
noncomputable abbrev Quz:AObj:=oX true false 2 (.agg [vI 0,.nils])
noncomputable abbrev Qdz:AObj:=oX true false 3 (.agg [.int .u8 0,.int .u8 0,.nils])
noncomputable abbrev o40_45 (p0:Qe) (s36:(Int × (List (Int ⊕ Tapi_Node)))):AObj:=oX false false 2 (.agg [vI (i40_39 p0),.ref 4 0 s36.2.length])
noncomputable abbrev K8 (p0:Qe) (s36:(Int × (List (Int ⊕ Tapi_Node)))):AObj:=oX false false 2 (.agg [vI (i40_39 p0),.ref 5 0 s36.2.length])
noncomputable abbrev Qcn:AObj:=.row false false true false 1 []
noncomputable abbrev Q0b:Nat×AV:=(1,.ptr 0 0 0)
noncomputable abbrev Qzd:Nat×AV:=(2,.ptr 1 0 0)
noncomputable abbrev Qzw (p0:Qe):Nat×AV:=(3,vI (if 5 < (if 1 > (zn p0.Nodes) then 1 else (zn p0.Nodes)) then 5 else (if 1 > (zn p0.Nodes) then 1 else (zn p0.Nodes))))
noncomputable abbrev Qz2:Nat×AV:=(4,.ptr 2 0 0)
noncomputable abbrev Q0a (x1:(List Int)):Nat×AV:=(5,.ref 3 0 x1.length)
noncomputable abbrev Qlb (p0:Qe):Nat×AV:=(36,vI (if 5 < (if 1 > (zn p0.Nodes) then 1 else (zn p0.Nodes)) then 5 else (if 1 > (zn p0.Nodes) then 1 else (zn p0.Nodes))))
noncomputable abbrev Qlx (p0:Qe):Nat×AV:=(58,vI (if 5 < (if 1 > (zn p0.Nodes) then 1 else (zn p0.Nodes)) then 5 else (if 1 > (zn p0.Nodes) then 1 else (zn p0.Nodes))))
noncomputable abbrev l40_55 (a0:AObj) (p0:Qe) (x1:(List Int)):List AObj:=[(Qy3 p0),Quz,a0,oR true 1 eI x1]
noncomputable abbrev s40_56 (p0:Qe) (x1:(List Int)):List (Nat×AV):=[Q0b,Qzd,(Qzw p0),Qz2,(Q0a x1)]
theorem Qg0 (p0:Qe):Ct Tryd.prog 11 [.agg [.int .u8 p0.Grain,eL false eTharuspexref05_Piece p0.Nodes,eL true (AV.int .u8) p0.Order]] (Vi p0) (fun x=>.agg [vI x.Grain,.ref 0 0 x.Nodes.length]) (fun x=>[oR false 3 eTapi_Node x.Nodes]):=by
 refine hfn [] Tryd.func11 <| hop 0 (fun _=>sgL false [] [] false gE) <| hop 0 (fun _=>sgL false [] [] false gE) <| hop 2 (fun _=>Qq (enc:=eTharuspexref05_Piece) (l:=p0.Nodes) (fl:=false) kr gE) <| hoh 10 (fun _ _ h k=>mkL (enc:=eoTapi_Node) (z:=((Sum.inl 0):(Int ⊕ Tapi_Node))) (z0:=.agg [vI 0,.nils,.nils]) (n:=(if 5 < (if 1 > (zn p0.Nodes) then 1 else (zn p0.Nodes)) then 5 else (if 1 > (zn p0.Nodes) then 1 else (zn p0.Nodes)))) (m:=(if 5 < (if 1 > (zn p0.Nodes) then 1 else (zn p0.Nodes)) then 5 else (if 1 > (zn p0.Nodes) then 1 else (zn p0.Nodes)))) (w:=3) (bytes:=56) [] false kr kr gE kr h k) <| hop 1 (fun _=>sgL false [] [] false gE) <| hoh 3 (fun _ _ h k=>mkL (enc:=(AV.int .u8)) (z:=(0:Int)) (z0:=.int .u8 0) (n:=(if 5 < (if 1 > (zn p0.Nodes) then 1 else (zn p0.Nodes)) then 5 else (if 1 > (zn p0.Nodes) then 1 else (zn p0.Nodes)))) (m:=(if 5 < (if 1 > (zn p0.Nodes) then 1 else (zn p0.Nodes)) then 5 else (if 1 > (zn p0.Nodes) then 1 else (zn p0.Nodes)))) (w:=1) (bytes:=1) [] true kr kr gE kr h k) <| hcl 3 [F (AV.int .u8) (List.replicate (zt (if 5 < (if 1 > (zn p0.Nodes) then 1 else (zn p0.Nodes)) then 5 else (if 1 > (zn p0.Nodes) then 1 else (zn p0.Nodes)))) (0:Int))] (g_ref02_Draft_Permutation_ok (Tharuspexref02_Draft.mk (List.replicate (zt (if 5 < (if 1 > (zn p0.Nodes) then 1 else (zn p0.Nodes)) then 5 else (if 1 > (zn p0.Nodes) then 1 else (zn p0.Nodes)))) (0:Int)) 0 p0.Order)) fun x1 _=>hlp 3 (fun s3=>⟨(s40_56 p0 x1)++[(6,vI s3.1),(7,vI s3.2.1)],(l40_55 (oX false false 2 (.agg [vI (i40_39 p0),.ref 4 0 s3.2.2.length])) p0 x1)++[oR false 3 eoTapi_Node s3.2.2],187⟩) (fun v=>(.exit 0,⟨(s40_56 p0 x1),(l40_55 (oX false false 2 (.agg [vI (i40_39 p0),.ref 4 0 v.length])) p0 x1)++[oR false 3 eoTapi_Node v],187⟩)) (wz [0,1,3,5,2]) (fun s3=>?_) fun x35=>?_
 ·refine hbr 3 [37] (?_) ?_
  ·refine hop 1 (fun _=>sgL false [] [] false gE) <| hop 3 (fun _=>Qq (enc:=eTharuspexref05_Piece) (l:=p0.Nodes) (fl:=false) kr gE) <| hbr 1 [44] (?_) ?_
   ·refine hbd fun a8 q9=>hop 4 (fun _=>Qn (enc:=eTharuspexref05_Piece) (l:=p0.Nodes) (n:=s3.2.1) (fl:=false) (w:=3) (a:=a8) kr kr gE q9) <| hoh 16 (fun _ _ h k=>Vg (k:=.i64) (k':=.u64) (a:=zw (s3.1*(Yq a8))) (b:=zv (zw ((Yr p0) - s3.2.1))) kr gE h k) <| hbr 1 [64] (?_) ?_
    ·refine hbd fun a12 q13=>hop 11 (fun _=>Qz (enc:=eI) (l:=x1) (n:=s3.2.1) (w:=1) (ob:=3) (ro:=false) (nr:=true) (fl:=true) (a:=a12) kr kr gE q13) <| hop 0 (fun _=>Zn (enc:=eI) (l:=x1) (n:=s3.2.1) (w:=1) (ob:=3) (c:=0) (bx:=false) (ro:=false) (nr:=true) (fl:=true) (a:=a12) kr kr q13 gE) <| hbd fun a14 q15=>hop 1 (fun _=>Qz (enc:=eoTapi_Node) (l:=s3.2.2) (n:=a12) (w:=3) (ob:=4) (ro:=false) (nr:=true) (fl:=false) (a:=(Sum.inl a14)) kr kr gE (Qj q15)) <| hop 1 (fun _=>Yo (enc:=eoTapi_Node) (l:=s3.2.2) (n:=a12) (ob:=4) (w:=3) (bx:=false) (nr:=true) (fl:=false) (c:=0) (a:=(Sum.inl a14)) (a':=(Sum.inl 2)) (v:=vI 2) false kr kr (Qj q15) kr kr kr gE kr) <| hkn 0 (fun n16=>⟨(s40_56 p0 x1)++[(6,vI (zw (s3.1*2))),(7,vI s3.2.1),(35,vI s3.2.1),(Qlb p0),(37,vB true),(8,.ptr 5 0 0),(40,vI s3.2.1),(41,.ptr 0 0 1),(42,eL false eTharuspexref05_Piece p0.Nodes),(43,vI (zn p0.Nodes)),(44,vB true),(45,.ptr 0 0 1),(46,eL false eTharuspexref05_Piece p0.Nodes),(47,vI s3.2.1),(48,.fz [.int .u8 a8.Card,.int .u8 a8.Parents,eL true (AV.int .u8) a8.W]),(49,.agg [.int .u8 a8.Card,.int .u8 a8.Parents,eL true (AV.int .u8) a8.W]),(50,.ptr 5 0 0),(51,.int .u8 a8.Card),(52,.int .u8 (Int.tmod a8.Card 2)),(53,vI (zw (Int.tmod a8.Card 2))),(54,vI (Yq a8)),(9,vI 2),(55,vI s3.1),(56,vI (Yq a8)),(57,vI (zw (s3.1*(Yq a8)))),(Qlx p0),(59,vI (Yr p0)),(60,vI s3.2.1),(61,vI (zw ((Yr p0) - s3.2.1))),(62,.int .u64 (zv (zw ((Yr p0) - s3.2.1)))),(63,vI (zw ((zw (s3.1*(Yq a8)))*2^min (zt (zv (zw ((Yr p0) - s3.2.1)))) (IntKind.bits .i64)))),(64,vB true),(65,vI s3.1),(66,vI 2),(67,vI (zw (s3.1*2))),(68,.ptr 2 0 1),(69,.ref 4 0 n16),(70,.ref 3 0 x1.length),(71,vI s3.2.1),(72,.ptr 3 (zt s3.2.1) 0),(73,vI a12),(74,vI 2),(75,.ptr 4 (zt a12) 0),(76,.ptr 4 (zt a12) 0)],(l40_55 (oX false false 2 (.agg [vI (i40_39 p0),.ref 4 0 n16])) p0 x1)++[oR false 3 eoTapi_Node (List.set s3.2.2 (zt a12) (Sum.inl 2)),oX true false 3 (.agg [.int .u8 a8.Card,.int .u8 a8.Parents,eL true (AV.int .u8) a8.W])],187⟩) (ls s3.2.2 (zt a12) (Sum.inl 2)) <| hnx 3 (wz [0,1,2,3,4])
    refine hbd fun a17 q18=>hop 10 (fun _=>Qz (enc:=eI) (l:=x1) (n:=s3.2.1) (w:=1) (ob:=3) (ro:=false) (nr:=true) (fl:=true) (a:=a17) kr kr gE q18) <| hop 0 (fun _=>Zn (enc:=eI) (l:=x1) (n:=s3.2.1) (w:=1) (ob:=3) (c:=0) (bx:=false) (ro:=false) (nr:=true) (fl:=true) (a:=a17) kr kr q18 gE) <| hbd fun a19 q20=>hop 1 (fun _=>Qz (enc:=eoTapi_Node) (l:=s3.2.2) (n:=a17) (w:=3) (ob:=4) (ro:=false) (nr:=true) (fl:=false) (a:=(Sum.inl a19)) kr kr gE (Qj q20)) <| hop 1 (fun _=>Yo (enc:=eoTapi_Node) (l:=s3.2.2) (n:=a17) (ob:=4) (w:=3) (bx:=false) (nr:=true) (fl:=false) (c:=0) (a:=(Sum.inl a19)) (a':=(Sum.inl (Yq a8))) (v:=vI (Yq a8)) false kr kr (Qj q20) kr kr kr gE kr) <| hkn 0 (fun n21=>⟨(s40_56 p0 x1)++[(6,vI (zw (s3.1*(Yq a8)))),(7,vI s3.2.1),(35,vI s3.2.1),(Qlb p0),(37,vB true),(8,.ptr 5 0 0),(40,vI s3.2.1),(41,.ptr 0 0 1),(42,eL false eTharuspexref05_Piece p0.Nodes),(43,vI (zn p0.Nodes)),(44,vB true),(45,.ptr 0 0 1),(46,eL false eTharuspexref05_Piece p0.Nodes),(47,vI s3.2.1),(48,.fz [.int .u8 a8.Card,.int .u8 a8.Parents,eL true (AV.int .u8) a8.W]),(49,.agg [.int .u8 a8.Card,.int .u8 a8.Parents,eL true (AV.int .u8) a8.W]),(50,.ptr 5 0 0),(51,.int .u8 a8.Card),(52,.int .u8 (Int.tmod a8.Card 2)),(53,vI (zw (Int.tmod a8.Card 2))),(54,vI (Yq a8)),(9,vI (Yq a8)),(55,vI s3.1),(56,vI (Yq a8)),(57,vI (zw (s3.1*(Yq a8)))),(Qlx p0),(59,vI (Yr p0)),(60,vI s3.2.1),(61,vI (zw ((Yr p0) - s3.2.1))),(62,.int .u64 (zv (zw ((Yr p0) - s3.2.1)))),(63,vI (zw ((zw (s3.1*(Yq a8)))*2^min (zt (zv (zw ((Yr p0) - s3.2.1)))) (IntKind.bits .i64)))),(64,vB false),(65,vI s3.1),(66,vI (Yq a8)),(67,vI (zw (s3.1*(Yq a8)))),(68,.ptr 2 0 1),(69,.ref 4 0 n21),(70,.ref 3 0 x1.length),(71,vI s3.2.1),(72,.ptr 3 (zt s3.2.1) 0),(73,vI a17),(74,vI (Yq a8)),(75,.ptr 4 (zt a17) 0),(76,.ptr 4 (zt a17) 0)],(l40_55 (oX false false 2 (.agg [vI (i40_39 p0),.ref 4 0 n21])) p0 x1)++[oR false 3 eoTapi_Node (List.set s3.2.2 (zt a17) (Sum.inl (Yq a8))),oX true false 3 (.agg [.int .u8 a8.Card,.int .u8 a8.Parents,eL true (AV.int .u8) a8.W])],187⟩) (ls s3.2.2 (zt a17) (Sum.inl (Yq a8))) <| hnx 3 (wz [0,1,2,3,4])
   refine hoh 15 (fun _ _ h k=>Vg (k:=.i64) (k':=.u64) (a:=zw (s3.1*Yp)) (b:=zv (zw ((Yr p0) - s3.2.1))) kr gE h k) <| hbr 1 [64] (?_) ?_
   ·refine hbd fun a24 q25=>hop 11 (fun _=>Qz (enc:=eI) (l:=x1) (n:=s3.2.1) (w:=1) (ob:=3) (ro:=false) (nr:=true) (fl:=true) (a:=a24) kr kr gE q25) <| hop 0 (fun _=>Zn (enc:=eI) (l:=x1) (n:=s3.2.1) (w:=1) (ob:=3) (c:=0) (bx:=false) (ro:=false) (nr:=true) (fl:=true) (a:=a24) kr kr q25 gE) <| hbd fun a26 q27=>hop 1 (fun _=>Qz (enc:=eoTapi_Node) (l:=s3.2.2) (n:=a24) (w:=3) (ob:=4) (ro:=false) (nr:=true) (fl:=false) (a:=(Sum.inl a26)) kr kr gE (Qj q27)) <| hop 1 (fun _=>Yo (enc:=eoTapi_Node) (l:=s3.2.2) (n:=a24) (ob:=4) (w:=3) (bx:=false) (nr:=true) (fl:=false) (c:=0) (a:=(Sum.inl a26)) (a':=(Sum.inl 2)) (v:=vI 2) false kr kr (Qj q27) kr kr kr gE kr) <| hkn 0 (fun n28=>⟨(s40_56 p0 x1)++[(6,vI (zw (s3.1*2))),(7,vI s3.2.1),(35,vI s3.2.1),(Qlb p0),(37,vB true),(8,.ptr 5 0 0),(40,vI s3.2.1),(41,.ptr 0 0 1),(42,eL false eTharuspexref05_Piece p0.Nodes),(43,vI (zn p0.Nodes)),(44,vB false),(50,.ptr 5 0 0),(51,.int .u8 0),(52,.int .u8 (Int.tmod 0 2)),(53,vI (zw (Int.tmod 0 2))),(54,vI Yp),(9,vI 2),(55,vI s3.1),(56,vI Yp),(57,vI (zw (s3.1*Yp))),(Qlx p0),(59,vI (Yr p0)),(60,vI s3.2.1),(61,vI (zw ((Yr p0) - s3.2.1))),(62,.int .u64 (zv (zw ((Yr p0) - s3.2.1)))),(63,vI (zw ((zw (s3.1*Yp))*2^min (zt (zv (zw ((Yr p0) - s3.2.1)))) (IntKind.bits .i64)))),(64,vB true),(65,vI s3.1),(66,vI 2),(67,vI (zw (s3.1*2))),(68,.ptr 2 0 1),(69,.ref 4 0 n28),(70,.ref 3 0 x1.length),(71,vI s3.2.1),(72,.ptr 3 (zt s3.2.1) 0),(73,vI a24),(74,vI 2),(75,.ptr 4 (zt a24) 0),(76,.ptr 4 (zt a24) 0)],(l40_55 (oX false false 2 (.agg [vI (i40_39 p0),.ref 4 0 n28])) p0 x1)++[oR false 3 eoTapi_Node (List.set s3.2.2 (zt a24) (Sum.inl 2)),Qdz],187⟩) (ls s3.2.2 (zt a24) (Sum.inl 2)) <| hnx 3 (wz [0,1,2,3,4])
   refine hbd fun a29 q30=>hop 10 (fun _=>Qz (enc:=eI) (l:=x1) (n:=s3.2.1) (w:=1) (ob:=3) (ro:=false) (nr:=true) (fl:=true) (a:=a29) kr kr gE q30) <| hop 0 (fun _=>Zn (enc:=eI) (l:=x1) (n:=s3.2.1) (w:=1) (ob:=3) (c:=0) (bx:=false) (ro:=false) (nr:=true) (fl:=true) (a:=a29) kr kr q30 gE) <| hbd fun a31 q32=>hop 1 (fun _=>Qz (enc:=eoTapi_Node) (l:=s3.2.2) (n:=a29) (w:=3) (ob:=4) (ro:=false) (nr:=true) (fl:=false) (a:=(Sum.inl a31)) kr kr gE (Qj q32)) <| hop 1 (fun _=>Yo (enc:=eoTapi_Node) (l:=s3.2.2) (n:=a29) (ob:=4) (w:=3) (bx:=false) (nr:=true) (fl:=false) (c:=0) (a:=(Sum.inl a31)) (a':=(Sum.inl Yp)) (v:=vI Yp) false kr kr (Qj q32) kr kr kr gE kr) <| hkn 0 (fun n33=>⟨(s40_56 p0 x1)++[(6,vI (zw (s3.1*Yp))),(7,vI s3.2.1),(35,vI s3.2.1),(Qlb p0),(37,vB true),(8,.ptr 5 0 0),(40,vI s3.2.1),(41,.ptr 0 0 1),(42,eL false eTharuspexref05_Piece p0.Nodes),(43,vI (zn p0.Nodes)),(44,vB false),(50,.ptr 5 0 0),(51,.int .u8 0),(52,.int .u8 (Int.tmod 0 2)),(53,vI (zw (Int.tmod 0 2))),(54,vI Yp),(9,vI Yp),(55,vI s3.1),(56,vI Yp),(57,vI (zw (s3.1*Yp))),(Qlx p0),(59,vI (Yr p0)),(60,vI s3.2.1),(61,vI (zw ((Yr p0) - s3.2.1))),(62,.int .u64 (zv (zw ((Yr p0) - s3.2.1)))),(63,vI (zw ((zw (s3.1*Yp))*2^min (zt (zv (zw ((Yr p0) - s3.2.1)))) (IntKind.bits .i64)))),(64,vB false),(65,vI s3.1),(66,vI Yp),(67,vI (zw (s3.1*Yp))),(68,.ptr 2 0 1),(69,.ref 4 0 n33),(70,.ref 3 0 x1.length),(71,vI s3.2.1),(72,.ptr 3 (zt s3.2.1) 0),(73,vI a29),(74,vI Yp),(75,.ptr 4 (zt a29) 0),(76,.ptr 4 (zt a29) 0)],(l40_55 (oX false false 2 (.agg [vI (i40_39 p0),.ref 4 0 n33])) p0 x1)++[oR false 3 eoTapi_Node (List.set s3.2.2 (zt a29) (Sum.inl Yp)),Qdz],187⟩) (ls s3.2.2 (zt a29) (Sum.inl Yp)) <| hnx 3 (wz [0,1,2,3,4])
  refine hdx 1 (wz [0,1,2,3,4])
 refine hlp 1 (fun s36=>⟨(s40_56 p0 x1)++[(10,vI s36.1)],(l40_55 (o40_45 p0 s36) p0 x1)++[oR false 3 eoTapi_Node s36.2],187⟩) (fun v=>(.exit 2,⟨[(2,.ptr 0 0 0),(4,.ptr 1 0 0)],[Quz,oX false false 2 (.agg [vI (i40_39 p0),.ref 2 0 v.length]),oR false 3 eoTapi_Node v],187⟩)) (wz [0,1,2,3,4]) (fun s36=>?_) fun x122=>?_
 ·refine hbr 3 [79] (?_) ?_
  ·refine hop 1 (fun _=>sgL false [] [] false gE) <| hop 3 (fun _=>Qq (enc:=eTharuspexref05_Piece) (l:=p0.Nodes) (fl:=false) kr gE) <| hbr 1 [86] (?_) ?_
   ·refine hbd fun a49 q50=>hop 4 (fun _=>Qn (enc:=eTharuspexref05_Piece) (l:=p0.Nodes) (n:=s36.1) (fl:=false) (w:=3) (a:=a49) kr kr gE q50) <| hbd fun a51 q52=>hop 4 (fun _=>Qz (enc:=eI) (l:=x1) (n:=s36.1) (w:=1) (ob:=3) (ro:=false) (nr:=true) (fl:=true) (a:=a51) kr kr gE q52) <| hop 0 (fun _=>Zn (enc:=eI) (l:=x1) (n:=s36.1) (w:=1) (ob:=3) (c:=0) (bx:=false) (ro:=false) (nr:=true) (fl:=true) (a:=a51) kr kr q52 gE) <| hbd fun a53 q54=>hwk 2 (Qre 4 (enc:=eoTapi_Node) (L:=s36.2) (n:=a51) (a:=(Sum.inl a53)) (A:=.agg [vI a53,.nils,.nils]) (Qj q54) kr (bx:=false) (ro:=false) (nr:=true) (fl:=false) (w:=3) kr rfl) <| hwk 0 (Qjl 4 1 1 true true (enc:=eoTapi_Node) (L:=s36.2) (n:=a51) (a:=(Sum.inl a53)) (A:=.agg [vI a53,.nils,.nils]) (A':=.agg [vI a53,.ref 6 0 0,.nils]) (y:=.nils) (bx:=false) (nr0:=true) (fl0:=false) (w0:=3) (Qj q54) kr kr kr kr rfl) <| hwk 0 (Qjl 4 2 1 true false (enc:=eoTapi_Node) (L:=s36.2) (n:=a51) (a:=(Sum.inl a53)) (A:=.agg [vI a53,.ref 6 0 0,.nils]) (A':=.agg [vI a53,.ref 6 0 0,.ref 7 0 0]) (y:=.nils) (bx:=false) (nr0:=false) (fl0:=false) (w0:=3) (Qj q54) kr kr kr kr rfl) <| ?_
    refine hlp 0 (fun s55=>⟨(s40_56 p0 x1)++[(10,vI s36.1),(11,.ptr 4 0 0),(12,vI a51),(13,vI s55.1)],(l40_55 (K8 p0 s36) p0 x1)++[oX true false 3 (.agg [.int .u8 a49.Card,.int .u8 a49.Parents,eL true (AV.int .u8) a49.W]),.row false false false false 3 (Q6 eoTapi_Node s36.2 a51 (.agg [vI a53,.ref 6 0 s55.2.length,.ref 7 0 0])),oR true 1 eI s55.2,Qcn],187⟩) (fun v=>(.exit 4,⟨(s40_56 p0 x1)++[(10,vI s36.1),(11,.ptr 4 0 0),(12,vI a51)],(l40_55 (K8 p0 s36) p0 x1)++[oX true false 3 (.agg [.int .u8 a49.Card,.int .u8 a49.Parents,eL true (AV.int .u8) a49.W]),.row false false false false 3 (Q6 eoTapi_Node s36.2 a51 (.agg [vI a53,.ref 6 0 v.length,.ref 7 0 0])),oR true 1 eI v,Qcn],187⟩)) (wk_gcH (live:=[1,2,3,4,5,10,11,12,13]) (keep:=[0,1,2,3,5,4,6,7]) 4 eoTapi_Node s36.2 a51 (.agg [vI a53,.ref 6 0 0,.ref 7 0 0]) 3 (fun f a=>by cases a <;> rfl) kr kr) (fun s55=>?_) fun x72=>?_
    ·refine hbr 3 [98] (?_) ?_
     ·refine hlp 2 (fun s58=>⟨(s40_56 p0 x1)++[(10,vI s36.1),(11,.ptr 4 0 0),(12,vI a51),(13,vI s55.1),(14,vI s58.1)],(l40_55 (K8 p0 s36) p0 x1)++[oX true false 3 (.agg [.int .u8 a49.Card,.int .u8 a49.Parents,eL true (AV.int .u8) a49.W]),.row false false false false 3 (Q6 eoTapi_Node s36.2 a51 (.agg [vI a53,.ref 6 0 s58.2.length,.ref 7 0 0])),oR true 1 eI s58.2,Qcn],187⟩) (fun v=>(.exit 6,⟨(s40_56 p0 x1)++[(10,vI s36.1),(11,.ptr 4 0 0),(12,vI a51),(13,vI s55.1)],(l40_55 (K8 p0 s36) p0 x1)++[oX true false 3 (.agg [.int .u8 a49.Card,.int .u8 a49.Parents,eL true (AV.int .u8) a49.W]),.row false false false false 3 (Q6 eoTapi_Node s36.2 a51 (.agg [vI a53,.ref 6 0 v.length,.ref 7 0 0])),oR true 1 eI v,Qcn],187⟩)) (wk_gcH (live:=[1,2,3,4,5,10,11,12,13,14]) (keep:=[0,1,2,3,4,5,6,7]) 5 eoTapi_Node s36.2 a51 (.agg [vI a53,.ref 6 0 s55.2.length,.ref 7 0 0]) 3 (fun f a=>by cases a <;> rfl) kr kr) (fun s58=>?_) fun x70=>?_
      ·refine hbr 3 [103] (?_) ?_
       ·refine hbd fun a61 q62=>hop 3 (fun _=>Qz (enc:=eI) (l:=x1) (n:=s58.1) (w:=1) (ob:=3) (ro:=false) (nr:=true) (fl:=true) (a:=a61) kr kr gE q62) <| hop 0 (fun _=>Zn (enc:=eI) (l:=x1) (n:=s58.1) (w:=1) (ob:=3) (c:=0) (bx:=false) (ro:=false) (nr:=true) (fl:=true) (a:=a61) kr kr q62 gE) <| hbr 3 [111,112] (?_) ?_
        ·refine hoh 4 (fun _ _ h k=>Qbk (k:=.u8) (k':=.u64) (a:=a49.Parents) (b:=zv (s58.1)) kr gE h k) <| hbr 4 [119,120,121] (?_) ?_
         ·refine hop 3 (fun _=>Qbj (enc:=eoTapi_Node) (L:=s36.2) (n:=a51) (a:=(Sum.inl a53)) (A:=.agg [vI a53,.ref 6 0 s58.2.length,.ref 7 0 0]) (ob:=5) (w:=3) (ro:=false) (nr:=false) (fl:=false) kr kr (Qj q54) gE) <| hop 1 (fun _=>Qca (enc:=eoTapi_Node) (L:=s36.2) (n:=a51) (a:=(Sum.inl a53)) (A:=.agg [vI a53,.ref 6 0 s58.2.length,.ref 7 0 0]) (ob:=5) (w:=3) (c:=1) (ro:=false) (nr:=false) (fl:=false) kr kr (Qj q54) gE) <| hbr 3 [129,130] (?_) ?_
          ·refine hop 8 (fun _=>Qbj (enc:=eoTapi_Node) (L:=s36.2) (n:=a51) (a:=(Sum.inl a53)) (A:=.agg [vI a53,.ref 6 0 s58.2.length,.ref 7 0 0]) (ob:=5) (w:=3) (ro:=false) (nr:=false) (fl:=false) kr kr (Qj q54) gE) <| hop 1 (fun _=>Qca (enc:=eoTapi_Node) (L:=s36.2) (n:=a51) (a:=(Sum.inl a53)) (A:=.agg [vI a53,.ref 6 0 s58.2.length,.ref 7 0 0]) (ob:=5) (w:=3) (c:=1) (ro:=false) (nr:=false) (fl:=false) kr kr (Qj q54) gE) <| hop 1 (fun _=>sgL false [] [] true gE) <| hoh 0 (fun _ _ h k=>Z9 (enc:=eI) (l:=s58.2) (m:=([s55.1]:(List Int))) (w:=1) (bytes:=8) (ob:=6) (nr:=true) (fl:=true) (nr':=true) (fl':=true) (b:=.ref 8 0 1) (rds:=[8]) false kr kr kr kr gE kr h k) <| hop 0 (fun _=>Qbj (enc:=eoTapi_Node) (L:=s36.2) (n:=a51) (a:=(Sum.inl a53)) (A:=.agg [vI a53,.ref 6 0 s58.2.length,.ref 7 0 0]) (ob:=5) (w:=3) (ro:=false) (nr:=false) (fl:=false) kr kr (Qj q54) gE) <| hop 1 (fun _=>Qmb (enc:=eoTapi_Node) (L:=s36.2) (n:=a51) (a:=(Sum.inl a53)) (A:=.agg [vI a53,.ref 6 0 s58.2.length,.ref 7 0 0]) (ob:=5) (w:=3) (A':=.agg [vI a53,.ref 9 0 ((s58.2++([s55.1]:(List Int))).length),.ref 7 0 0]) (v:=.ref 9 0 ((s58.2++([s55.1]:(List Int))).length)) (c:=1) kr kr (Qj q54) kr kr gE kr) <| hnx 3 (wk_gcH (live:=[1,2,3,4,5,10,11,12,13,14]) (keep:=[0,1,2,3,4,5,9,7]) 5 eoTapi_Node s36.2 a51 (.agg [vI a53,.ref 9 0 ((s58.2++([s55.1]:(List Int))).length),.ref 7 0 0]) 3 (fun f a=>by cases a <;> rfl) kr kr)
          refine hnx 4 (wk_gcH (live:=[1,2,3,4,5,10,11,12,13,14]) (keep:=[0,1,2,3,4,5,6,7]) 5 eoTapi_Node s36.2 a51 (.agg [vI a53,.ref 6 0 s58.2.length,.ref 7 0 0]) 3 (fun f a=>by cases a <;> rfl) kr kr)
         refine hnx 13 (wk_gcH (live:=[1,2,3,4,5,10,11,12,13,14]) (keep:=[0,1,2,3,4,5,6,7]) 5 eoTapi_Node s36.2 a51 (.agg [vI a53,.ref 6 0 s58.2.length,.ref 7 0 0]) 3 (fun f a=>by cases a <;> rfl) kr kr)
        refine hnx 22 (wk_gcH (live:=[1,2,3,4,5,10,11,12,13,14]) (keep:=[0,1,2,3,4,5,6,7]) 5 eoTapi_Node s36.2 a51 (.agg [vI a53,.ref 6 0 s58.2.length,.ref 7 0 0]) 3 (fun f a=>by cases a <;> rfl) kr kr)
       refine hdx 1 (wk_gcH (live:=[1,2,3,4,5,10,11,12,13]) (keep:=[0,1,2,3,4,5,6,7]) 5 eoTapi_Node s36.2 a51 (.agg [vI a53,.ref 6 0 s58.2.length,.ref 7 0 0]) 3 (fun f a=>by cases a <;> rfl) kr kr)
      refine hnx 3 (wk_gcH (live:=[1,2,3,4,5,10,11,12,13]) (keep:=[0,1,2,3,4,5,6,7]) 5 eoTapi_Node s36.2 a51 (.agg [vI a53,.ref 6 0 x70.length,.ref 7 0 0]) 3 (fun f a=>by cases a <;> rfl) kr kr)
     refine hdx 1 (wk_gcH (live:=[1,2,3,4,5,10,11,12]) (keep:=[0,1,2,3,4,5,6,7]) 5 eoTapi_Node s36.2 a51 (.agg [vI a53,.ref 6 0 s55.2.length,.ref 7 0 0]) 3 (fun f a=>by cases a <;> rfl) kr kr)
    refine hlp 1 (fun s73=>⟨(s40_56 p0 x1)++[(10,vI s36.1),(11,.ptr 4 0 0),(12,vI a51),(15,vI s73.1)],(l40_55 (K8 p0 s36) p0 x1)++[oX true false 3 (.agg [.int .u8 a49.Card,.int .u8 a49.Parents,eL true (AV.int .u8) a49.W]),.row false false false false 3 (Q6 eoTapi_Node s36.2 a51 (.agg [vI a53,.ref 6 0 x72.length,.ref 7 0 s73.2.length])),oR true 1 eI x72,oR false 1 z1 s73.2],187⟩) (fun v=>(.exit 8,⟨(s40_56 p0 x1)++[(10,vI s36.1)],(l40_55 (o40_45 p0 s36) p0 x1)++[.row false false false false 3 (Q6 eoTapi_Node s36.2 a51 (.agg [vI a53,.ref 5 0 x72.length,.ref 6 0 v.length])),oR true 1 eI x72,oR false 1 z1 v],187⟩)) (wk_gcH (live:=[1,2,3,4,5,10,11,12,15]) (keep:=[0,1,2,3,4,5,6,7]) 5 eoTapi_Node s36.2 a51 (.agg [vI a53,.ref 6 0 x72.length,.ref 7 0 0]) 3 (fun f a=>by cases a <;> rfl) kr kr) (fun s73=>?_) fun x83=>?_
    ·refine hoa 3 (fun _ _ h k=>Qti (f:=36) (as0:=[.agg [vI (i40_39 p0),.ref 5 0 s36.2.length],vI a51]) (us:=[.agg [vI (i40_39 p0),.lst false (Q6 eoTapi_Node s36.2 a51 (.agg [vI a53,z1 x72,z2 s73.2]))],vI a51]) (ids:=[5,6,7]) (G:=Z2 (Qf.mk (i40_39 p0) (List.set (List.map coTapi_Node s36.2) (zt a51) (Tapi_Node.mk a53 x72 s73.2))) a51) (rv:=fun x74=>.ref 0 0 x74.length) (ro:=fun x74=>[oR true 1 eI x74]) kr Qpw (Qt (Kk (Qt rfl (Qt (Qng (enc:=eoTapi_Node) (L:=s36.2) (N:=a51) (A:=.agg [vI a53,.ref 6 0 x72.length,.ref 7 0 s73.2.length]) (A':=.agg [vI a53,z1 x72,z2 s73.2]) (a:=(Sum.inl a53)) (w:=3) (bx:=false) (ro:=false) (fl:=false) kr (Qj q54) (fun a=>by cases a <;> rfl) (Kk (Qt rfl (Qt (Zd (w:=1) (bx:=false) (ro:=false) (enc:=eI) (l:=x72) (fl:=true) kr) (Qt (Zd (w:=1) (bx:=false) (ro:=false) (enc:=z1) (l:=s73.2) (fl:=false) kr) Y1 (by rfl)) (by rfl)) (by rfl)))) Y1 (by rfl)) (by rfl))) (Qt rfl Y1 (by rfl)) (by rfl)) (fun x74 q75=>Qx.argsE (Vm.cons (K1.agg (Vm.cons K1.refl rfl (Vm.cons (K1.lst [.keep,.lst true,.lst false] (Qjz (conv:=coTapi_Node) (enc2:=eTapi_Node) (b:=(Tapi_Node.mk a53 x72 s73.2)) [.keep,.lst true,.lst false] (fun a=>by cases a <;> rfl) rfl)) rfl Vm.nil))) rfl (Vm.cons K1.refl rfl Vm.nil)) (K9 (Qf.mk (i40_39 p0) (List.set (List.map coTapi_Node s36.2) (zt a51) (Tapi_Node.mk a53 x72 s73.2))) a51 x74 q75)) gF h k) fun x74 _=>hcl 0 [F eI x74] (Qep x74) fun x76 _=>hbr 1 [150] (?_) ?_
     ·refine hop 8 (fun _=>Qbj (enc:=eoTapi_Node) (L:=s36.2) (n:=a51) (a:=(Sum.inl a53)) (A:=.agg [vI a53,.ref 6 0 x72.length,.ref 7 0 s73.2.length]) (ob:=5) (w:=3) (ro:=false) (nr:=false) (fl:=false) kr kr (Qj q54) gE) <| hop 1 (fun _=>Qca (enc:=eoTapi_Node) (L:=s36.2) (n:=a51) (a:=(Sum.inl a53)) (A:=.agg [vI a53,.ref 6 0 x72.length,.ref 7 0 s73.2.length]) (ob:=5) (w:=3) (c:=2) (ro:=false) (nr:=false) (fl:=false) kr kr (Qj q54) gE) <| hop 5 (fun _=>Qbj (enc:=eoTapi_Node) (L:=s36.2) (n:=a51) (a:=(Sum.inl a53)) (A:=.agg [vI a53,.ref 6 0 x72.length,.ref 7 0 s73.2.length]) (ob:=5) (w:=3) (ro:=false) (nr:=false) (fl:=false) kr kr (Qj q54) gE) <| hop 1 (fun _=>Qca (enc:=eoTapi_Node) (L:=s36.2) (n:=a51) (a:=(Sum.inl a53)) (A:=.agg [vI a53,.ref 6 0 x72.length,.ref 7 0 s73.2.length]) (ob:=5) (w:=3) (c:=0) (ro:=false) (nr:=false) (fl:=false) kr kr (Qj q54) gE) <| hop 6 (fun _=>Qbj (enc:=eoTapi_Node) (L:=s36.2) (n:=a51) (a:=(Sum.inl a53)) (A:=.agg [vI a53,.ref 6 0 x72.length,.ref 7 0 s73.2.length]) (ob:=5) (w:=3) (ro:=false) (nr:=false) (fl:=false) kr kr (Qj q54) gE) <| hop 1 (fun _=>Qca (enc:=eoTapi_Node) (L:=s36.2) (n:=a51) (a:=(Sum.inl a53)) (A:=.agg [vI a53,.ref 6 0 x72.length,.ref 7 0 s73.2.length]) (ob:=5) (w:=3) (c:=0) (ro:=false) (nr:=false) (fl:=false) kr kr (Qj q54) gE) <| hcl 2 [] (us:=[vI (i40_39 p0),vI a53,eL true (AV.int .u8) a49.W,vI (zw (s73.1*(zw (a53+1))))]) (rv:=fun x80=>z1 x80) (ro:=fun x80=>[]) (fun x80 q81=>Qx.froz (Qf9 (i40_39 p0) a53 a49.W (zw (s73.1*(zw (a53+1)))) x80 q81) (Zd (w:=1) (bx:=false) (ro:=false) (enc:=eI) (l:=x80) (fl:=true) rfl)) fun x80 _=>hop 0 (fun _=>sgL false [] [.lst true] false gE) <| hoh 0 (fun _ _ h k=>Z9 (enc:=z1) (l:=s73.2) (m:=([x80]:(List (List Int)))) (w:=1) (bytes:=24) (ob:=7) (nr:=true) (fl:=false) (nr':=true) (fl':=false) (b:=.ref 9 0 1) (rds:=[9]) false kr kr kr kr gE kr h k) <| ?_
      refine hop 0 (fun _=>Qbj (enc:=eoTapi_Node) (L:=s36.2) (n:=a51) (a:=(Sum.inl a53)) (A:=.agg [vI a53,.ref 6 0 x72.length,.ref 7 0 s73.2.length]) (ob:=5) (w:=3) (ro:=false) (nr:=false) (fl:=false) kr kr (Qj q54) gE) <| hop 1 (fun _=>Qmb (enc:=eoTapi_Node) (L:=s36.2) (n:=a51) (a:=(Sum.inl a53)) (A:=.agg [vI a53,.ref 6 0 x72.length,.ref 7 0 s73.2.length]) (ob:=5) (w:=3) (A':=.agg [vI a53,.ref 6 0 x72.length,.ref 10 0 ((s73.2++([x80]:(List (List Int)))).length)]) (v:=.ref 10 0 ((s73.2++([x80]:(List (List Int)))).length)) (c:=2) kr kr (Qj q54) kr kr gE kr) <| hnx 3 (wk_gcH (live:=[1,2,3,4,5,10,11,12,15]) (keep:=[0,1,2,3,4,5,6,10]) 5 eoTapi_Node s36.2 a51 (.agg [vI a53,.ref 6 0 x72.length,.ref 10 0 ((s73.2++([x80]:(List (List Int)))).length)]) 3 (fun f a=>by cases a <;> rfl) kr kr)
     refine hdx 1 (wk_gcH (live:=[1,2,3,4,5,10]) (keep:=[0,1,2,3,5,6,7]) 5 eoTapi_Node s36.2 a51 (.agg [vI a53,.ref 6 0 x72.length,.ref 7 0 s73.2.length]) 3 (fun f a=>by cases a <;> rfl) kr kr)
    refine hnx 3 (wk_trans (wk_gcH (live:=[1,2,3,4,5,10]) (keep:=[0,1,2,3,4,5,6]) 4 eoTapi_Node s36.2 a51 (.agg [vI a53,.ref 5 0 x72.length,.ref 6 0 x83.length]) 3 (fun f a=>by cases a <;> rfl) kr gE) (wk_trans (wcl 4 [F eI x72,F z1 x83] (enc:=eoTapi_Node) (L:=s36.2) (n:=a51) (A:=.agg [vI a53,.ref 5 0 x72.length,.ref 6 0 x83.length]) (bx:=false) (ro:=false) (nr:=false) (fl:=false) (w:=3) (Qj q54)) (wk_trans (wkv (fun z84=>⟨(s40_56 p0 x1)++[(10,vI (zw (s36.1+1)))],(l40_55 (o40_45 p0 s36) p0 x1)++[.row false false false false 3 z84,.row false true true true 1 (List.map eI x72),.row false true true false 1 (List.map z1 x83)],187⟩) (show ((Q6 eoTapi_Node s36.2 a51 (.agg [vI a53,.ref 5 0 x72.length,.ref 6 0 x83.length])).set (zt a51) (.agg [vI a53,z1 x72,z2 x83]))=List.map eoTapi_Node (List.set s36.2 (zt a51) (Sum.inr (Tapi_Node.mk a53 x72 x83))) from Qol (enc:=eoTapi_Node) (L:=s36.2) (n:=a51) (A:=.agg [vI a53,.ref 5 0 x72.length,.ref 6 0 x83.length]) (b:=(Sum.inr (Tapi_Node.mk a53 x72 x83))))) (wk_trans (Qrb 4 (enc:=eoTapi_Node) (L:=(List.set s36.2 (zt a51) (Sum.inr (Tapi_Node.mk a53 x72 x83)))) (bx:=false) (ro:=false) (nr:=false) (fl:=false) (w:=3) (fun a=>by cases a <;> rfl) kr rfl) (wk_trans (wkv (fun n85=>⟨(s40_56 p0 x1)++[(10,vI (zw (s36.1+1)))],(l40_55 (oX false false 2 (.agg [vI (i40_39 p0),.ref 4 0 n85])) p0 x1)++[oR false 3 eoTapi_Node (List.set s36.2 (zt a51) (Sum.inr (Tapi_Node.mk a53 x72 x83))),.row false true true true 1 (List.map eI x72),.row false true true false 1 (List.map z1 x83)],187⟩) (ls s36.2 (zt a51) (Sum.inr (Tapi_Node.mk a53 x72 x83)))) (wk_gc (live:=[1,2,3,4,5,10]) (keep:=[0,1,2,3,4]) kr))))))
   refine hbd fun a86 q87=>hop 3 (fun _=>Qz (enc:=eI) (l:=x1) (n:=s36.1) (w:=1) (ob:=3) (ro:=false) (nr:=true) (fl:=true) (a:=a86) kr kr gE q87) <| hop 0 (fun _=>Zn (enc:=eI) (l:=x1) (n:=s36.1) (w:=1) (ob:=3) (c:=0) (bx:=false) (ro:=false) (nr:=true) (fl:=true) (a:=a86) kr kr q87 gE) <| hbd fun a88 q89=>hwk 2 (Qre 4 (enc:=eoTapi_Node) (L:=s36.2) (n:=a86) (a:=(Sum.inl a88)) (A:=.agg [vI a88,.nils,.nils]) (Qj q89) kr (bx:=false) (ro:=false) (nr:=true) (fl:=false) (w:=3) kr rfl) <| hwk 0 (Qjl 4 1 1 true true (enc:=eoTapi_Node) (L:=s36.2) (n:=a86) (a:=(Sum.inl a88)) (A:=.agg [vI a88,.nils,.nils]) (A':=.agg [vI a88,.ref 6 0 0,.nils]) (y:=.nils) (bx:=false) (nr0:=true) (fl0:=false) (w0:=3) (Qj q89) kr kr kr kr rfl) <| hwk 0 (Qjl 4 2 1 true false (enc:=eoTapi_Node) (L:=s36.2) (n:=a86) (a:=(Sum.inl a88)) (A:=.agg [vI a88,.ref 6 0 0,.nils]) (A':=.agg [vI a88,.ref 6 0 0,.ref 7 0 0]) (y:=.nils) (bx:=false) (nr0:=false) (fl0:=false) (w0:=3) (Qj q89) kr kr kr kr rfl) <| hlp 0 (fun s90=>⟨(s40_56 p0 x1)++[(10,vI s36.1),(11,.ptr 4 0 0),(12,vI a86),(13,vI s90.1)],(l40_55 (K8 p0 s36) p0 x1)++[Qdz,.row false false false false 3 (Q6 eoTapi_Node s36.2 a86 (.agg [vI a88,.ref 6 0 s90.2.length,.ref 7 0 0])),oR true 1 eI s90.2,Qcn],187⟩) (fun v=>(.exit 4,⟨(s40_56 p0 x1)++[(10,vI s36.1),(11,.ptr 4 0 0),(12,vI a86)],(l40_55 (K8 p0 s36) p0 x1)++[Qdz,.row false false false false 3 (Q6 eoTapi_Node s36.2 a86 (.agg [vI a88,.ref 6 0 v.length,.ref 7 0 0])),oR true 1 eI v,Qcn],187⟩)) (wk_gcH (live:=[1,2,3,4,5,10,11,12,13]) (keep:=[0,1,2,3,5,4,6,7]) 4 eoTapi_Node s36.2 a86 (.agg [vI a88,.ref 6 0 0,.ref 7 0 0]) 3 (fun f a=>by cases a <;> rfl) kr kr) (fun s90=>?_) fun x107=>?_
   ·refine hbr 3 [98] (?_) ?_
    ·refine hlp 2 (fun s93=>⟨(s40_56 p0 x1)++[(10,vI s36.1),(11,.ptr 4 0 0),(12,vI a86),(13,vI s90.1),(14,vI s93.1)],(l40_55 (K8 p0 s36) p0 x1)++[Qdz,.row false false false false 3 (Q6 eoTapi_Node s36.2 a86 (.agg [vI a88,.ref 6 0 s93.2.length,.ref 7 0 0])),oR true 1 eI s93.2,Qcn],187⟩) (fun v=>(.exit 6,⟨(s40_56 p0 x1)++[(10,vI s36.1),(11,.ptr 4 0 0),(12,vI a86),(13,vI s90.1)],(l40_55 (K8 p0 s36) p0 x1)++[Qdz,.row false false false false 3 (Q6 eoTapi_Node s36.2 a86 (.agg [vI a88,.ref 6 0 v.length,.ref 7 0 0])),oR true 1 eI v,Qcn],187⟩)) (wk_gcH (live:=[1,2,3,4,5,10,11,12,13,14]) (keep:=[0,1,2,3,4,5,6,7]) 5 eoTapi_Node s36.2 a86 (.agg [vI a88,.ref 6 0 s90.2.length,.ref 7 0 0]) 3 (fun f a=>by cases a <;> rfl) kr kr) (fun s93=>?_) fun x105=>?_
     ·refine hbr 3 [103] (?_) ?_
      ·refine hbd fun a96 q97=>hop 3 (fun _=>Qz (enc:=eI) (l:=x1) (n:=s93.1) (w:=1) (ob:=3) (ro:=false) (nr:=true) (fl:=true) (a:=a96) kr kr gE q97) <| hop 0 (fun _=>Zn (enc:=eI) (l:=x1) (n:=s93.1) (w:=1) (ob:=3) (c:=0) (bx:=false) (ro:=false) (nr:=true) (fl:=true) (a:=a96) kr kr q97 gE) <| hbr 3 [111,112] (?_) ?_
       ·refine hoh 4 (fun _ _ h k=>Qbk (k:=.u8) (k':=.u64) (a:=0) (b:=zv (s93.1)) kr gE h k) <| hbr 4 [119,120,121] (?_) ?_
        ·refine hop 3 (fun _=>Qbj (enc:=eoTapi_Node) (L:=s36.2) (n:=a86) (a:=(Sum.inl a88)) (A:=.agg [vI a88,.ref 6 0 s93.2.length,.ref 7 0 0]) (ob:=5) (w:=3) (ro:=false) (nr:=false) (fl:=false) kr kr (Qj q89) gE) <| hop 1 (fun _=>Qca (enc:=eoTapi_Node) (L:=s36.2) (n:=a86) (a:=(Sum.inl a88)) (A:=.agg [vI a88,.ref 6 0 s93.2.length,.ref 7 0 0]) (ob:=5) (w:=3) (c:=1) (ro:=false) (nr:=false) (fl:=false) kr kr (Qj q89) gE) <| hbr 3 [129,130] (?_) ?_
         ·refine hop 8 (fun _=>Qbj (enc:=eoTapi_Node) (L:=s36.2) (n:=a86) (a:=(Sum.inl a88)) (A:=.agg [vI a88,.ref 6 0 s93.2.length,.ref 7 0 0]) (ob:=5) (w:=3) (ro:=false) (nr:=false) (fl:=false) kr kr (Qj q89) gE) <| hop 1 (fun _=>Qca (enc:=eoTapi_Node) (L:=s36.2) (n:=a86) (a:=(Sum.inl a88)) (A:=.agg [vI a88,.ref 6 0 s93.2.length,.ref 7 0 0]) (ob:=5) (w:=3) (c:=1) (ro:=false) (nr:=false) (fl:=false) kr kr (Qj q89) gE) <| hop 1 (fun _=>sgL false [] [] true gE) <| hoh 0 (fun _ _ h k=>Z9 (enc:=eI) (l:=s93.2) (m:=([s90.1]:(List Int))) (w:=1) (bytes:=8) (ob:=6) (nr:=true) (fl:=true) (nr':=true) (fl':=true) (b:=.ref 8 0 1) (rds:=[8]) false kr kr kr kr gE kr h k) <| hop 0 (fun _=>Qbj (enc:=eoTapi_Node) (L:=s36.2) (n:=a86) (a:=(Sum.inl a88)) (A:=.agg [vI a88,.ref 6 0 s93.2.length,.ref 7 0 0]) (ob:=5) (w:=3) (ro:=false) (nr:=false) (fl:=false) kr kr (Qj q89) gE) <| hop 1 (fun _=>Qmb (enc:=eoTapi_Node) (L:=s36.2) (n:=a86) (a:=(Sum.inl a88)) (A:=.agg [vI a88,.ref 6 0 s93.2.length,.ref 7 0 0]) (ob:=5) (w:=3) (A':=.agg [vI a88,.ref 9 0 ((s93.2++([s90.1]:(List Int))).length),.ref 7 0 0]) (v:=.ref 9 0 ((s93.2++([s90.1]:(List Int))).length)) (c:=1) kr kr (Qj q89) kr kr gE kr) <| hnx 3 (wk_gcH (live:=[1,2,3,4,5,10,11,12,13,14]) (keep:=[0,1,2,3,4,5,9,7]) 5 eoTapi_Node s36.2 a86 (.agg [vI a88,.ref 9 0 ((s93.2++([s90.1]:(List Int))).length),.ref 7 0 0]) 3 (fun f a=>by cases a <;> rfl) kr kr)
         refine hnx 4 (wk_gcH (live:=[1,2,3,4,5,10,11,12,13,14]) (keep:=[0,1,2,3,4,5,6,7]) 5 eoTapi_Node s36.2 a86 (.agg [vI a88,.ref 6 0 s93.2.length,.ref 7 0 0]) 3 (fun f a=>by cases a <;> rfl) kr kr)
        refine hnx 13 (wk_gcH (live:=[1,2,3,4,5,10,11,12,13,14]) (keep:=[0,1,2,3,4,5,6,7]) 5 eoTapi_Node s36.2 a86 (.agg [vI a88,.ref 6 0 s93.2.length,.ref 7 0 0]) 3 (fun f a=>by cases a <;> rfl) kr kr)
       refine hnx 22 (wk_gcH (live:=[1,2,3,4,5,10,11,12,13,14]) (keep:=[0,1,2,3,4,5,6,7]) 5 eoTapi_Node s36.2 a86 (.agg [vI a88,.ref 6 0 s93.2.length,.ref 7 0 0]) 3 (fun f a=>by cases a <;> rfl) kr kr)
      refine hdx 1 (wk_gcH (live:=[1,2,3,4,5,10,11,12,13]) (keep:=[0,1,2,3,4,5,6,7]) 5 eoTapi_Node s36.2 a86 (.agg [vI a88,.ref 6 0 s93.2.length,.ref 7 0 0]) 3 (fun f a=>by cases a <;> rfl) kr kr)
     refine hnx 3 (wk_gcH (live:=[1,2,3,4,5,10,11,12,13]) (keep:=[0,1,2,3,4,5,6,7]) 5 eoTapi_Node s36.2 a86 (.agg [vI a88,.ref 6 0 x105.length,.ref 7 0 0]) 3 (fun f a=>by cases a <;> rfl) kr kr)
    refine hdx 1 (wk_gcH (live:=[1,2,3,4,5,10,11,12]) (keep:=[0,1,2,3,4,5,6,7]) 5 eoTapi_Node s36.2 a86 (.agg [vI a88,.ref 6 0 s90.2.length,.ref 7 0 0]) 3 (fun f a=>by cases a <;> rfl) kr kr)
   refine hlp 1 (fun s108=>⟨(s40_56 p0 x1)++[(10,vI s36.1),(11,.ptr 4 0 0),(12,vI a86),(15,vI s108.1)],(l40_55 (K8 p0 s36) p0 x1)++[Qdz,.row false false false false 3 (Q6 eoTapi_Node s36.2 a86 (.agg [vI a88,.ref 6 0 x107.length,.ref 7 0 s108.2.length])),oR true 1 eI x107,oR false 1 z1 s108.2],187⟩) (fun v=>(.exit 8,⟨(s40_56 p0 x1)++[(10,vI s36.1)],(l40_55 (o40_45 p0 s36) p0 x1)++[.row false false false false 3 (Q6 eoTapi_Node s36.2 a86 (.agg [vI a88,.ref 5 0 x107.length,.ref 6 0 v.length])),oR true 1 eI x107,oR false 1 z1 v],187⟩)) (wk_gcH (live:=[1,2,3,4,5,10,11,12,15]) (keep:=[0,1,2,3,4,5,6,7]) 5 eoTapi_Node s36.2 a86 (.agg [vI a88,.ref 6 0 x107.length,.ref 7 0 0]) 3 (fun f a=>by cases a <;> rfl) kr kr) (fun s108=>?_) fun x118=>?_
   ·refine hoa 3 (fun _ _ h k=>Qti (f:=36) (as0:=[.agg [vI (i40_39 p0),.ref 5 0 s36.2.length],vI a86]) (us:=[.agg [vI (i40_39 p0),.lst false (Q6 eoTapi_Node s36.2 a86 (.agg [vI a88,z1 x107,z2 s108.2]))],vI a86]) (ids:=[5,6,7]) (G:=Z2 (Qf.mk (i40_39 p0) (List.set (List.map coTapi_Node s36.2) (zt a86) (Tapi_Node.mk a88 x107 s108.2))) a86) (rv:=fun x109=>.ref 0 0 x109.length) (ro:=fun x109=>[oR true 1 eI x109]) kr Qpw (Qt (Kk (Qt rfl (Qt (Qng (enc:=eoTapi_Node) (L:=s36.2) (N:=a86) (A:=.agg [vI a88,.ref 6 0 x107.length,.ref 7 0 s108.2.length]) (A':=.agg [vI a88,z1 x107,z2 s108.2]) (a:=(Sum.inl a88)) (w:=3) (bx:=false) (ro:=false) (fl:=false) kr (Qj q89) (fun a=>by cases a <;> rfl) (Kk (Qt rfl (Qt (Zd (w:=1) (bx:=false) (ro:=false) (enc:=eI) (l:=x107) (fl:=true) kr) (Qt (Zd (w:=1) (bx:=false) (ro:=false) (enc:=z1) (l:=s108.2) (fl:=false) kr) Y1 (by rfl)) (by rfl)) (by rfl)))) Y1 (by rfl)) (by rfl))) (Qt rfl Y1 (by rfl)) (by rfl)) (fun x109 q110=>Qx.argsE (Vm.cons (K1.agg (Vm.cons K1.refl rfl (Vm.cons (K1.lst [.keep,.lst true,.lst false] (Qjz (conv:=coTapi_Node) (enc2:=eTapi_Node) (b:=(Tapi_Node.mk a88 x107 s108.2)) [.keep,.lst true,.lst false] (fun a=>by cases a <;> rfl) rfl)) rfl Vm.nil))) rfl (Vm.cons K1.refl rfl Vm.nil)) (K9 (Qf.mk (i40_39 p0) (List.set (List.map coTapi_Node s36.2) (zt a86) (Tapi_Node.mk a88 x107 s108.2))) a86 x109 q110)) gF h k) fun x109 _=>hcl 0 [F eI x109] (Qep x109) fun x111 _=>hbr 1 [150] (?_) ?_
    ·refine hop 8 (fun _=>Qbj (enc:=eoTapi_Node) (L:=s36.2) (n:=a86) (a:=(Sum.inl a88)) (A:=.agg [vI a88,.ref 6 0 x107.length,.ref 7 0 s108.2.length]) (ob:=5) (w:=3) (ro:=false) (nr:=false) (fl:=false) kr kr (Qj q89) gE) <| hop 1 (fun _=>Qca (enc:=eoTapi_Node) (L:=s36.2) (n:=a86) (a:=(Sum.inl a88)) (A:=.agg [vI a88,.ref 6 0 x107.length,.ref 7 0 s108.2.length]) (ob:=5) (w:=3) (c:=2) (ro:=false) (nr:=false) (fl:=false) kr kr (Qj q89) gE) <| hop 5 (fun _=>Qbj (enc:=eoTapi_Node) (L:=s36.2) (n:=a86) (a:=(Sum.inl a88)) (A:=.agg [vI a88,.ref 6 0 x107.length,.ref 7 0 s108.2.length]) (ob:=5) (w:=3) (ro:=false) (nr:=false) (fl:=false) kr kr (Qj q89) gE) <| hop 1 (fun _=>Qca (enc:=eoTapi_Node) (L:=s36.2) (n:=a86) (a:=(Sum.inl a88)) (A:=.agg [vI a88,.ref 6 0 x107.length,.ref 7 0 s108.2.length]) (ob:=5) (w:=3) (c:=0) (ro:=false) (nr:=false) (fl:=false) kr kr (Qj q89) gE) <| hop 6 (fun _=>Qbj (enc:=eoTapi_Node) (L:=s36.2) (n:=a86) (a:=(Sum.inl a88)) (A:=.agg [vI a88,.ref 6 0 x107.length,.ref 7 0 s108.2.length]) (ob:=5) (w:=3) (ro:=false) (nr:=false) (fl:=false) kr kr (Qj q89) gE) <| hop 1 (fun _=>Qca (enc:=eoTapi_Node) (L:=s36.2) (n:=a86) (a:=(Sum.inl a88)) (A:=.agg [vI a88,.ref 6 0 x107.length,.ref 7 0 s108.2.length]) (ob:=5) (w:=3) (c:=0) (ro:=false) (nr:=false) (fl:=false) kr kr (Qj q89) gE) <| hcl 2 [] (us:=[vI (i40_39 p0),vI a88,.nils,vI (zw (s108.1*(zw (a88+1))))]) (rv:=fun x115=>z1 x115) (ro:=fun x115=>[]) (fun x115 q116=>Qx.args [[.keep],[.keep],[.lst true],[.keep]] (Qx.froz (Qf9 (i40_39 p0) a88 [] (zw (s108.1*(zw (a88+1)))) x115 q116) (Zd (w:=1) (bx:=false) (ro:=false) (enc:=eI) (l:=x115) (fl:=true) rfl))) fun x115 _=>hop 0 (fun _=>sgL false [] [.lst true] false gE) <| hoh 0 (fun _ _ h k=>Z9 (enc:=z1) (l:=s108.2) (m:=([x115]:(List (List Int)))) (w:=1) (bytes:=24) (ob:=7) (nr:=true) (fl:=false) (nr':=true) (fl':=false) (b:=.ref 9 0 1) (rds:=[9]) false kr kr kr kr gE kr h k) <| ?_
     refine hop 0 (fun _=>Qbj (enc:=eoTapi_Node) (L:=s36.2) (n:=a86) (a:=(Sum.inl a88)) (A:=.agg [vI a88,.ref 6 0 x107.length,.ref 7 0 s108.2.length]) (ob:=5) (w:=3) (ro:=false) (nr:=false) (fl:=false) kr kr (Qj q89) gE) <| hop 1 (fun _=>Qmb (enc:=eoTapi_Node) (L:=s36.2) (n:=a86) (a:=(Sum.inl a88)) (A:=.agg [vI a88,.ref 6 0 x107.length,.ref 7 0 s108.2.length]) (ob:=5) (w:=3) (A':=.agg [vI a88,.ref 6 0 x107.length,.ref 10 0 ((s108.2++([x115]:(List (List Int)))).length)]) (v:=.ref 10 0 ((s108.2++([x115]:(List (List Int)))).length)) (c:=2) kr kr (Qj q89) kr kr gE kr) <| hnx 3 (wk_gcH (live:=[1,2,3,4,5,10,11,12,15]) (keep:=[0,1,2,3,4,5,6,10]) 5 eoTapi_Node s36.2 a86 (.agg [vI a88,.ref 6 0 x107.length,.ref 10 0 ((s108.2++([x115]:(List (List Int)))).length)]) 3 (fun f a=>by cases a <;> rfl) kr kr)
    refine hdx 1 (wk_gcH (live:=[1,2,3,4,5,10]) (keep:=[0,1,2,3,5,6,7]) 5 eoTapi_Node s36.2 a86 (.agg [vI a88,.ref 6 0 x107.length,.ref 7 0 s108.2.length]) 3 (fun f a=>by cases a <;> rfl) kr kr)
   refine hnx 3 (wk_trans (wk_gcH (live:=[1,2,3,4,5,10]) (keep:=[0,1,2,3,4,5,6]) 4 eoTapi_Node s36.2 a86 (.agg [vI a88,.ref 5 0 x107.length,.ref 6 0 x118.length]) 3 (fun f a=>by cases a <;> rfl) kr gE) (wk_trans (wcl 4 [F eI x107,F z1 x118] (enc:=eoTapi_Node) (L:=s36.2) (n:=a86) (A:=.agg [vI a88,.ref 5 0 x107.length,.ref 6 0 x118.length]) (bx:=false) (ro:=false) (nr:=false) (fl:=false) (w:=3) (Qj q89)) (wk_trans (wkv (fun z119=>⟨(s40_56 p0 x1)++[(10,vI (zw (s36.1+1)))],(l40_55 (o40_45 p0 s36) p0 x1)++[.row false false false false 3 z119,.row false true true true 1 (List.map eI x107),.row false true true false 1 (List.map z1 x118)],187⟩) (show ((Q6 eoTapi_Node s36.2 a86 (.agg [vI a88,.ref 5 0 x107.length,.ref 6 0 x118.length])).set (zt a86) (.agg [vI a88,z1 x107,z2 x118]))=List.map eoTapi_Node (List.set s36.2 (zt a86) (Sum.inr (Tapi_Node.mk a88 x107 x118))) from Qol (enc:=eoTapi_Node) (L:=s36.2) (n:=a86) (A:=.agg [vI a88,.ref 5 0 x107.length,.ref 6 0 x118.length]) (b:=(Sum.inr (Tapi_Node.mk a88 x107 x118))))) (wk_trans (Qrb 4 (enc:=eoTapi_Node) (L:=(List.set s36.2 (zt a86) (Sum.inr (Tapi_Node.mk a88 x107 x118)))) (bx:=false) (ro:=false) (nr:=false) (fl:=false) (w:=3) (fun a=>by cases a <;> rfl) kr rfl) (wk_trans (wkv (fun n120=>⟨(s40_56 p0 x1)++[(10,vI (zw (s36.1+1)))],(l40_55 (oX false false 2 (.agg [vI (i40_39 p0),.ref 4 0 n120])) p0 x1)++[oR false 3 eoTapi_Node (List.set s36.2 (zt a86) (Sum.inr (Tapi_Node.mk a88 x107 x118))),.row false true true true 1 (List.map eI x107),.row false true true false 1 (List.map z1 x118)],187⟩) (ls s36.2 (zt a86) (Sum.inr (Tapi_Node.mk a88 x107 x118)))) (wk_gc (live:=[1,2,3,4,5,10]) (keep:=[0,1,2,3,4]) kr))))))
  refine hdx 1 (wz [1,2,4])
 refine hbd fun m123 q124=>hkn 2 (fun z125=>⟨[(2,.ptr 0 0 0),(4,.ptr 1 0 0),(186,.agg [vI (i40_39 p0),.ref 2 0 x122.length])],[oX false false 2 (.agg [vI (i40_39 p0),.ref 2 0 x122.length]),oX false false 2 (.agg [vI (i40_39 p0),.ref 2 0 x122.length]),.row false false true false 3 z125],187⟩) (Qyu (enc:=eoTapi_Node) (enc2:=eTapi_Node) q124 (fun _=>rfl)) <| hkn 0 (fun n126=>⟨[(2,.ptr 0 0 0),(4,.ptr 1 0 0),(186,.agg [vI (i40_39 p0),.ref 2 0 n126])],[oX false false 2 (.agg [vI (i40_39 p0),.ref 2 0 n126]),oX false false 2 (.agg [vI (i40_39 p0),.ref 2 0 n126]),.row false false true false 3 (List.map eTapi_Node m123)],187⟩) (Qyf q124) <| hrt 1
end
section
attribute [local irreducible] RW WP
noncomputable abbrev Qp0 (p0:Qf):AObj:=oX true false 2 (.agg [vI p0.Grain,eL false eTapi_Node p0.Nodes])
theorem g_ref05_ParentSets_ok (p0:Qf):Ct Tryd.prog 47 [.agg [vI p0.Grain,eL false eTapi_Node p0.Nodes]] (V9 p0) (fun x=>.ref 0 0 x.length) (fun x=>[oR true 1 (AV.int .u64) x]):=by
 refine hfn [] Tryd.func47 <| hop 0 (fun _=>sgL false [] [] false gE) <| hlp 3 (fun s1=>⟨[(1,.ptr 0 0 0),(3,.ref 1 0 s1.2.length),(4,vI s1.1)],[(Qp0 p0),oR true 1 (AV.int .u64) s1.2],43⟩) (fun v=>(.exit 0,⟨[(3,.ref 0 0 v.length)],[oR true 1 (AV.int .u64) v],43⟩)) (wk_trans (wk_gc (live:=[1,3,4]) (keep:=[0]) gE) (wk_trans (Y3 3 1 true true gE) (wk_gc (live:=[1,3,4]) (keep:=[0,1]) kr))) (fun s1=>?_) fun x14=>?_
 ·refine hop 3 (fun _=>Qq (enc:=eTapi_Node) (l:=p0.Nodes) (fl:=false) kr gE) <| hbr 1 [11] (?_) ?_
  ·refine hlp 3 (fun s4=>⟨[(1,.ptr 0 0 0),(3,.ref 1 0 s1.2.length),(4,vI s1.1),(5,.int .u64 s4.1),(6,vI s4.2)],[(Qp0 p0),oR true 1 (AV.int .u64) s1.2],43⟩) (fun v=>(.exit 2,⟨[(1,.ptr 0 0 0),(3,.ref 1 0 s1.2.length),(4,vI s1.1),(5,.int .u64 v)],[(Qp0 p0),oR true 1 (AV.int .u64) s1.2],43⟩)) (wz [0,1]) (fun s4=>?_) fun x12=>?_
   ·refine hbd fun a5 q6=>hop 4 (fun _=>Qn (enc:=eTapi_Node) (l:=p0.Nodes) (n:=s1.1) (fl:=false) (w:=3) (a:=a5) kr kr gE q6) <| hop 2 (fun _=>Qq (enc:=eI) (l:=a5.Parents) (fl:=true) kr gE) <| hbr 1 [22] (?_) ?_
    ·refine hop 5 (fun _=>Qn (enc:=eTapi_Node) (l:=p0.Nodes) (n:=s1.1) (fl:=false) (w:=3) (a:=a5) kr kr gE q6) <| hbd fun a9 q10=>hop 3 (fun _=>Qn (enc:=eI) (l:=a5.Parents) (n:=s4.2) (fl:=true) (w:=1) (a:=a9) kr kr gE q10) <| hoh 2 (fun _ _ h k=>Vg (k:=.u64) (k':=.u64) (a:=1) (b:=zv (a9)) kr gE h k) <| hnx 5 (wz [0,1])
    refine hdx 1 (wz [0,1])
   refine hop 2 (fun _=>sgL false [] [] true gE) <| hoh 0 (fun _ _ h k=>Z9 (enc:=(AV.int .u64)) (l:=s1.2) (m:=([x12]:(List Int))) (w:=1) (bytes:=8) (ob:=1) (nr:=true) (fl:=true) (nr':=true) (fl':=true) (b:=.ref 2 0 1) (rds:=[2]) false kr kr kr kr gE kr h k) <| hnx 4 (wz [0,3])
  refine hdx 1 (wz [1])
 refine hrt 3
theorem Qjq (p0:Qf) (p1:Int):Ct Tryd.prog 40 [.agg [vI p0.Grain,eL false eTapi_Node p0.Nodes],vI p1] (Kn p0 p1) (fun x=>.int .u64 x) (fun x=>[]):=by
 refine hfn [] Tryd.func40 <| hop 0 (fun _=>sgL false [] [] false gE) <| hcl 2 [] (g_ref05_ParentSets_ok p0) fun x1 _=>hbd fun a3 q4=>hop 1 (fun _=>Qz (enc:=(AV.int .u64)) (l:=x1) (n:=p1) (w:=1) (ob:=1) (ro:=false) (nr:=true) (fl:=true) (a:=a3) kr kr gE q4) <| hop 0 (fun _=>Zn (enc:=(AV.int .u64)) (l:=x1) (n:=p1) (w:=1) (ob:=1) (c:=0) (bx:=false) (ro:=false) (nr:=true) (fl:=true) (a:=a3) kr kr q4 gE) <| hoh 2 (fun _ _ h k=>Vg (k:=.u64) (k':=.u64) (a:=1) (b:=zv (p1)) kr gE h k) <| hrt 3
noncomputable abbrev Qbd (p2:(Int × Int × Int × Int × Int × Int × Int × Int)):AObj:=oX true true 8 (.agg [.int .u8 p2.1,.int .u8 p2.2.1,.int .u8 p2.2.2.1,.int .u8 p2.2.2.2.1,.int .u8 p2.2.2.2.2.1,.int .u8 p2.2.2.2.2.2.1,.int .u8 p2.2.2.2.2.2.2.1,.int .u8 p2.2.2.2.2.2.2.2])
noncomputable abbrev Qcu (a0 a1 a2 a3:Nat×AV) (p0 p1:Int):List (Nat×AV):=[(0,vI p0),(1,vI p1),(5,.ptr 0 0 0),a0,a1,a2,(12,vI p0),(13,vB true),a3,(17,vI p1),(18,vB false)]
theorem Qjr (p0:Int) (p1:Int) (p2:(Int × Int × Int × Int × Int × Int × Int × Int)):Ct Tryd.prog 13 [vI p0,vI p1,.agg [.int .u8 p2.1,.int .u8 p2.2.1,.int .u8 p2.2.2.1,.int .u8 p2.2.2.2.1,.int .u8 p2.2.2.2.2.1,.int .u8 p2.2.2.2.2.2.1,.int .u8 p2.2.2.2.2.2.2.1,.int .u8 p2.2.2.2.2.2.2.2]] (Jl p0 p1 p2) (fun x=>.ref 0 0 x.length) (fun x=>[oR true 1 eI x]):=by
 refine hfn [] Tryd.func13 <| hlp 4 (fun s1=>⟨[(0,vI p0),(1,vI p1),(5,.ptr 0 0 0),(7,.ref 1 0 s1.2.length),(8,vI s1.1)],[(Qbd p2),oR true 1 eI s1.2],42⟩) (fun v=>(.exit 0,⟨[(7,.ref 0 0 v.length)],[oR true 1 eI v],42⟩)) (wk_trans (wk_gc (live:=[0,1,5,7,8]) (keep:=[0]) gE) (wk_trans (Y3 7 1 true true gE) (wk_gc (live:=[0,1,5,7,8]) (keep:=[0,1]) kr))) (fun s1=>?_) fun x31=>?_
 ·refine hbr 3 [13] (?_) ?_
  ·refine hbr 4 [18] (hwk 1 (wl [0,1,5,7,8] [0,1]) <| hnx 4 (wz [0,1])) <| ?_
   refine hqi 3 (fun n6=>⟨(Qcu (7,.ref 1 0 s1.2.length) (8,vI s1.1) (11,vI s1.1) (16,vI s1.1) p0 p1)++[(19,vI s1.1),(20,vI n6)],[(Qbd p2),oR true 1 eI s1.2],42⟩) (fun _=>?_) (fun _=>?_)
   ·refine hoh 6 (fun _ _ h k=>Qfd (k:=.i64) (a:=zw (p2.1)) (b:=zw ((zn s1.2)+1)) kr gE h k) <| hoq 5 (fun _ _ h k=>Z0 (enc:=eI) (l:=s1.2) (ob:=1) (ro:=false) (nr:=true) (fl:=true) (lo:=none) (hi:=(some (vI (Int.tmod (zw (p2.1)) (zw ((zn s1.2)+1)))))) (a:=0) (b:=Int.tmod (zw (p2.1)) (zw ((zn s1.2)+1))) (w:=1) kr kr kr kr gE h k) fun q7=>hoh 0 (fun _ _ h k=>Qea (enc:=eI) (m:=(sub s1.2 0 (Int.tmod (zw (p2.1)) (zw ((zn s1.2)+1))))) (w:=1) (bytes:=8) (nr':=true) (fl':=true) (a:=.nils) (b:=.ref 1 0 (zt (Int.tmod (zw (p2.1)) (zw ((zn s1.2)+1))) - zt (0:Int))) (rds:=[1]) false kr (.inl rfl) (Q3 (a:=0) (b:=Int.tmod (zw (p2.1)) (zw ((zn s1.2)+1))) (ro:=false) kr q7) kr gE kr h k) <| hop 1 (fun _=>sgL false [] [] true gE) <| hoh 0 (fun _ _ h k=>Z9 (enc:=eI) (l:=(sub s1.2 0 (Int.tmod (zw (p2.1)) (zw ((zn s1.2)+1))))) (m:=([s1.1]:(List Int))) (w:=1) (bytes:=8) (ob:=2) (nr:=true) (fl:=true) (nr':=true) (fl':=true) (b:=.ref 3 0 1) (rds:=[3]) false kr kr kr kr gE kr h k) <| hoq 4 (fun _ _ h k=>Z0 (enc:=eI) (l:=s1.2) (ob:=1) (ro:=false) (nr:=true) (fl:=true) (lo:=(some (vI (Int.tmod (zw (p2.1)) (zw ((zn s1.2)+1)))))) (hi:=none) (a:=Int.tmod (zw (p2.1)) (zw ((zn s1.2)+1))) (b:=(zn s1.2)) (w:=1) kr kr kr kr gE h k) fun q8=>hoh 0 (fun _ _ h k=>Z9 (enc:=eI) (l:=((sub s1.2 0 (Int.tmod (zw (p2.1)) (zw ((zn s1.2)+1))))++([s1.1]:(List Int)))) (m:=(sub s1.2 (Int.tmod (zw (p2.1)) (zw ((zn s1.2)+1))) (zn s1.2))) (w:=1) (bytes:=8) (ob:=4) (nr:=true) (fl:=true) (nr':=true) (fl':=true) (b:=.ref 1 (zt (Int.tmod (zw (p2.1)) (zw ((zn s1.2)+1)))) (zt (zn s1.2) - zt (Int.tmod (zw (p2.1)) (zw ((zn s1.2)+1))))) (rds:=[1]) false kr kr (Q3 (a:=Int.tmod (zw (p2.1)) (zw ((zn s1.2)+1))) (b:=(zn s1.2)) (ro:=false) kr q8) kr gE kr h k) <| hnx 4 (wz [0,5])
   refine hqi 0 (fun n9=>⟨(Qcu (7,.ref 1 0 s1.2.length) (8,vI s1.1) (11,vI s1.1) (16,vI s1.1) p0 p1)++[(19,vI s1.1),(20,vI n9)],[(Qbd p2),oR true 1 eI s1.2],42⟩) (fun _=>?_) (fun _=>?_)
   ·refine hoh 6 (fun _ _ h k=>Qfd (k:=.i64) (a:=zw (p2.2.1)) (b:=zw ((zn s1.2)+1)) kr gE h k) <| hoq 5 (fun _ _ h k=>Z0 (enc:=eI) (l:=s1.2) (ob:=1) (ro:=false) (nr:=true) (fl:=true) (lo:=none) (hi:=(some (vI (Int.tmod (zw (p2.2.1)) (zw ((zn s1.2)+1)))))) (a:=0) (b:=Int.tmod (zw (p2.2.1)) (zw ((zn s1.2)+1))) (w:=1) kr kr kr kr gE h k) fun q10=>hoh 0 (fun _ _ h k=>Qea (enc:=eI) (m:=(sub s1.2 0 (Int.tmod (zw (p2.2.1)) (zw ((zn s1.2)+1))))) (w:=1) (bytes:=8) (nr':=true) (fl':=true) (a:=.nils) (b:=.ref 1 0 (zt (Int.tmod (zw (p2.2.1)) (zw ((zn s1.2)+1))) - zt (0:Int))) (rds:=[1]) false kr (.inl rfl) (Q3 (a:=0) (b:=Int.tmod (zw (p2.2.1)) (zw ((zn s1.2)+1))) (ro:=false) kr q10) kr gE kr h k) <| hop 1 (fun _=>sgL false [] [] true gE) <| hoh 0 (fun _ _ h k=>Z9 (enc:=eI) (l:=(sub s1.2 0 (Int.tmod (zw (p2.2.1)) (zw ((zn s1.2)+1))))) (m:=([s1.1]:(List Int))) (w:=1) (bytes:=8) (ob:=2) (nr:=true) (fl:=true) (nr':=true) (fl':=true) (b:=.ref 3 0 1) (rds:=[3]) false kr kr kr kr gE kr h k) <| hoq 4 (fun _ _ h k=>Z0 (enc:=eI) (l:=s1.2) (ob:=1) (ro:=false) (nr:=true) (fl:=true) (lo:=(some (vI (Int.tmod (zw (p2.2.1)) (zw ((zn s1.2)+1)))))) (hi:=none) (a:=Int.tmod (zw (p2.2.1)) (zw ((zn s1.2)+1))) (b:=(zn s1.2)) (w:=1) kr kr kr kr gE h k) fun q11=>hoh 0 (fun _ _ h k=>Z9 (enc:=eI) (l:=((sub s1.2 0 (Int.tmod (zw (p2.2.1)) (zw ((zn s1.2)+1))))++([s1.1]:(List Int)))) (m:=(sub s1.2 (Int.tmod (zw (p2.2.1)) (zw ((zn s1.2)+1))) (zn s1.2))) (w:=1) (bytes:=8) (ob:=4) (nr:=true) (fl:=true) (nr':=true) (fl':=true) (b:=.ref 1 (zt (Int.tmod (zw (p2.2.1)) (zw ((zn s1.2)+1)))) (zt (zn s1.2) - zt (Int.tmod (zw (p2.2.1)) (zw ((zn s1.2)+1))))) (rds:=[1]) false kr kr (Q3 (a:=Int.tmod (zw (p2.2.1)) (zw ((zn s1.2)+1))) (b:=(zn s1.2)) (ro:=false) kr q11) kr gE kr h k) <| hnx 4 (wz [0,5])
   refine hqi 0 (fun n12=>⟨(Qcu (7,.ref 1 0 s1.2.length) (8,vI s1.1) (11,vI s1.1) (16,vI s1.1) p0 p1)++[(19,vI s1.1),(20,vI n12)],[(Qbd p2),oR true 1 eI s1.2],42⟩) (fun _=>?_) (fun _=>?_)
   ·refine hoh 6 (fun _ _ h k=>Qfd (k:=.i64) (a:=zw (p2.2.2.1)) (b:=zw ((zn s1.2)+1)) kr gE h k) <| hoq 5 (fun _ _ h k=>Z0 (enc:=eI) (l:=s1.2) (ob:=1) (ro:=false) (nr:=true) (fl:=true) (lo:=none) (hi:=(some (vI (Int.tmod (zw (p2.2.2.1)) (zw ((zn s1.2)+1)))))) (a:=0) (b:=Int.tmod (zw (p2.2.2.1)) (zw ((zn s1.2)+1))) (w:=1) kr kr kr kr gE h k) fun q13=>hoh 0 (fun _ _ h k=>Qea (enc:=eI) (m:=(sub s1.2 0 (Int.tmod (zw (p2.2.2.1)) (zw ((zn s1.2)+1))))) (w:=1) (bytes:=8) (nr':=true) (fl':=true) (a:=.nils) (b:=.ref 1 0 (zt (Int.tmod (zw (p2.2.2.1)) (zw ((zn s1.2)+1))) - zt (0:Int))) (rds:=[1]) false kr (.inl rfl) (Q3 (a:=0) (b:=Int.tmod (zw (p2.2.2.1)) (zw ((zn s1.2)+1))) (ro:=false) kr q13) kr gE kr h k) <| hop 1 (fun _=>sgL false [] [] true gE) <| hoh 0 (fun _ _ h k=>Z9 (enc:=eI) (l:=(sub s1.2 0 (Int.tmod (zw (p2.2.2.1)) (zw ((zn s1.2)+1))))) (m:=([s1.1]:(List Int))) (w:=1) (bytes:=8) (ob:=2) (nr:=true) (fl:=true) (nr':=true) (fl':=true) (b:=.ref 3 0 1) (rds:=[3]) false kr kr kr kr gE kr h k) <| hoq 4 (fun _ _ h k=>Z0 (enc:=eI) (l:=s1.2) (ob:=1) (ro:=false) (nr:=true) (fl:=true) (lo:=(some (vI (Int.tmod (zw (p2.2.2.1)) (zw ((zn s1.2)+1)))))) (hi:=none) (a:=Int.tmod (zw (p2.2.2.1)) (zw ((zn s1.2)+1))) (b:=(zn s1.2)) (w:=1) kr kr kr kr gE h k) fun q14=>hoh 0 (fun _ _ h k=>Z9 (enc:=eI) (l:=((sub s1.2 0 (Int.tmod (zw (p2.2.2.1)) (zw ((zn s1.2)+1))))++([s1.1]:(List Int)))) (m:=(sub s1.2 (Int.tmod (zw (p2.2.2.1)) (zw ((zn s1.2)+1))) (zn s1.2))) (w:=1) (bytes:=8) (ob:=4) (nr:=true) (fl:=true) (nr':=true) (fl':=true) (b:=.ref 1 (zt (Int.tmod (zw (p2.2.2.1)) (zw ((zn s1.2)+1)))) (zt (zn s1.2) - zt (Int.tmod (zw (p2.2.2.1)) (zw ((zn s1.2)+1))))) (rds:=[1]) false kr kr (Q3 (a:=Int.tmod (zw (p2.2.2.1)) (zw ((zn s1.2)+1))) (b:=(zn s1.2)) (ro:=false) kr q14) kr gE kr h k) <| hnx 4 (wz [0,5])
   refine hqi 0 (fun n15=>⟨(Qcu (7,.ref 1 0 s1.2.length) (8,vI s1.1) (11,vI s1.1) (16,vI s1.1) p0 p1)++[(19,vI s1.1),(20,vI n15)],[(Qbd p2),oR true 1 eI s1.2],42⟩) (fun _=>?_) (fun _=>?_)
   ·refine hoh 6 (fun _ _ h k=>Qfd (k:=.i64) (a:=zw (p2.2.2.2.1)) (b:=zw ((zn s1.2)+1)) kr gE h k) <| hoq 5 (fun _ _ h k=>Z0 (enc:=eI) (l:=s1.2) (ob:=1) (ro:=false) (nr:=true) (fl:=true) (lo:=none) (hi:=(some (vI (Int.tmod (zw (p2.2.2.2.1)) (zw ((zn s1.2)+1)))))) (a:=0) (b:=Int.tmod (zw (p2.2.2.2.1)) (zw ((zn s1.2)+1))) (w:=1) kr kr kr kr gE h k) fun q16=>hoh 0 (fun _ _ h k=>Qea (enc:=eI) (m:=(sub s1.2 0 (Int.tmod (zw (p2.2.2.2.1)) (zw ((zn s1.2)+1))))) (w:=1) (bytes:=8) (nr':=true) (fl':=true) (a:=.nils) (b:=.ref 1 0 (zt (Int.tmod (zw (p2.2.2.2.1)) (zw ((zn s1.2)+1))) - zt (0:Int))) (rds:=[1]) false kr (.inl rfl) (Q3 (a:=0) (b:=Int.tmod (zw (p2.2.2.2.1)) (zw ((zn s1.2)+1))) (ro:=false) kr q16) kr gE kr h k) <| hop 1 (fun _=>sgL false [] [] true gE) <| hoh 0 (fun _ _ h k=>Z9 (enc:=eI) (l:=(sub s1.2 0 (Int.tmod (zw (p2.2.2.2.1)) (zw ((zn s1.2)+1))))) (m:=([s1.1]:(List Int))) (w:=1) (bytes:=8) (ob:=2) (nr:=true) (fl:=true) (nr':=true) (fl':=true) (b:=.ref 3 0 1) (rds:=[3]) false kr kr kr kr gE kr h k) <| hoq 4 (fun _ _ h k=>Z0 (enc:=eI) (l:=s1.2) (ob:=1) (ro:=false) (nr:=true) (fl:=true) (lo:=(some (vI (Int.tmod (zw (p2.2.2.2.1)) (zw ((zn s1.2)+1)))))) (hi:=none) (a:=Int.tmod (zw (p2.2.2.2.1)) (zw ((zn s1.2)+1))) (b:=(zn s1.2)) (w:=1) kr kr kr kr gE h k) fun q17=>hoh 0 (fun _ _ h k=>Z9 (enc:=eI) (l:=((sub s1.2 0 (Int.tmod (zw (p2.2.2.2.1)) (zw ((zn s1.2)+1))))++([s1.1]:(List Int)))) (m:=(sub s1.2 (Int.tmod (zw (p2.2.2.2.1)) (zw ((zn s1.2)+1))) (zn s1.2))) (w:=1) (bytes:=8) (ob:=4) (nr:=true) (fl:=true) (nr':=true) (fl':=true) (b:=.ref 1 (zt (Int.tmod (zw (p2.2.2.2.1)) (zw ((zn s1.2)+1)))) (zt (zn s1.2) - zt (Int.tmod (zw (p2.2.2.2.1)) (zw ((zn s1.2)+1))))) (rds:=[1]) false kr kr (Q3 (a:=Int.tmod (zw (p2.2.2.2.1)) (zw ((zn s1.2)+1))) (b:=(zn s1.2)) (ro:=false) kr q17) kr gE kr h k) <| hnx 4 (wz [0,5])
   refine hqi 0 (fun n18=>⟨(Qcu (7,.ref 1 0 s1.2.length) (8,vI s1.1) (11,vI s1.1) (16,vI s1.1) p0 p1)++[(19,vI s1.1),(20,vI n18)],[(Qbd p2),oR true 1 eI s1.2],42⟩) (fun _=>?_) (fun _=>?_)
   ·refine hoh 6 (fun _ _ h k=>Qfd (k:=.i64) (a:=zw (p2.2.2.2.2.1)) (b:=zw ((zn s1.2)+1)) kr gE h k) <| hoq 5 (fun _ _ h k=>Z0 (enc:=eI) (l:=s1.2) (ob:=1) (ro:=false) (nr:=true) (fl:=true) (lo:=none) (hi:=(some (vI (Int.tmod (zw (p2.2.2.2.2.1)) (zw ((zn s1.2)+1)))))) (a:=0) (b:=Int.tmod (zw (p2.2.2.2.2.1)) (zw ((zn s1.2)+1))) (w:=1) kr kr kr kr gE h k) fun q19=>hoh 0 (fun _ _ h k=>Qea (enc:=eI) (m:=(sub s1.2 0 (Int.tmod (zw (p2.2.2.2.2.1)) (zw ((zn s1.2)+1))))) (w:=1) (bytes:=8) (nr':=true) (fl':=true) (a:=.nils) (b:=.ref 1 0 (zt (Int.tmod (zw (p2.2.2.2.2.1)) (zw ((zn s1.2)+1))) - zt (0:Int))) (rds:=[1]) false kr (.inl rfl) (Q3 (a:=0) (b:=Int.tmod (zw (p2.2.2.2.2.1)) (zw ((zn s1.2)+1))) (ro:=false) kr q19) kr gE kr h k) <| hop 1 (fun _=>sgL false [] [] true gE) <| hoh 0 (fun _ _ h k=>Z9 (enc:=eI) (l:=(sub s1.2 0 (Int.tmod (zw (p2.2.2.2.2.1)) (zw ((zn s1.2)+1))))) (m:=([s1.1]:(List Int))) (w:=1) (bytes:=8) (ob:=2) (nr:=true) (fl:=true) (nr':=true) (fl':=true) (b:=.ref 3 0 1) (rds:=[3]) false kr kr kr kr gE kr h k) <| hoq 4 (fun _ _ h k=>Z0 (enc:=eI) (l:=s1.2) (ob:=1) (ro:=false) (nr:=true) (fl:=true) (lo:=(some (vI (Int.tmod (zw (p2.2.2.2.2.1)) (zw ((zn s1.2)+1)))))) (hi:=none) (a:=Int.tmod (zw (p2.2.2.2.2.1)) (zw ((zn s1.2)+1))) (b:=(zn s1.2)) (w:=1) kr kr kr kr gE h k) fun q20=>hoh 0 (fun _ _ h k=>Z9 (enc:=eI) (l:=((sub s1.2 0 (Int.tmod (zw (p2.2.2.2.2.1)) (zw ((zn s1.2)+1))))++([s1.1]:(List Int)))) (m:=(sub s1.2 (Int.tmod (zw (p2.2.2.2.2.1)) (zw ((zn s1.2)+1))) (zn s1.2))) (w:=1) (bytes:=8) (ob:=4) (nr:=true) (fl:=true) (nr':=true) (fl':=true) (b:=.ref 1 (zt (Int.tmod (zw (p2.2.2.2.2.1)) (zw ((zn s1.2)+1)))) (zt (zn s1.2) - zt (Int.tmod (zw (p2.2.2.2.2.1)) (zw ((zn s1.2)+1))))) (rds:=[1]) false kr kr (Q3 (a:=Int.tmod (zw (p2.2.2.2.2.1)) (zw ((zn s1.2)+1))) (b:=(zn s1.2)) (ro:=false) kr q20) kr gE kr h k) <| hnx 4 (wz [0,5])
   refine hqi 0 (fun n21=>⟨(Qcu (7,.ref 1 0 s1.2.length) (8,vI s1.1) (11,vI s1.1) (16,vI s1.1) p0 p1)++[(19,vI s1.1),(20,vI n21)],[(Qbd p2),oR true 1 eI s1.2],42⟩) (fun _=>?_) (fun _=>?_)
   ·refine hoh 6 (fun _ _ h k=>Qfd (k:=.i64) (a:=zw (p2.2.2.2.2.2.1)) (b:=zw ((zn s1.2)+1)) kr gE h k) <| hoq 5 (fun _ _ h k=>Z0 (enc:=eI) (l:=s1.2) (ob:=1) (ro:=false) (nr:=true) (fl:=true) (lo:=none) (hi:=(some (vI (Int.tmod (zw (p2.2.2.2.2.2.1)) (zw ((zn s1.2)+1)))))) (a:=0) (b:=Int.tmod (zw (p2.2.2.2.2.2.1)) (zw ((zn s1.2)+1))) (w:=1) kr kr kr kr gE h k) fun q22=>hoh 0 (fun _ _ h k=>Qea (enc:=eI) (m:=(sub s1.2 0 (Int.tmod (zw (p2.2.2.2.2.2.1)) (zw ((zn s1.2)+1))))) (w:=1) (bytes:=8) (nr':=true) (fl':=true) (a:=.nils) (b:=.ref 1 0 (zt (Int.tmod (zw (p2.2.2.2.2.2.1)) (zw ((zn s1.2)+1))) - zt (0:Int))) (rds:=[1]) false kr (.inl rfl) (Q3 (a:=0) (b:=Int.tmod (zw (p2.2.2.2.2.2.1)) (zw ((zn s1.2)+1))) (ro:=false) kr q22) kr gE kr h k) <| hop 1 (fun _=>sgL false [] [] true gE) <| hoh 0 (fun _ _ h k=>Z9 (enc:=eI) (l:=(sub s1.2 0 (Int.tmod (zw (p2.2.2.2.2.2.1)) (zw ((zn s1.2)+1))))) (m:=([s1.1]:(List Int))) (w:=1) (bytes:=8) (ob:=2) (nr:=true) (fl:=true) (nr':=true) (fl':=true) (b:=.ref 3 0 1) (rds:=[3]) false kr kr kr kr gE kr h k) <| hoq 4 (fun _ _ h k=>Z0 (enc:=eI) (l:=s1.2) (ob:=1) (ro:=false) (nr:=true) (fl:=true) (lo:=(some (vI (Int.tmod (zw (p2.2.2.2.2.2.1)) (zw ((zn s1.2)+1)))))) (hi:=none) (a:=Int.tmod (zw (p2.2.2.2.2.2.1)) (zw ((zn s1.2)+1))) (b:=(zn s1.2)) (w:=1) kr kr kr kr gE h k) fun q23=>hoh 0 (fun _ _ h k=>Z9 (enc:=eI) (l:=((sub s1.2 0 (Int.tmod (zw (p2.2.2.2.2.2.1)) (zw ((zn s1.2)+1))))++([s1.1]:(List Int)))) (m:=(sub s1.2 (Int.tmod (zw (p2.2.2.2.2.2.1)) (zw ((zn s1.2)+1))) (zn s1.2))) (w:=1) (bytes:=8) (ob:=4) (nr:=true) (fl:=true) (nr':=true) (fl':=true) (b:=.ref 1 (zt (Int.tmod (zw (p2.2.2.2.2.2.1)) (zw ((zn s1.2)+1)))) (zt (zn s1.2) - zt (Int.tmod (zw (p2.2.2.2.2.2.1)) (zw ((zn s1.2)+1))))) (rds:=[1]) false kr kr (Q3 (a:=Int.tmod (zw (p2.2.2.2.2.2.1)) (zw ((zn s1.2)+1))) (b:=(zn s1.2)) (ro:=false) kr q23) kr gE kr h k) <| hnx 4 (wz [0,5])
   refine hqi 0 (fun n24=>⟨(Qcu (7,.ref 1 0 s1.2.length) (8,vI s1.1) (11,vI s1.1) (16,vI s1.1) p0 p1)++[(19,vI s1.1),(20,vI n24)],[(Qbd p2),oR true 1 eI s1.2],42⟩) (fun _=>?_) (fun _=>?_)
   ·refine hoh 6 (fun _ _ h k=>Qfd (k:=.i64) (a:=zw (p2.2.2.2.2.2.2.1)) (b:=zw ((zn s1.2)+1)) kr gE h k) <| hoq 5 (fun _ _ h k=>Z0 (enc:=eI) (l:=s1.2) (ob:=1) (ro:=false) (nr:=true) (fl:=true) (lo:=none) (hi:=(some (vI (Int.tmod (zw (p2.2.2.2.2.2.2.1)) (zw ((zn s1.2)+1)))))) (a:=0) (b:=Int.tmod (zw (p2.2.2.2.2.2.2.1)) (zw ((zn s1.2)+1))) (w:=1) kr kr kr kr gE h k) fun q25=>hoh 0 (fun _ _ h k=>Qea (enc:=eI) (m:=(sub s1.2 0 (Int.tmod (zw (p2.2.2.2.2.2.2.1)) (zw ((zn s1.2)+1))))) (w:=1) (bytes:=8) (nr':=true) (fl':=true) (a:=.nils) (b:=.ref 1 0 (zt (Int.tmod (zw (p2.2.2.2.2.2.2.1)) (zw ((zn s1.2)+1))) - zt (0:Int))) (rds:=[1]) false kr (.inl rfl) (Q3 (a:=0) (b:=Int.tmod (zw (p2.2.2.2.2.2.2.1)) (zw ((zn s1.2)+1))) (ro:=false) kr q25) kr gE kr h k) <| hop 1 (fun _=>sgL false [] [] true gE) <| hoh 0 (fun _ _ h k=>Z9 (enc:=eI) (l:=(sub s1.2 0 (Int.tmod (zw (p2.2.2.2.2.2.2.1)) (zw ((zn s1.2)+1))))) (m:=([s1.1]:(List Int))) (w:=1) (bytes:=8) (ob:=2) (nr:=true) (fl:=true) (nr':=true) (fl':=true) (b:=.ref 3 0 1) (rds:=[3]) false kr kr kr kr gE kr h k) <| hoq 4 (fun _ _ h k=>Z0 (enc:=eI) (l:=s1.2) (ob:=1) (ro:=false) (nr:=true) (fl:=true) (lo:=(some (vI (Int.tmod (zw (p2.2.2.2.2.2.2.1)) (zw ((zn s1.2)+1)))))) (hi:=none) (a:=Int.tmod (zw (p2.2.2.2.2.2.2.1)) (zw ((zn s1.2)+1))) (b:=(zn s1.2)) (w:=1) kr kr kr kr gE h k) fun q26=>hoh 0 (fun _ _ h k=>Z9 (enc:=eI) (l:=((sub s1.2 0 (Int.tmod (zw (p2.2.2.2.2.2.2.1)) (zw ((zn s1.2)+1))))++([s1.1]:(List Int)))) (m:=(sub s1.2 (Int.tmod (zw (p2.2.2.2.2.2.2.1)) (zw ((zn s1.2)+1))) (zn s1.2))) (w:=1) (bytes:=8) (ob:=4) (nr:=true) (fl:=true) (nr':=true) (fl':=true) (b:=.ref 1 (zt (Int.tmod (zw (p2.2.2.2.2.2.2.1)) (zw ((zn s1.2)+1)))) (zt (zn s1.2) - zt (Int.tmod (zw (p2.2.2.2.2.2.2.1)) (zw ((zn s1.2)+1))))) (rds:=[1]) false kr kr (Q3 (a:=Int.tmod (zw (p2.2.2.2.2.2.2.1)) (zw ((zn s1.2)+1))) (b:=(zn s1.2)) (ro:=false) kr q26) kr gE kr h k) <| hnx 4 (wz [0,5])
   refine hqi 0 (fun n27=>⟨(Qcu (7,.ref 1 0 s1.2.length) (8,vI s1.1) (11,vI s1.1) (16,vI s1.1) p0 p1)++[(19,vI s1.1),(20,vI n27)],[(Qbd p2),oR true 1 eI s1.2],42⟩) (fun _=>?_) (fun _=>?_)
   ·refine hoh 6 (fun _ _ h k=>Qfd (k:=.i64) (a:=zw (p2.2.2.2.2.2.2.2)) (b:=zw ((zn s1.2)+1)) kr gE h k) <| hoq 5 (fun _ _ h k=>Z0 (enc:=eI) (l:=s1.2) (ob:=1) (ro:=false) (nr:=true) (fl:=true) (lo:=none) (hi:=(some (vI (Int.tmod (zw (p2.2.2.2.2.2.2.2)) (zw ((zn s1.2)+1)))))) (a:=0) (b:=Int.tmod (zw (p2.2.2.2.2.2.2.2)) (zw ((zn s1.2)+1))) (w:=1) kr kr kr kr gE h k) fun q28=>hoh 0 (fun _ _ h k=>Qea (enc:=eI) (m:=(sub s1.2 0 (Int.tmod (zw (p2.2.2.2.2.2.2.2)) (zw ((zn s1.2)+1))))) (w:=1) (bytes:=8) (nr':=true) (fl':=true) (a:=.nils) (b:=.ref 1 0 (zt (Int.tmod (zw (p2.2.2.2.2.2.2.2)) (zw ((zn s1.2)+1))) - zt (0:Int))) (rds:=[1]) false kr (.inl rfl) (Q3 (a:=0) (b:=Int.tmod (zw (p2.2.2.2.2.2.2.2)) (zw ((zn s1.2)+1))) (ro:=false) kr q28) kr gE kr h k) <| hop 1 (fun _=>sgL false [] [] true gE) <| hoh 0 (fun _ _ h k=>Z9 (enc:=eI) (l:=(sub s1.2 0 (Int.tmod (zw (p2.2.2.2.2.2.2.2)) (zw ((zn s1.2)+1))))) (m:=([s1.1]:(List Int))) (w:=1) (bytes:=8) (ob:=2) (nr:=true) (fl:=true) (nr':=true) (fl':=true) (b:=.ref 3 0 1) (rds:=[3]) false kr kr kr kr gE kr h k) <| hoq 4 (fun _ _ h k=>Z0 (enc:=eI) (l:=s1.2) (ob:=1) (ro:=false) (nr:=true) (fl:=true) (lo:=(some (vI (Int.tmod (zw (p2.2.2.2.2.2.2.2)) (zw ((zn s1.2)+1)))))) (hi:=none) (a:=Int.tmod (zw (p2.2.2.2.2.2.2.2)) (zw ((zn s1.2)+1))) (b:=(zn s1.2)) (w:=1) kr kr kr kr gE h k) fun q29=>hoh 0 (fun _ _ h k=>Z9 (enc:=eI) (l:=((sub s1.2 0 (Int.tmod (zw (p2.2.2.2.2.2.2.2)) (zw ((zn s1.2)+1))))++([s1.1]:(List Int)))) (m:=(sub s1.2 (Int.tmod (zw (p2.2.2.2.2.2.2.2)) (zw ((zn s1.2)+1))) (zn s1.2))) (w:=1) (bytes:=8) (ob:=4) (nr:=true) (fl:=true) (nr':=true) (fl':=true) (b:=.ref 1 (zt (Int.tmod (zw (p2.2.2.2.2.2.2.2)) (zw ((zn s1.2)+1)))) (zt (zn s1.2) - zt (Int.tmod (zw (p2.2.2.2.2.2.2.2)) (zw ((zn s1.2)+1))))) (rds:=[1]) false kr kr (Q3 (a:=Int.tmod (zw (p2.2.2.2.2.2.2.2)) (zw ((zn s1.2)+1))) (b:=(zn s1.2)) (ro:=false) kr q29) kr gE kr h k) <| hnx 4 (wz [0,5])
   refine hnn
  refine hdx 1 (wz [1])
 refine hrt 3
end
section
attribute [local irreducible] RW WP
noncomputable abbrev o44_60 (p0:Qf):AObj:=oX true false 2 (.agg [vI p0.Grain,eL false eTapi_Node p0.Nodes])
noncomputable abbrev o44_61 (p1:Qc):AObj:=oX true false 3 (.agg [eL true (AV.int .u64) p1.Cliques,z1 p1.Up,z1 p1.Home])
noncomputable abbrev s44_62 (p1:Qc):List (Nat×AV):=[(2,.ptr 0 0 0),(3,.ptr 1 0 0),(5,vI (zn p1.Cliques))]
theorem Qkh (p0:Qf) (p1:Qc):Ct Tryd.prog 29 [.agg [vI p0.Grain,eL false eTapi_Node p0.Nodes],.agg [eL true (AV.int .u64) p1.Cliques,z1 p1.Up,z1 p1.Home]] (V3 p0 p1) (fun x=>vB x) (fun x=>[]):=by
 refine hfn [] Tryd.func29 <| hop 0 (fun _=>sgL false [] [] false gE) <| hop 0 (fun _=>sgL false [] [] false gE) <| hop 3 (fun _=>Qq (enc:=(AV.int .u64)) (l:=p1.Cliques) (fl:=true) kr gE) <| hbr 4 [13,14] (hrt 29) <| ?_
 refine hbr 4 [16,17,18] (hrt 25) <| ?_
 refine hop 2 (fun _=>Qq (enc:=eI) (l:=p1.Up) (fl:=true) kr gE) <| hbr 4 [23,24,25] (hrt 18) <| ?_
 refine hop 2 (fun _=>Qq (enc:=eI) (l:=p1.Home) (fl:=true) kr gE) <| hop 2 (fun _=>Qq (enc:=eTapi_Node) (l:=p0.Nodes) (fl:=false) kr gE) <| hbr 3 [32,33,34] (hrt 9) <| ?_
 refine hbd fun a9 q10=>hop 2 (fun _=>Qn (enc:=eI) (l:=p1.Up) (n:=0) (fl:=true) (w:=1) (a:=a9) kr kr gE q10) <| hbr 3 [39,40] (hrt 3) <| ?_
 refine hlp 2 (fun s13=>⟨(s44_62 p1)++[(6,vI s13)],[(o44_60 p0),(o44_61 p1)],149⟩) (fun x=>match x with | .inl v=>(.ret,⟨[(4,vB false)],[],149⟩) | .inr v=>(.exit 0,⟨(s44_62 p1),[(o44_60 p0),(o44_61 p1)],149⟩)) (wz [0,1]) (fun s13=>?_) (hsm (fun x57=>?_) (fun x58=>?_))
 ·refine hbr 3 [43] (?_) ?_
  ·refine hbd fun a16 q17=>hop 5 (fun _=>Qn (enc:=(AV.int .u64)) (l:=p1.Cliques) (n:=s13) (fl:=true) (w:=1) (a:=a16) kr kr gE q17) <| hbr 3 [51,52] (hdx 14 (wz [])) <| ?_
   refine hop 3 (fun _=>Qn (enc:=(AV.int .u64)) (l:=p1.Cliques) (n:=s13) (fl:=true) (w:=1) (a:=a16) kr kr gE q17) <| hop 3 (fun _=>Qq (enc:=eTapi_Node) (l:=p0.Nodes) (fl:=false) kr gE) <| hoh 1 (fun _ _ h k=>Vg (k:=.u64) (k':=.u64) (a:=1) (b:=zv ((zn p0.Nodes))) kr gE h k) <| hbr 2 [63,64] (hdx 2 (wz [])) <| ?_
   refine hbr 4 [66,67] (?_) ?_
   ·refine hbd fun a24 q25=>hop 3 (fun _=>Qn (enc:=eI) (l:=p1.Up) (n:=s13) (fl:=true) (w:=1) (a:=a24) kr kr gE q25) <| hbr 3 [73,74] (hdx 11 (wz [])) <| ?_
    refine hop 3 (fun _=>Qn (enc:=eI) (l:=p1.Up) (n:=s13) (fl:=true) (w:=1) (a:=a24) kr kr gE q25) <| hbr 5 [81,82,83] (hdx 2 (wz [])) <| ?_
    refine hlp 2 (fun s30=>⟨(s44_62 p1)++[(6,vI s13),(7,vI s30)],[(o44_60 p0),(o44_61 p1)],149⟩) (fun x=>match x with | .inl v=>(.ret,⟨[(4,vB false)],[],149⟩) | .inr v=>(.exit 2,⟨(s44_62 p1)++[(6,vI s13)],[(o44_60 p0),(o44_61 p1)],149⟩)) (wz [0,1]) (fun s30=>?_) (hsm (fun x40=>?_) (fun x41=>?_))
    ·refine hbr 3 [86] (?_) ?_
     ·refine hop 5 (fun _=>Qn (enc:=(AV.int .u64)) (l:=p1.Cliques) (n:=s13) (fl:=true) (w:=1) (a:=a16) kr kr gE q17) <| hbd fun a33 q34=>hop 4 (fun _=>Qn (enc:=(AV.int .u64)) (l:=p1.Cliques) (n:=s30) (fl:=true) (w:=1) (a:=a33) kr kr gE q34) <| hop 7 (fun _=>Qn (enc:=eI) (l:=p1.Up) (n:=s13) (fl:=true) (w:=1) (a:=a24) kr kr gE q25) <| hbd fun a35 q36=>hop 1 (fun _=>Qn (enc:=(AV.int .u64)) (l:=p1.Cliques) (n:=a24) (fl:=true) (w:=1) (a:=a35) kr kr gE q36) <| hbr 3 [110] (hdx 2 (wz [])) <| ?_
      refine hnx 4 (wz [0,1])
     refine hdx 1 (wz [0,1])
    ·refine hdn 0
    refine hnx 3 (wz [0,1])
   refine hlp 18 (fun s42=>⟨(s44_62 p1)++[(6,vI s13),(7,vI s42)],[(o44_60 p0),(o44_61 p1)],149⟩) (fun x=>match x with | .inl v=>(.ret,⟨[(4,vB false)],[],149⟩) | .inr v=>(.exit 2,⟨(s44_62 p1)++[(6,vI s13)],[(o44_60 p0),(o44_61 p1)],149⟩)) (wz [0,1]) (fun s42=>?_) (hsm (fun x54=>?_) (fun x55=>?_))
   ·refine hbr 3 [86] (?_) ?_
    ·refine hop 5 (fun _=>Qn (enc:=(AV.int .u64)) (l:=p1.Cliques) (n:=s13) (fl:=true) (w:=1) (a:=a16) kr kr gE q17) <| hbd fun a45 q46=>hop 4 (fun _=>Qn (enc:=(AV.int .u64)) (l:=p1.Cliques) (n:=s42) (fl:=true) (w:=1) (a:=a45) kr kr gE q46) <| hbd fun a47 q48=>hop 7 (fun _=>Qn (enc:=eI) (l:=p1.Up) (n:=s13) (fl:=true) (w:=1) (a:=a47) kr kr gE q48) <| hbd fun a49 q50=>hop 1 (fun _=>Qn (enc:=(AV.int .u64)) (l:=p1.Cliques) (n:=a47) (fl:=true) (w:=1) (a:=a49) kr kr gE q50) <| hbr 3 [110] (hdx 2 (wz [])) <| ?_
     refine hnx 4 (wz [0,1])
    refine hdx 1 (wz [0,1])
   ·refine hdn 0
   refine hnx 3 (wz [0,1])
  refine hdx 1 (wz [0,1])
 ·refine hrt 0
 refine hlp 1 (fun s59=>⟨(s44_62 p1)++[(8,vI s59)],[(o44_60 p0),(o44_61 p1)],149⟩) (fun x=>match x with | .inl v=>(.ret,⟨[(4,vB false)],[],149⟩) | .inr v=>(.exit 4,⟨[],[],149⟩)) (wz [0,1]) (fun s59=>?_) (hsm (fun x75=>?_) (fun x76=>?_))
 ·refine hop 3 (fun _=>Qq (enc:=eTapi_Node) (l:=p0.Nodes) (fl:=false) kr gE) <| hbr 1 [115] (?_) ?_
  ·refine hbd fun a62 q63=>hop 5 (fun _=>Qn (enc:=eI) (l:=p1.Home) (n:=s59) (fl:=true) (w:=1) (a:=a62) kr kr gE q63) <| hbr 3 [123,124] (hdx 26 (wz [])) <| ?_
   refine hop 3 (fun _=>Qn (enc:=eI) (l:=p1.Home) (n:=s59) (fl:=true) (w:=1) (a:=a62) kr kr gE q63) <| hbr 5 [131,132,133] (hdx 17 (wz [])) <| ?_
   refine hcl 2 [] (Qjq p0 s59) fun x68 _=>hop 5 (fun _=>Qn (enc:=eI) (l:=p1.Home) (n:=s59) (fl:=true) (w:=1) (a:=a62) kr kr gE q63) <| hbd fun a70 q71=>hop 1 (fun _=>Qn (enc:=(AV.int .u64)) (l:=p1.Cliques) (n:=a62) (fl:=true) (w:=1) (a:=a70) kr kr gE q71) <| hbr 4 [147,148] (hdx 2 (wz [])) <| ?_
   refine hnx 4 (wz [0,1])
  refine hdx 1 (wz [])
 ·refine hrt 0
 refine hrt 2
end
section
attribute [local irreducible] RW WP
noncomputable abbrev Qu4 (true false:Bool) (x9:(Qc × Int)):AObj:=oX true false 3 (.agg [eL true (AV.int .u64) x9.1.Cliques,z1 x9.1.Up,z1 x9.1.Home])
noncomputable abbrev l45_64 (false:Bool) (x5:Qf) (true:Bool) (x9:(Qc × Int)) (x11:((List Int) × Int)):List AObj:=[oX false false 2 (.agg [vI x5.Grain,.ref 3 0 x5.Nodes.length]),(Qu4 true false x9),oR true 1 (AV.int .u64) x11.1,.row false true true false 3 (List.map eTapi_Node x5.Nodes)]
theorem g_law10_TreeSplits_ok (p0:Qe) (p1:(Int × Int × Int × Int × Int × Int × Int × Int)):Ct Tryd.prog 7 [.agg [.int .u8 p0.Grain,eL false eTharuspexref05_Piece p0.Nodes,eL true (AV.int .u8) p0.Order],.agg [.int .u8 p1.1,.int .u8 p1.2.1,.int .u8 p1.2.2.1,.int .u8 p1.2.2.2.1,.int .u8 p1.2.2.2.2.1,.int .u8 p1.2.2.2.2.2.1,.int .u8 p1.2.2.2.2.2.2.1,.int .u8 p1.2.2.2.2.2.2.2]] (Kd p0 p1) (fun x=>vB x) (fun x=>[]):=by
 refine hfn [] Tryd.func7 <| hop 0 (fun _=>sgL false [] [] false gE) <| hcl 2 [] (g_law10_wakes_ok ) fun x1 _=>hbr 1 [21] (hrt 3) <| ?_
 refine hcl 2 [] (Qg0 p0) fun x5 _=>hop 0 (fun _=>sgL false [] [] false gE) <| hcl 7 [] (us:=[vI (zn x5.Nodes),vI (-1),.agg [.int .u8 p1.1,.int .u8 p1.2.1,.int .u8 p1.2.2.1,.int .u8 p1.2.2.2.1,.int .u8 p1.2.2.2.2.1,.int .u8 p1.2.2.2.2.2.1,.int .u8 p1.2.2.2.2.2.2.1,.int .u8 p1.2.2.2.2.2.2.2]]) (rv:=fun x7=>z1 x7) (ro:=fun x7=>[]) (fun x7 q8=>Qx.froz (Qjr (zn x5.Nodes) (-1) (p1.1,p1.2.1,p1.2.2.1,p1.2.2.2.1,p1.2.2.2.2.1,p1.2.2.2.2.2.1,p1.2.2.2.2.2.2.1,p1.2.2.2.2.2.2.2) x7 q8) (Zd (w:=1) (bx:=false) (ro:=false) (enc:=eI) (l:=x7) (fl:=true) rfl)) fun x7 _=>hcl 0 [F eTapi_Node x5.Nodes] (us:=[.agg [vI x5.Grain,eL false eTapi_Node x5.Nodes],z1 x7]) (rv:=fun x9=>.tup [.agg [eL true (AV.int .u64) x9.1.Cliques,z1 x9.1.Up,z1 x9.1.Home],vI x9.2]) (ro:=fun x9=>[]) (fun x9 q10=>Qx.froz (g_tree_Make_ok x5 x7 x9 q10) (Qw8 (Qt (Kk (Qt (Zd (w:=1) (bx:=false) (ro:=false) (enc:=(AV.int .u64)) (l:=x9.1.Cliques) (fl:=true) rfl) (Qt (Zd (w:=1) (bx:=false) (ro:=false) (enc:=eI) (l:=x9.1.Up) (fl:=true) rfl) (Qt (Zd (w:=1) (bx:=false) (ro:=false) (enc:=eI) (l:=x9.1.Home) (fl:=true) rfl) Y1 (by rfl)) (by rfl)) (by rfl))) (Qt rfl Y1 (by rfl)) (by rfl)))) fun x9 _=>hop 3 (fun _=>sgL false [] [] false gE) <| hcl 3 [F eTapi_Node x5.Nodes] (g_net_Moral_ok x5) fun x11 _=>hbr 8 [40,41] (hrt 26) <| ?_
 refine hbr 4 [43,44,45] (hrt 22) <| ?_
 refine hcl 2 [F eTapi_Node x5.Nodes] (g_tree_Check_ok x5 x9.1) fun x17 _=>hbr 3 [49,50,51] (hrt 16) <| ?_
 refine hcl 2 [F eTapi_Node x5.Nodes] (Qkh x5 x9.1) fun x21 _=>hbr 3 [55,56,57] (hrt 10) <| ?_
 refine hbr 7 [63,64] (hrt 3) <| ?_
 refine hlp 2 (fun s27=>⟨[(5,.ptr 0 0 0),(6,.ptr 1 0 0),(8,.ref 2 0 x11.1.length),(10,vI s27)],(l45_64 false x5 true x9 x11),172⟩) (fun x=>match x with | .inl v=>(.ret,⟨[(4,vB false)],[],172⟩) | .inr v=>(.exit 0,⟨[],[],172⟩)) (wz [3,4,5,2]) (fun s27=>?_) (hsm (fun x83=>?_) (fun x84=>?_))
 ·refine hop 3 (fun _=>Qq (enc:=(AV.int .u64)) (l:=x9.1.Cliques) (fl:=true) kr gE) <| hbr 1 [69] (?_) ?_
  ·refine hcl 4 [F eTapi_Node x5.Nodes] (Qbv x5 x9.1 s27) fun x30 _=>hbr 9 [80,81] (hdx 20 (wz [])) <| ?_
   refine hbd fun a34 q35=>hop 4 (fun _=>Qn (enc:=(AV.int .u64)) (l:=x9.1.Cliques) (n:=s27) (fl:=true) (w:=1) (a:=a34) kr kr gE q35) <| hbd fun a36 q37=>hop 6 (fun _=>Qn (enc:=eI) (l:=x9.1.Up) (n:=s27) (fl:=true) (w:=1) (a:=a36) kr kr gE q37) <| hbd fun a38 q39=>hop 1 (fun _=>Qn (enc:=(AV.int .u64)) (l:=x9.1.Cliques) (n:=a36) (fl:=true) (w:=1) (a:=a38) kr kr gE q39) <| hbr 4 [98,99] (hdx 2 (wz [])) <| ?_
   refine hop 3 (fun _=>Qq (enc:=(AV.int .u64)) (l:=x9.1.Cliques) (fl:=true) kr gE) <| hoh 0 (fun _ _ h k=>mkL (enc:=AV.bool) (z:=(false:Bool)) (z0:=vB false) (n:=(zn x9.1.Cliques)) (m:=(zn x9.1.Cliques)) (w:=1) (bytes:=1) [] true kr kr gE kr h k) <| hop 5 (fun _=>Qq (enc:=(AV.int .u64)) (l:=x9.1.Cliques) (fl:=true) kr gE) <| hlp 1 (fun s42=>⟨[(5,.ptr 0 0 0),(6,.ptr 1 0 0),(8,.ref 2 0 x11.1.length),(10,vI s27),(11,.int .u64 x30.1),(13,.ref 3 0 s42.2.2.2.length),(14,.int .u64 s42.1),(15,.int .u64 s42.2.1),(105,eL true (AV.int .u64) x9.1.Cliques),(106,vI (zn x9.1.Cliques)),(107,vI s42.2.2.1)],[oX false false 2 (.agg [vI x5.Grain,.ref 4 0 x5.Nodes.length]),(Qu4 true false x9),oR true 1 (AV.int .u64) x11.1,oR true 1 AV.bool s42.2.2.2,.row false true true false 3 (List.map eTapi_Node x5.Nodes)],172⟩) (fun v=>(.exit 2,⟨[(5,.ptr 0 0 0),(6,.ptr 1 0 0),(8,.ref 2 0 x11.1.length),(10,vI s27),(11,.int .u64 x30.1),(14,.int .u64 v.1),(15,.int .u64 v.2)],(l45_64 false x5 true x9 x11),172⟩)) (wz [0,1,2,4,3]) (fun s42=>?_) fun x67=>?_
   ·refine hbr 1 [108] (?_) ?_
    ·refine hbd fun a45 q46=>hop 2 (fun _=>Qn (enc:=(AV.int .u64)) (l:=x9.1.Cliques) (n:=s42.2.2.1) (fl:=true) (w:=1) (a:=a45) kr kr gE q46) <| hbr 9 [116,117] (?_) ?_
     ·refine hbd fun a49 q50=>hop 14 (fun _=>Qz (enc:=AV.bool) (l:=s42.2.2.2) (n:=s42.2.2.1) (w:=1) (ob:=3) (ro:=false) (nr:=true) (fl:=true) (a:=a49) kr kr gE q50) <| hop 0 (fun _=>Yo (enc:=AV.bool) (l:=s42.2.2.2) (n:=s42.2.2.1) (ob:=3) (w:=1) (bx:=false) (nr:=true) (fl:=true) (c:=0) (a:=a49) (a':=true) (v:=vB true) false kr kr q50 kr kr kr gE kr) <| hkl 0 [13,112] (ls s42.2.2.2 (zt s42.2.2.1) true) <| hop 2 (fun _=>Qz (enc:=AV.bool) (l:=(List.set s42.2.2.2 (zt s42.2.2.1) true)) (n:=s42.2.2.1) (w:=1) (ob:=3) (ro:=false) (nr:=true) (fl:=true) (a:=true) kr kr gE (J3 true q50)) <| hop 0 (fun _=>Zn (enc:=AV.bool) (l:=(List.set s42.2.2.2 (zt s42.2.2.1) true)) (n:=s42.2.2.1) (w:=1) (ob:=3) (c:=0) (bx:=false) (ro:=false) (nr:=true) (fl:=true) (a:=true) kr kr (J3 true q50) gE) <| hnx 7 (wz [0,1,2,3,4])
     refine hbr 4 [120,121] (?_) ?_
     ·refine hbd fun a54 q55=>hop 4 (fun _=>Qn (enc:=eI) (l:=x9.1.Up) (n:=s42.2.2.1) (fl:=true) (w:=1) (a:=a54) kr kr gE q55) <| hbd fun a56 q57=>hop 1 (fun _=>Qz (enc:=AV.bool) (l:=s42.2.2.2) (n:=a54) (w:=1) (ob:=3) (ro:=false) (nr:=true) (fl:=true) (a:=a56) kr kr gE q57) <| hop 0 (fun _=>Zn (enc:=AV.bool) (l:=s42.2.2.2) (n:=a54) (w:=1) (ob:=3) (c:=0) (bx:=false) (ro:=false) (nr:=true) (fl:=true) (a:=a56) kr kr q57 gE) <| hbd fun a58 q59=>hop 2 (fun _=>Qz (enc:=AV.bool) (l:=s42.2.2.2) (n:=s42.2.2.1) (w:=1) (ob:=3) (ro:=false) (nr:=true) (fl:=true) (a:=a58) kr kr gE q59) <| hop 0 (fun _=>Yo (enc:=AV.bool) (l:=s42.2.2.2) (n:=s42.2.2.1) (ob:=3) (w:=1) (bx:=false) (nr:=true) (fl:=true) (c:=0) (a:=a58) (a':=a56) (v:=vB a56) false kr kr q59 kr kr kr gE kr) <| hkl 0 [13,112,122] (ls s42.2.2.2 (zt s42.2.2.1) a56) <| ?_
      refine hop 2 (fun _=>Qz (enc:=AV.bool) (l:=(List.set s42.2.2.2 (zt s42.2.2.1) a56)) (n:=s42.2.2.1) (w:=1) (ob:=3) (ro:=false) (nr:=true) (fl:=true) (a:=a56) kr kr gE (J3 a56 q59)) <| hop 0 (fun _=>Zn (enc:=AV.bool) (l:=(List.set s42.2.2.2 (zt s42.2.2.1) a56)) (n:=s42.2.2.1) (w:=1) (ob:=3) (c:=0) (bx:=false) (ro:=false) (nr:=true) (fl:=true) (a:=a56) kr kr (J3 a56 q59) gE) <| hbr 0 [129,130,131,136] (hnx 7 (wz [0,1,2,3,4])) <| ?_
      refine hnx 7 (wz [0,1,2,3,4])
     refine hbd fun a63 q64=>hop 10 (fun _=>Qz (enc:=AV.bool) (l:=s42.2.2.2) (n:=s42.2.2.1) (w:=1) (ob:=3) (ro:=false) (nr:=true) (fl:=true) (a:=a63) kr kr gE q64) <| hop 0 (fun _=>Yo (enc:=AV.bool) (l:=s42.2.2.2) (n:=s42.2.2.1) (ob:=3) (w:=1) (bx:=false) (nr:=true) (fl:=true) (c:=0) (a:=a63) (a':=false) (v:=vB false) false kr kr q64 kr kr kr gE kr) <| hkl 0 [13,112] (ls s42.2.2.2 (zt s42.2.2.1) false) <| hop 2 (fun _=>Qz (enc:=AV.bool) (l:=(List.set s42.2.2.2 (zt s42.2.2.1) false)) (n:=s42.2.2.1) (w:=1) (ob:=3) (ro:=false) (nr:=true) (fl:=true) (a:=false) kr kr gE (J3 false q64)) <| hop 0 (fun _=>Zn (enc:=AV.bool) (l:=(List.set s42.2.2.2 (zt s42.2.2.1) false)) (n:=s42.2.2.1) (w:=1) (ob:=3) (c:=0) (bx:=false) (ro:=false) (nr:=true) (fl:=true) (a:=false) kr kr (J3 false q64) gE) <| hnx 7 (wz [0,1,2,3,4])
    refine hdx 1 (wz [0,1,2,4])
   refine hbr 5 [148] (hdx 2 (wz [])) <| ?_
   refine hlp 4 (fun s70=>⟨[(5,.ptr 0 0 0),(6,.ptr 1 0 0),(8,.ref 2 0 x11.1.length),(10,vI s27),(11,.int .u64 x30.1),(14,.int .u64 x67.1),(15,.int .u64 x67.2),(149,.ref 2 0 x11.1.length),(150,vI (zn x11.1)),(151,vI s70)],(l45_64 false x5 true x9 x11),172⟩) (fun x=>match x with | .inl v=>(.ret,⟨[(4,vB false)],[],172⟩) | .inr v=>(.exit 4,⟨[(5,.ptr 0 0 0),(6,.ptr 1 0 0),(8,.ref 2 0 x11.1.length),(10,vI s27)],(l45_64 false x5 true x9 x11),172⟩)) (wz [0,1,2,3]) (fun s70=>?_) (hsm (fun x80=>?_) (fun x81=>?_))
   ·refine hbr 1 [152] (?_) ?_
    ·refine hbd fun a73 q74=>hop 2 (fun _=>Qz (enc:=(AV.int .u64)) (l:=x11.1) (n:=s70) (w:=1) (ob:=2) (ro:=false) (nr:=true) (fl:=true) (a:=a73) kr kr gE q74) <| hop 0 (fun _=>Zn (enc:=(AV.int .u64)) (l:=x11.1) (n:=s70) (w:=1) (ob:=2) (c:=0) (bx:=false) (ro:=false) (nr:=true) (fl:=true) (a:=a73) kr kr q74 gE) <| hoh 6 (fun _ _ h k=>Qbk (k:=.u64) (k':=.i64) (a:=zv (zb x67.1 &&& ~~~ zb x30.1).toNat) (b:=s70) kr gE h k) <| hbr 3 [162,163] (?_) ?_
     ·refine hbr 7 [169,170] (hdx 2 (wz [])) <| ?_
      refine hnx 3 (wz [0,1,2,3])
     refine hnx 10 (wz [0,1,2,3])
    refine hdx 1 (wz [0,1,2,3])
   ·refine hdn 0
   refine hnx 3 (wz [0,1,2,3])
  refine hdx 1 (wz [])
 ·refine hrt 0
 refine hrt 2
end
end Go.Ab
namespace Go.Ab
open Go
theorem Qjt {σ ρ:Type} {body:σ→Option (Ql σ ρ)} (I:σ→Prop) (m:σ→Nat) (Q:ρ→Prop)
  (step:∀s,I s→(∃s',body s=some (.next s')∧I s'∧m s' < m s)∨(∃r,body s=some (.done r)∧Q r)) :
  ∀(n:Nat) (s:σ),I s→m s < n→∃r,Qb n body s=some r∧Q r
 | 0,s,_,h=>by omega
 | n+1,s,hI,h=>by
  unfold Qb
  rcases step s hI with ⟨s',h1,h2,h3⟩ | ⟨r,h1,h2⟩
  ·rw [h1]
   exact Qjt I m Q step n s' h2 (by omega)
  ·rw [h1]
   exact ⟨r,rfl,h2⟩
theorem Vq {σ ρ:Type} {body:σ→Option (Ql σ ρ)} (I:σ→Prop) (m:σ→Nat) (Q:ρ→Prop)
  (step:∀s,I s→(∃s',body s=some (.next s')∧I s'∧m s' < m s)∨(∃r,body s=some (.done r)∧Q r)) (s:σ) (hI:I s) (hm:m s < 1152921504606846976):∃r,Qb fuel body s=some r∧Q r :=
 Qjt I m Q step fuel s hI hm
theorem Qo7 {σ ρ:Type} {body:σ→Option (Ql σ ρ)} (f:Nat → σ) (n:Nat) (r:ρ) (step:∀k,k < n→body (f k)=some (.next (f (k+1)))) (done:body (f n)=some (.done r)) (hn:n < 1152921504606846976) :
  Qb fuel body (f 0)=some r:=by
 have key:∀(j N k:Nat),k+j=n→j < N→Qb N body (f k)=some r:=by
  intro j
  induction j with
  | zero =>
   intro N k hk hN
   obtain ⟨N,rfl⟩:∃M,N=M+1:=⟨N - 1,by omega⟩
   have:k=n:=by omega
   subst this
   simp [Qb,done]
  | succ j ih =>
   intro N k hk hN
   obtain ⟨N,rfl⟩:∃M,N=M+1:=⟨N - 1,by omega⟩
   simp only [Qb,step k (by omega)]
   exact ih N (k+1) (by omega) (by omega)
 exact key n fuel 0 (by omega) hn
theorem Ks {σ ρ:Type} {body:σ→Option (Ql σ ρ)} {s0:σ} (f:Nat → σ) (n:Nat) (r:ρ) (h0:f 0=s0) (step:∀k,k < n→body (f k)=some (.next (f (k+1)))) (done:body (f n)=some (.done r)) (hn:n < 1152921504606846976) :
  Qb fuel body s0=some r:=by rw [←h0]; exact Qo7 f n r step done hn
theorem w64 {n:Int} (h:-9223372036854775808≤n∧n≤9223372036854775807):zw n=n:=by show IntKind.wrap .i64 n=n; rw [IntKind.wrap_i64]; omega
theorem Zb {α:Type} {l:List α} {k:Nat} (h:k < l.length):lkI l (k:Int)=some l[k]:=by
 unfold lkI
 rw [if_neg (by omega),Int.toNat_natCast,List.getElem?_eq_getElem h]
theorem Qwf {a b:Int} (h:0≤a):Int.tdiv a b=a / b:=Int.tdiv_eq_ediv_of_nonneg h
theorem Qar {a b:Int} (h:0≤a):Int.tmod a b=a % b:=Int.tmod_eq_emod_of_nonneg h
end Go.Ab
namespace Go.Ab
open Go
set_option maxRecDepth 100000
set_option maxHeartbeats 400000
def msk:Nat → (Nat → Bool)→Nat
 | 0,_=>0
 | n+1,p=>msk n p ||| (if p n then 2^n else 0)
theorem Zm (n:Nat) (p:Nat → Bool) (i:Nat):(msk n p).testBit i=(decide (i < n) && p i):=by
 induction n with
 | zero=>simp [msk]
 | succ n ih =>
  unfold msk
  rw [Nat.testBit_or,ih]
  by_cases h:i=n
  ·subst h
   cases hp:p i <;> simp [hp]
  ·have e:decide (i < n+1)=decide (i < n):=by by_cases h2:i < n <;> simp [h2] <;> omega
   rw [e]
   cases hp:p n
   ·simp
   ·simp only [if_true,Nat.testBit_two_pow]
    have e2:¬ n=i:=fun e=>h e.symm
    simp [e2]
theorem Xo (n:Nat) (p:Nat → Bool):msk n p < 2^n:=by
 induction n with
 | zero=>simp [msk]
 | succ n ih =>
  unfold msk
  refine Nat.or_lt_two_pow (Nat.lt_of_lt_of_le ih (Nat.pow_le_pow_right (by omega) (by omega))) ?_
  split
  ·exact Nat.pow_lt_pow_right (by omega) (by omega)
  ·exact Nat.two_pow_pos _
theorem Qbg {n:Nat} {p:Nat → Bool} {a:Nat} (ha:a < 2^n) (h:∀i,i < n→a.testBit i=p i):a=msk n p:=by
 apply Nat.eq_of_testBit_eq
 intro i
 rw [Zm]
 by_cases hi:i < n
 ·simp [hi,h i hi]
 ·rw [Nat.testBit_lt_two_pow (Nat.lt_of_lt_of_le ha (Nat.pow_le_pow_right (by omega) (by omega)))]; simp [hi]
theorem Qa4 {n:Nat} {p q:Nat → Bool} (h:∀i,i < n→p i=q i):msk n p=msk n q :=
 Qbg (Xo n p) fun i hi=>by rw [Zm,h i hi]; simp [hi]
theorem Qt7 {n a:Nat} (hn:n≤10) (ha:a < 2^n):a < 1024:=Nat.lt_of_lt_of_le ha (Nat.pow_le_pow_right (n:=2) (by omega) hn)
theorem Qwq {n a:Nat} (hn:n≤10) (ha:a < 2^n):a < 18446744073709551616:=by have:=Qt7 hn ha; omega
theorem Y6 {n:Nat} (h:n < 18446744073709551616):zv (n:Int)=(n:Int):=by
 simp [IntKind.wrap,IntKind.bits,IntKind.signed]; omega
theorem Vv {a:Nat} (h:a < 18446744073709551616):(zb (a:Int)).toNat = a:=by
 show (BitVec.ofInt IntKind.u64.bits (a:Int)).toNat = a
 rw [BitVec.ofInt_natCast,BitVec.toNat_ofNat]
 exact Nat.mod_eq_of_lt h
theorem Qp6 {a k:Nat}:Int.fdiv (a:Int) ((2:Int)^k)=((a / 2^k:Nat):Int):=by
 rw [Int.fdiv_eq_ediv_of_nonneg _ (by exact_mod_cast Nat.zero_le (2^k))]
 simp
theorem Qto {a j:Nat} (h:a < 18446744073709551616):(zb (a:Int)).getLsbD j=a.testBit j:=by unfold BitVec.getLsbD; rw [Vv h]
theorem Qsw {v:Nat} (hv:v < 64):zv (1*2^min (Int.toNat (v:Int)) (IntKind.bits .u64))=((2^v:Nat):Int):=by
 have hb:IntKind.bits .u64=64:=rfl
 have e0:min (Int.toNat (v:Int)) (IntKind.bits .u64)=v:=by rw [hb,Int.toNat_natCast]; omega
 have hp:2^v < 18446744073709551616:=Nat.pow_lt_pow_right (n:=64) (by omega) hv
 rw [e0,show (1:Int)*2^v=((2^v:Nat):Int) by simp,Y6 hp]
theorem Qxv {v:Nat} (hv:v < 64):2^v < 18446744073709551616:=Nat.pow_lt_pow_right (n:=64) (by omega) hv
theorem Qou {n:Nat} {p q:Nat → Bool} {a b:Nat} (hn:n≤64) (ha:a < 2^n) (hb:b < 18446744073709551616) (hp:∀i,i < n→a.testBit i=p i) (hq:∀i,i < n→b.testBit i=q i) :
  zv (zb (a:Int) &&& ~~~ zb (b:Int)).toNat = ((msk n fun i=>p i && !q i:Nat):Int):=by
 have ha':a < 18446744073709551616:=Nat.lt_of_lt_of_le ha (Nat.pow_le_pow_right (n:=2) (by omega) hn)
 have h1:(zb (a:Int) &&& ~~~ zb (b:Int)).toNat < 18446744073709551616:=BitVec.isLt _
 rw [Y6 h1]
 congr 1
 refine Qbg ?_ fun i hi=>?_
 ·refine Nat.lt_of_le_of_lt ?_ ha
  rw [BitVec.toNat_and,Vv ha']
  exact Nat.and_le_left
 ·have:i < 64:=by omega
  have e:(zb (a:Int) &&& ~~~ zb (b:Int)).toNat.testBit i=(zb (a:Int) &&& ~~~ zb (b:Int)).getLsbD i:=rfl
  rw [e,BitVec.getLsbD_and,BitVec.getLsbD_not,Qto ha',Qto hb,hp i hi,hq i hi]
  have h64:i < IntKind.bits .u64:=this
  simp [h64]
theorem Qw9 {n:Nat} {p q:Nat → Bool} {a b:Nat} (hn:n≤64) (ha:a < 2^n) (hb:b < 2^n) (hp:∀i,i < n→a.testBit i=p i) (hq:∀i,i < n→b.testBit i=q i) :
  zv (zb (a:Int) ||| zb (b:Int)).toNat = ((msk n fun i=>p i || q i:Nat):Int):=by
 have h64:2^n≤2^64:=Nat.pow_le_pow_right (n:=2) (by omega) hn
 have ha':a < 18446744073709551616:=Nat.lt_of_lt_of_le ha h64
 have hb':b < 18446744073709551616:=Nat.lt_of_lt_of_le hb h64
 rw [BitVec.toNat_or,Vv ha',Vv hb',Y6 (Nat.or_lt_two_pow (n:=64) ha' hb')]
 congr 1
 exact Qbg (Nat.or_lt_two_pow ha hb) fun i hi=>by rw [Nat.testBit_or,hp i hi,hq i hi]
theorem Q0l {n:Nat} {p q:Nat → Bool} {a b:Nat} (hn:n≤64) (ha:a < 2^n) (hb:b < 18446744073709551616) (hp:∀i,i < n→a.testBit i=p i) (hq:∀i,i < n→b.testBit i=q i) :
  zv (zb (a:Int) &&& zb (b:Int)).toNat = ((msk n fun i=>p i && q i:Nat):Int):=by
 have h64:2^n≤2^64:=Nat.pow_le_pow_right (n:=2) (by omega) hn
 have ha':a < 18446744073709551616:=Nat.lt_of_lt_of_le ha h64
 have hl:a &&& b≤a:=Nat.and_le_left
 rw [BitVec.toNat_and,Vv ha',Vv hb,Y6 (by omega)]
 congr 1
 exact Qbg (by omega) fun i hi=>by rw [Nat.testBit_and,hp i hi,hq i hi]
theorem Qmp (v i:Nat):(2^v).testBit i=decide (v=i):=Nat.testBit_two_pow
theorem Qb2 {n:Nat} {p:Nat → Bool}:∀i,i < n→(msk n p).testBit i=p i:=fun i hi=>by rw [Zm]; simp [hi]
theorem Qxo {n v:Nat} {p:Nat → Bool} (hn:n≤10) (hv:v < 64):zv (zb ((msk n p:Nat):Int) &&& ~~~ zb (zv (1*2^min (Int.toNat (v:Int)) (IntKind.bits .u64)))).toNat = ((msk n fun i=>p i && !decide (v=i):Nat):Int):=by
 rw [Qsw hv]
 exact Qou (by omega) (Xo n p) (Qxv hv) Qb2 fun i _=>Qmp v i
theorem Qoj {n v:Nat} {p:Nat → Bool} (hn:n≤10) (hv:v < n):zv (zb ((msk n p:Nat):Int) ||| zb (zv (1*2^min (Int.toNat (v:Int)) (IntKind.bits .u64)))).toNat = ((msk n fun i=>p i || decide (v=i):Nat):Int):=by
 rw [Qsw (by omega)]
 exact Qw9 (by omega) (Xo n p) (Nat.pow_lt_pow_right (by omega) hv) Qb2 fun i _=>Qmp v i
theorem Qgk {a k:Nat} (ha:a < 18446744073709551616) (hk:k < 64) :
  zv (zb (Int.fdiv (a:Int) (2^min (Int.toNat (k:Int)) (IntKind.bits .u64))) &&& zb 1).toNat = ((a.testBit k).toNat : Int):=by
 have hb:IntKind.bits .u64=64:=rfl
 have e0:min (Int.toNat (k:Int)) (IntKind.bits .u64)=k:=by rw [hb,Int.toNat_natCast]; omega
 rw [e0,Qp6]
 have h1:a / 2^k < 18446744073709551616:=Nat.lt_of_le_of_lt (Nat.div_le_self _ _) ha
 have e1:(zb ((a / 2^k:Nat):Int) &&& zb 1).toNat = (a / 2^k) % 2:=by
  rw [BitVec.toNat_and,Vv h1,show (zb 1).toNat = 1 from rfl,Nat.and_one_is_mod]
 rw [e1,Y6 (by omega)]
 have e2:a.testBit k=((a / 2^k) % 2==1):=by rw [Nat.testBit_eq_decide_div_mod_eq]; rfl
 rw [e2]
 rcases Nat.mod_two_eq_zero_or_one (a / 2^k) with h | h <;> rw [h] <;> rfl
theorem Qyn (n:Nat):msk n (fun _=>true)=2^n - 1:=(Qbg (by have:=Nat.two_pow_pos n; omega) fun i hi=>by rw [Nat.testBit_two_pow_sub_one]; simp [hi]).symm
def cnt:Nat → (Nat → Bool)→Nat
 | 0,_=>0
 | n+1,p=>cnt n p+(p n).toNat
def isS (x:Option Int) (y:Int):Bool:=match x with | some z=>z==y | none=>false
theorem Qze {x:Option Int} {y:Int} (h:isS x y=true):x=some y:=by
 cases x with
 | none=>cases h
 | some z=>simp only [isS,beq_iff_eq] at h; rw [h]
theorem Qzg {p:Nat → Bool} {n:Nat} (h:(List.range n).all p=true) {k:Nat} (hk:k < n):p k=true:=List.all_eq_true.1 h k (List.mem_range.2 hk)
theorem Q0y:((List.range 1024).all fun R=>isS (Ze (R:Int)) (cnt 10 R.testBit:Int))=true:=by kernel_rfl
theorem Qny {n:Nat} {p q:Nat → Bool} (h:∀i,i < n→p i=q i):cnt n p=cnt n q:=by
 induction n with
 | zero=>rfl
 | succ n ih=>simp only [cnt]; rw [ih fun i hi=>h i (by omega),h n (by omega)]
theorem Qy1 {n m:Nat} {p:Nat → Bool} (hm:n≤m) (h:∀i,n≤i→i < m→p i=false):cnt m p=cnt n p:=by
 induction m with
 | zero =>
  have:n=0:=by omega
  subst this; rfl
 | succ m ih =>
  by_cases e:n=m+1
  ·subst e; rfl
  ·simp only [cnt]; rw [h m (by omega) (by omega),ih (by omega) fun i h1 h2=>h i h1 (by omega)]; rfl
theorem Q0g {n:Nat} (hn:n≤10) (p:Nat → Bool):Ze ((msk n p:Nat):Int)=some (cnt n p:Int):=by
 have h:=Qze (Qzg Q0y (Qt7 hn (Xo n p)))
 rw [h]
 congr 2
 rw [Qy1 hn fun i h1 h2=>by rw [Zm]; simp; omega]
 exact Qny Qb2
abbrev Gr:=Nat → Nat → Bool
def gl (n:Nat) (A:Gr):List Int:=(List.range n).map fun v=>((msk n (A v):Nat):Int)
theorem Zz (n:Nat) (A:Gr):(gl n A).length=n:=by simp [gl]
theorem Qf3 {n:Nat} {A:Gr} {v:Nat} (hv:v < n):(gl n A)[v]?=some ((msk n (A v):Nat):Int):=by simp [gl,hv]
theorem Qcd {n:Nat} {A:Gr} {v:Nat} (hv:v < n):lkI (gl n A) (v:Int)=some ((msk n (A v):Nat):Int):=by
 unfold lkI
 rw [if_neg (by omega),Int.toNat_natCast,Qf3 hv]
theorem gl_congr {n:Nat} {A B:Gr} (h:∀u w,u < n→w < n→A u w=B u w):gl n A=gl n B:=by
 apply List.ext_getElem?
 intro v
 by_cases hv:v < n
 ·rw [Qf3 hv,Qf3 hv,Qa4 fun w hw=>h v w hv hw]
 ·rw [List.getElem?_eq_none (by rw [Zz]; omega),List.getElem?_eq_none (by rw [Zz]; omega)]
def upd (A:Gr) (v:Nat) (q:Nat → Bool):Gr:=fun u w=>if u=v then q w else A u w
theorem Qzk {A:Gr} {v u:Nat} {q:Nat → Bool} (h:¬ u=v):upd A v q u=A u:=funext fun w=>if_neg h
theorem Qzy {A:Gr} {v:Nat} {q:Nat → Bool}:upd A v q v=q:=funext fun w=>if_pos rfl
theorem Qqc {n:Nat} {A:Gr} {v:Nat} (q:Nat → Bool):(gl n A).set (Int.toNat (v:Int)) ((msk n q:Nat):Int)=gl n (upd A v q):=by
 apply List.ext_getElem?
 intro u
 rw [Int.toNat_natCast,List.getElem?_set,Zz]
 by_cases hu:u < n
 ·rw [Qf3 hu,Qf3 hu]
  by_cases e:v=u
  ·subst e; simp [hu,Qzy]
  ·rw [if_neg e,Qzk fun h=>e h.symm]
 ·rw [List.getElem?_eq_none (by rw [Zz]; omega),List.getElem?_eq_none (by rw [Zz]; omega)]
  simp [hu]
  intro e; omega
structure Qb5 (n:Nat) (A:Gr):Prop where
 sym:∀u w,A u w=A w u
 irr:∀u,A u u=false
 lt:∀u w,A u w=true→u < n
def elim (A:Gr) (v:Nat):Gr:=fun u w=>(A u w || (A v u && A v w && !decide (u=w))) && !decide (u=v) && !decide (w=v)
theorem Qnm {n:Nat} {A:Gr} (h:Qb5 n A) (v:Nat):Qb5 n (elim A v):=by
 refine ⟨fun u w=>?_,fun u=>?_,fun u w h1=>?_⟩
 ·unfold elim
  rw [h.sym u w]
  by_cases e:u=w
  ·subst e; rfl
  ·have e2:¬ w=u:=fun h=>e h.symm
   simp only [decide_eq_false e,decide_eq_false e2]
   cases A v u <;> cases A v w <;> cases A w u <;> cases (decide (u=v)) <;> cases (decide (w=v)) <;> rfl
 ·unfold elim; rw [h.irr]; simp
 ·unfold elim at h1
  simp only [Bool.and_eq_true,Bool.or_eq_true] at h1
  rcases h1.1.1 with h2 | h2
  ·exact h.lt _ _ h2
  ·exact h.lt _ v (by rw [h.sym]; exact h2.1.1)
theorem X3 (k:Nat):(0:Int)≤(k:Int):=Int.natCast_nonneg k
theorem Qpl {k:Nat} (h:k < 9223372036854775807):zw ((k:Int)+1)=((k+1:Nat):Int):=by rw [w64 (by omega)]; omega
theorem Qao {τ ρ σ:Type} {n k0:Nat} (hk:k0≤n) (hn:n < 1152921504606846976) (mkS:Int→τ→σ) {body:σ→Option (Ql σ ρ)} (I:Nat → τ→Prop) (Q:ρ→Prop)
  (step:∀(k:Nat) (t:τ),k0≤k→k < n→I k t→(∃t',body (mkS (k:Int) t)=some (.next (mkS (zw ((k:Int)+1)) t'))∧I (k+1) t')∨(∃r,body (mkS (k:Int) t)=some (.done r)∧Q r))
  (done:∀t,I n t→∃r,body (mkS (n:Int) t)=some (.done r)∧Q r) (t0:τ) (h0:I k0 t0):∃r,Qb fuel body (mkS (k0:Int) t0)=some r∧Q r:=by
 have key:∀(j N k:Nat) (t:τ),k+j=n→k0≤k→j < N→I k t→∃r,Qb N body (mkS (k:Int) t)=some r∧Q r:=by
  intro j
  induction j with
  | zero =>
   intro N k t e hk hN hI
   obtain ⟨N,rfl⟩:∃M,N=M+1:=⟨N - 1,by omega⟩
   have:k=n:=by omega
   subst this
   obtain ⟨r,b1,b2⟩:=done t hI
   simp only [Qb,b1]
   exact ⟨r,rfl,b2⟩
  | succ j ih =>
   intro N k t e hk hN hI
   obtain ⟨N,rfl⟩:∃M,N=M+1:=⟨N - 1,by omega⟩
   rcases step k t hk (by omega) hI with ⟨t',b1,b2⟩ | ⟨r,b1,b2⟩
   ·rw [Qpl (by omega)] at b1
    simp only [Qb,b1]
    exact ih N (k+1) t' (by omega) (by omega) (by omega) b2
   ·simp only [Qb,b1]
    exact ⟨r,rfl,b2⟩
 exact key (n - k0) fuel k0 t0 (by omega) (Nat.le_refl _) (by show n - k0 < 1152921504606846976; omega) h0
theorem Vs {τ ρ σ:Type} {n k0:Nat} (hk:k0≤n) (hn:n < 1152921504606846976) (mkS:Int→τ→σ) {body:σ→Option (Ql σ ρ)} (T:Nat → τ) (r:ρ)
  (step:∀(k:Nat),k0≤k→k < n→body (mkS (k:Int) (T k))=some (.next (mkS (zw ((k:Int)+1)) (T (k+1)))))
  (done:body (mkS (n:Int) (T n))=some (.done r)):Qb fuel body (mkS (k0:Int) (T k0))=some r:=by
 obtain ⟨r',h1,h2⟩:=Qao hk hn mkS (body:=body) (fun k t=>t=T k) (fun x=>x=r) (fun k t a b c=>.inl ⟨T (k+1),by rw [c]; exact step k a b,rfl⟩) (fun t h=>⟨r,by rw [h]; exact done,rfl⟩) (T k0) rfl
 rw [h1,h2]
theorem dlt {k n:Nat} (h:k < n):decide ((k:Int) < (n:Int))=true:=decide_eq_true (by omega)
theorem nlt (n:Nat):¬ (decide ((n:Int) < (n:Int))=true):=by simp
def nI (l:List Nat):List Int:=l.map fun (k:Nat)=>(k:Int)
theorem Qv (l:List Nat):(nI l).length=l.length:=by simp [nI]
theorem Qbm {l:List Nat} {k:Nat} (h:k < l.length):lkI (nI l) (k:Int)=some (l[k]:Int):=by rw [Zb (by rwa [Qv])]; simp [nI]
def seqA (A:Gr) (o:List Nat):Gr:=o.foldl elim A
theorem Qtr (A:Gr) (o:List Nat) (v:Nat):seqA A (o++[v])=elim (seqA A o) v:=by simp [seqA]
theorem Qhv {n:Nat}:∀{o:List Nat} {A:Gr},Qb5 n A→Qb5 n (seqA A o)
 | [],A,h=>h
 | v::o,A,h=>Qhv (o:=o) (Qnm h v)
theorem Qv7 {A:Gr} {v u w:Nat} (h:elim A v u w=true):¬ u=v∧¬ w=v:=by unfold elim at h; simp at h; exact ⟨h.1.2,h.2⟩
theorem Qve {A:Gr} {v x:Nat} (hs:∀w,A x w=false) (u:Nat) (hA:∀u w,A u w=A w u):elim A v x u=false:=by
 unfold elim
 rw [hs,hA v x,hs]; simp
theorem Qkf {n:Nat}:∀{o:List Nat} {A:Gr} {x:Nat},Qb5 n A→(x∈o∨∀w,A x w=false)→∀w,seqA A o x w=false
 | [],A,x,h,hx,w=>by rcases hx with hx | hx; cases hx; exact hx w
 | v::o,A,x,h,hx,w=>by
  refine Qkf (o:=o) (Qnm h v) ?_ w
  rcases hx with hx | hx
  ·rcases List.mem_cons.1 hx with e | hx
   ·subst e
    right
    intro w
    rw [Bool.eq_false_iff]
    intro h1
    exact (Qv7 h1).1 rfl
   ·exact .inl hx
  ·right
   intro w
   exact Qve hx w h.sym
theorem Qyd {l:List Int} (h:l.length≤1000):Q7 l=some l:=by
 cases l with
 | nil=>rfl
 | cons a l=>unfold Q7 Vf; dsimp only; rw [if_pos (by omega)]
theorem Q07 (a b:Nat):(if (a:Int) > (b:Int) then (a:Int) else (b:Int))=((max b a:Nat):Int):=by split <;> omega
structure Ord (n:Nat) (o:List Nat):Prop where
 len:o.length=n
 lt:∀v∈o,v < n
 nodup:o.Nodup
def okL (n:Nat) (l:List Int):Prop:=(∀x∈l,0≤x∧x < (n:Int))∧l.Nodup
theorem Qzi {n:Nat} {l:List Int} (h:okL n l) (hl:l.length=n):∃o,l=nI o∧Ord n o:=by
 have e:l=nI (l.map Int.toNat):=by
  unfold nI
  rw [List.map_map]
  refine (List.ext_getElem (by simp) fun i h1 h2=>?_)
  have:=h.1 l[i] (List.getElem_mem h1)
  simp; omega
 refine ⟨l.map Int.toNat,e,by simpa using hl,fun v hv=>?_,?_⟩
 ·obtain ⟨x,hx,rfl⟩:=List.mem_map.1 hv
  have:=h.1 x hx; omega
 ·have h2:=h.2
  rw [e] at h2
  unfold nI at h2
  rw [List.Nodup,List.pairwise_map] at h2
  exact h2.imp fun hne he=>hne (by rw [he])
theorem Qyz {n:Nat} {o:List Nat} (h:Ord n o):okL n (nI o):=by
 refine ⟨fun x hx=>?_,?_⟩
 ·unfold nI at hx
  obtain ⟨v,hv,rfl⟩:=List.mem_map.1 hx
  have:=h.lt v hv; omega
 ·unfold nI
  rw [List.Nodup,List.pairwise_map]
  exact h.nodup.imp fun hne he=>hne (by omega)
theorem Qyo (n:Nat):List.replicate n (0:Int)=gl n fun _ _=>false:=by
 apply List.ext_getElem?
 intro v
 by_cases hv:v < n
 ·rw [Qf3 hv]
  have:msk n (fun _=>false)=0:=(Qbg (by have:=Nat.two_pow_pos n; omega) fun i _=>by simp).symm
  rw [this]; simp [hv]
 ·rw [List.getElem?_eq_none (by simp; omega),List.getElem?_eq_none (by rw [Zz]; omega)]
inductive Via (A:Gr) (R:Nat → Bool):Nat → Nat → Prop
 | one {v u:Nat} (h:A v u=true):Via A R v u
 | step {v x u:Nat} (h:A v x=true) (hx:R x=true) (k:Via A R x u):Via A R v u
theorem Via.trans {A:Gr} {R:Nat → Bool} {u v w:Nat} (h:Via A R u v) (hv:R v=true) (k:Via A R v w):Via A R u w:=by
 induction h with
 | one h=>exact .step h hv k
 | step h hx _ ih=>exact .step h hx (ih hv k)
theorem Via.symm {n:Nat} {A:Gr} {R:Nat → Bool} {u v:Nat} (hG:Qb5 n A) (h:Via A R u v):Via A R v u:=by
 induction h with
 | one h=>exact .one (by rw [hG.sym]; exact h)
 | step h hx _ ih=>exact ih.trans hx (.one (by rw [hG.sym]; exact h))
theorem Via.mono {A:Gr} {R R':Nat → Bool} {u v:Nat} (h:Via A R u v) (hR:∀x,R x=true→(∃y,A x y=true)→R' x=true):Via A R' u v:=by
 induction h with
 | one h=>exact .one h
 | step h hx k ih =>
  refine .step h (hR _ hx ?_) ih
  cases k with
  | one h=>exact ⟨_,h⟩
  | step h _ _=>exact ⟨_,h⟩
theorem Via.lt {n:Nat} {A:Gr} {R:Nat → Bool} {u v:Nat} (hG:Qb5 n A) (h:Via A R u v):u < n∧v < n:=by
 induction h with
 | one h=>exact ⟨hG.lt _ _ h,hG.lt _ _ (by rw [hG.sym]; exact h)⟩
 | step h _ _ ih=>exact ⟨hG.lt _ _ h,ih.2⟩
end Go.Ab
