/- What functions compute. No conditions. -/
import Derived.Test.YtcbhkobklhkiiaaDoorProg
import Derived.Test.YtcbhkobklhkiiaaDoorW10
import Derived.KernelRfl
import Derived.Test.YtcbhkobklhkiiaaDoorW11
import Derived.Test.YtcbhkobklhkiiaaDoorW12
import Derived.Test.YtcbhkobklhkiiaaDoorEng8
import Derived.IntWalk
set_option linter.all false
namespace Go.Ab
open Go Go.Proofs
set_option maxRecDepth 100000
set_option maxHeartbeats 4000000
section
attribute [local irreducible] RW WP
theorem Qh9 (w0_0:Int) (w0_1:(List Tapi_Node)):Hl Tryd.prog (fun x out=>Qdn Tryd.prog Tryd.f14 [[.keep,.lst false]] out=some (.agg [vI x.Grain,eL false eTapi_Node x.Nodes],[])) (atW Tryd.prog Tryd.f14 [true,true,true,true,false,true,false,true] ⟨[(4,.ptr 0 0 0)],[oX false false 2 (.agg [vI w0_0,.ref 1 0 w0_1.length]),oR false 3 eTapi_Node w0_1],323⟩) (Qe1 w0_0 w0_1):=by
 refine hwk 0 (wl [4] [0,1]) <| hwk 0 (won 0 0 [F eTapi_Node w0_1]) <| hrt 1
theorem Qit (w1_0:Int) (w1_1:(List Tapi_Node)) (w1_2:Int) (w1_3:Int) (w1_4:(List Int)) (w1_5:(List (List Int))):Hl Tryd.prog (fun x out=>Qdn Tryd.prog Tryd.f14 [[.keep,.lst false]] out=some (.agg [vI x.Grain,eL false eTapi_Node x.Nodes],[])) (atW Tryd.prog Tryd.f14 [true,true,true,true,false,true,false,true] ⟨[(4,.ptr 0 0 0)],[oX false false 2 (.agg [vI w1_0,.ref 1 0 w1_1.length]),.row false false false false 3 (hole eTapi_Node w1_1 w1_2 (.agg [vI w1_3,.ref 2 0 w1_4.length,.ref 3 0 w1_5.length])),oR true 1 eI w1_4,.refs 4 (eF eI w1_5),.fam 1 true (eF eI w1_5)],323⟩) (Qes w1_0 w1_1 w1_2 w1_3 w1_4 w1_5):=by
 refine hbd fun a47 q48=>hwk 0 (Qd5 3 4 (w:=1) (fl:=true) (enc:=eI) (ls:=w1_5) kr kr rfl) <| hwk 0 (wcl 1 [F eI w1_4,F z1 w1_5] (enc:=eTapi_Node) (L:=w1_1) (n:=w1_2) (A:=.agg [vI w1_3,.ref 2 0 w1_4.length,.ref 3 0 w1_5.length]) (bx:=false) (ro:=false) (nr:=false) (fl:=false) (w:=3) q48) <| hkn 0 (fun z49=>⟨[(4,.ptr 0 0 0)],[oX false false 2 (.agg [vI w1_0,.ref 1 0 w1_1.length]),.row false false false false 3 z49,.row false true true true 1 (List.map eI w1_4),.row false true true false 1 (List.map z1 w1_5),.dead],323⟩) (show ((hole eTapi_Node w1_1 w1_2 (.agg [vI w1_3,.ref 2 0 w1_4.length,.ref 3 0 w1_5.length])).set (zt w1_2) (.agg [vI w1_3,z1 w1_4,z2 w1_5]))=List.map eTapi_Node (List.set w1_1 (zt w1_2) (Tapi_Node.mk w1_3 w1_4 w1_5)) from Qcz (enc:=eTapi_Node) (L:=w1_1) (n:=w1_2) (A:=.agg [vI w1_3,.ref 2 0 w1_4.length,.ref 3 0 w1_5.length]) (b:=(Tapi_Node.mk w1_3 w1_4 w1_5))) <| hwk 0 (wk_rowT 1 (enc:=eTapi_Node) (L:=(List.set w1_1 (zt w1_2) (Tapi_Node.mk w1_3 w1_4 w1_5))) (bx:=false) (ro:=false) (nr:=false) (fl:=false) (w:=3) (fun a=>by cases a <;> rfl) kr rfl) <| hkn 0 (fun n50=>⟨[(4,.ptr 0 0 0)],[oX false false 2 (.agg [vI w1_0,.ref 1 0 n50]),oR false 3 eTapi_Node (List.set w1_1 (zt w1_2) (Tapi_Node.mk w1_3 w1_4 w1_5)),.row false true true true 1 (List.map eI w1_4),.row false true true false 1 (List.map z1 w1_5),.dead],323⟩) (ls w1_1 (zt w1_2) (Tapi_Node.mk w1_3 w1_4 w1_5)) <| hwk 0 (wl [4] [0,1]) <| hwk 0 (won 0 0 [F eTapi_Node (List.set w1_1 (zt w1_2) (Tapi_Node.mk w1_3 w1_4 w1_5))]) <| hrt 1
theorem g_ref05_Bend_Of_j3_ok (w3_0:Int) (w3_1:(List Tapi_Node)) (w3_2:Int) (w3_3:Int) (w3_4:(List Int)) (w3_5:(List (List Int))):Hl Tryd.prog (fun x out=>Qdn Tryd.prog Tryd.f14 [[.keep,.lst false]] out=some (.agg [vI x.Grain,eL false eTapi_Node x.Nodes],[])) (atW Tryd.prog Tryd.f14 [true,true,true,true,true,true,true,true,true,true] ⟨[(4,.ptr 0 0 0)],[oX false false 2 (.agg [vI w3_0,.ref 1 0 w3_1.length]),.row false false false false 3 (hole eTapi_Node w3_1 w3_2 (.agg [vI w3_3,.ref 2 0 w3_4.length,.ref 3 0 w3_5.length])),oR true 1 eI w3_4,.refs 4 (eF eI w3_5),.fam 1 true (eF eI w3_5)],323⟩) (Qm w3_0 w3_1 w3_2 w3_3 w3_4 w3_5):=by
 refine hbd fun a58 q59=>hwk 0 (Qd5 3 4 (w:=1) (fl:=true) (enc:=eI) (ls:=w3_5) kr kr rfl) <| hwk 0 (wcl 1 [F eI w3_4,F z1 w3_5] (enc:=eTapi_Node) (L:=w3_1) (n:=w3_2) (A:=.agg [vI w3_3,.ref 2 0 w3_4.length,.ref 3 0 w3_5.length]) (bx:=false) (ro:=false) (nr:=false) (fl:=false) (w:=3) q59) <| hkn 0 (fun z60=>⟨[(4,.ptr 0 0 0)],[oX false false 2 (.agg [vI w3_0,.ref 1 0 w3_1.length]),.row false false false false 3 z60,.row false true true true 1 (List.map eI w3_4),.row false true true false 1 (List.map z1 w3_5),.dead],323⟩) (show ((hole eTapi_Node w3_1 w3_2 (.agg [vI w3_3,.ref 2 0 w3_4.length,.ref 3 0 w3_5.length])).set (zt w3_2) (.agg [vI w3_3,z1 w3_4,z2 w3_5]))=List.map eTapi_Node (List.set w3_1 (zt w3_2) (Tapi_Node.mk w3_3 w3_4 w3_5)) from Qcz (enc:=eTapi_Node) (L:=w3_1) (n:=w3_2) (A:=.agg [vI w3_3,.ref 2 0 w3_4.length,.ref 3 0 w3_5.length]) (b:=(Tapi_Node.mk w3_3 w3_4 w3_5))) <| hwk 0 (wk_rowT 1 (enc:=eTapi_Node) (L:=(List.set w3_1 (zt w3_2) (Tapi_Node.mk w3_3 w3_4 w3_5))) (bx:=false) (ro:=false) (nr:=false) (fl:=false) (w:=3) (fun a=>by cases a <;> rfl) kr rfl) <| hkn 0 (fun n61=>⟨[(4,.ptr 0 0 0)],[oX false false 2 (.agg [vI w3_0,.ref 1 0 n61]),oR false 3 eTapi_Node (List.set w3_1 (zt w3_2) (Tapi_Node.mk w3_3 w3_4 w3_5)),.row false true true true 1 (List.map eI w3_4),.row false true true false 1 (List.map z1 w3_5),.dead],323⟩) (ls w3_1 (zt w3_2) (Tapi_Node.mk w3_3 w3_4 w3_5)) <| hwk 0 (wl [4] [0,1]) <| hwk 0 (won 0 0 [F eTapi_Node (List.set w3_1 (zt w3_2) (Tapi_Node.mk w3_3 w3_4 w3_5))]) <| hrt 1
theorem g_ref05_Bend_Of_j4_ok (w4_0:Int) (w4_1:(List Tapi_Node)) (w4_2:Int) (w4_3:Int) (w4_4:(List (List Int))):Hl Tryd.prog (fun x out=>Qdn Tryd.prog Tryd.f14 [[.keep,.lst false]] out=some (.agg [vI x.Grain,eL false eTapi_Node x.Nodes],[])) (atW Tryd.prog Tryd.f14 [true,true,true,true,true,true,true,true,true,true] ⟨[(4,.ptr 0 0 0)],[oX false false 2 (.agg [vI w4_0,.ref 1 0 w4_1.length]),.row false false false false 3 (hole eTapi_Node w4_1 w4_2 (.agg [vI w4_3,.nils,.ref 2 0 w4_4.length])),.refs 3 (eF eI w4_4),.fam 1 true (eF eI w4_4)],323⟩) (Qa2 w4_0 w4_1 w4_2 w4_3 w4_4):=by
 refine hbd fun a74 q75=>hwk 0 (Qd5 2 3 (w:=1) (fl:=true) (enc:=eI) (ls:=w4_4) kr kr rfl) <| hwk 0 (Qh5 1 1 1 true true (enc:=eTapi_Node) (L:=w4_1) (n:=w4_2) (a:=a74) (A:=.agg [vI w4_3,.nils,.ref 2 0 w4_4.length]) (A':=.agg [vI w4_3,.ref 4 0 0,.ref 2 0 w4_4.length]) (y:=.nils) (bx:=false) (nr0:=false) (fl0:=false) (w0:=3) q75 kr kr kr kr rfl) <| hwk 0 (wcl 1 [none,F z1 w4_4] (enc:=eTapi_Node) (L:=w4_1) (n:=w4_2) (A:=.agg [vI w4_3,.ref 4 0 0,.ref 2 0 w4_4.length]) (bx:=false) (ro:=false) (nr:=false) (fl:=false) (w:=3) q75) <| hkn 0 (fun z76=>⟨[(4,.ptr 0 0 0)],[oX false false 2 (.agg [vI w4_0,.ref 1 0 w4_1.length]),.row false false false false 3 z76,.row false true true false 1 (List.map z1 w4_4),.dead,.row false true true true 1 []],323⟩) (show ((hole eTapi_Node w4_1 w4_2 (.agg [vI w4_3,.ref 4 0 0,.ref 2 0 w4_4.length])).set (zt w4_2) (.agg [vI w4_3,.lst true [],z2 w4_4]))=List.map eTapi_Node (List.set w4_1 (zt w4_2) (Tapi_Node.mk w4_3 [] w4_4)) from Qcz (enc:=eTapi_Node) (L:=w4_1) (n:=w4_2) (A:=.agg [vI w4_3,.ref 4 0 0,.ref 2 0 w4_4.length]) (b:=(Tapi_Node.mk w4_3 [] w4_4))) <| hwk 0 (wk_rowT 1 (enc:=eTapi_Node) (L:=(List.set w4_1 (zt w4_2) (Tapi_Node.mk w4_3 [] w4_4))) (bx:=false) (ro:=false) (nr:=false) (fl:=false) (w:=3) (fun a=>by cases a <;> rfl) kr rfl) <| hkn 0 (fun n77=>⟨[(4,.ptr 0 0 0)],[oX false false 2 (.agg [vI w4_0,.ref 1 0 n77]),oR false 3 eTapi_Node (List.set w4_1 (zt w4_2) (Tapi_Node.mk w4_3 [] w4_4)),.row false true true false 1 (List.map z1 w4_4),.dead,.row false true true true 1 []],323⟩) (ls w4_1 (zt w4_2) (Tapi_Node.mk w4_3 [] w4_4)) <| hwk 0 (wl [4] [0,1]) <| hwk 0 (won 0 0 [F eTapi_Node (List.set w4_1 (zt w4_2) (Tapi_Node.mk w4_3 [] w4_4))]) <| ?_
 refine hrt 1
theorem Qih (w5_0:Int) (w5_1:(List Tapi_Node)):Hl Tryd.prog (fun x out=>Qdn Tryd.prog Tryd.f14 [[.keep,.lst false]] out=some (.agg [vI x.Grain,eL false eTapi_Node x.Nodes],[])) (atW Tryd.prog Tryd.f14 [true,true,true,true,true,true,true,true,true,true] ⟨[(4,.ptr 0 0 0)],[oX false false 2 (.agg [vI w5_0,.ref 1 0 w5_1.length]),oR false 3 eTapi_Node w5_1],323⟩) (Qa7 w5_0 w5_1):=by
 refine hwk 0 (wl [4] [0,1]) <| hwk 0 (won 0 0 [F eTapi_Node w5_1]) <| hrt 1
noncomputable abbrev o55_65 (w2_2 w2_3 w2_4 w2_5:Int):AObj:=oX true true 4 (.agg [.int .u8 w2_2,.int .u8 w2_3,.int .u8 w2_4,vI w2_5])
noncomputable abbrev o55_66 (w2_6:Int) (w2_8:(List Tapi_Node)):AObj:=oX false false 2 (.agg [vI w2_6,.ref 3 0 w2_8.length])
noncomputable abbrev o55_67 (w2_11:(List Int)):AObj:=.row false true true true 1 (List.map eI w2_11)
noncomputable abbrev o55_68 (w2_7:Int):AObj:=oX true false 2 (.agg [vI w2_7,.nils])
noncomputable abbrev Q2y (w2_2:Int):Nat×AV:=(101,.int .u8 (Int.tmod w2_2 12))
noncomputable abbrev s55_70 (w2_9 w2_1 w2_2:Int):List (Nat×AV):=[(2,.ptr 0 0 0),(3,.ptr 1 0 0),(4,.ptr 2 0 0),(10,.ptr 3 (zt w2_9) 0),(11,vI w2_1),(99,.ptr 0 0 0),(100,.int .u8 w2_2),(Q2y w2_2),(111,vB false),(110,vB false),(116,vB false),(115,vB false),(123,vB false),(122,vB false),(136,vB false),(135,vB false),(141,vB false),(140,vB false)]
noncomputable abbrev s55_71 (a0 a1 a2 a3 a4 a5 a6 a7 a8 a9 a10 a11 a12 a13 a14 a15 a16:Nat×AV) (w2_9 w2_1 a143:Int):List (Nat×AV):=[(3,.ptr 0 0 0),(4,.ptr 1 0 0),(10,.ptr 2 (zt w2_9) 0),(11,vI w2_1),a0,a1,a2,a3,(266,vB true),(269,.ptr 2 (zt w2_9) 0),(270,.ptr 2 (zt w2_9) 0),(271,.ptr 2 (zt w2_9) 2),a4,(273,vI w2_1),(274,.ptr 4 (zt w2_1) 0),a5,a6,a7,a8,a9,(279,.ptr 2 (zt w2_9) 0),(280,.ptr 2 (zt w2_9) 0),(281,.ptr 2 (zt w2_9) 2),a10,(283,vI w2_1),(284,.ptr 4 (zt w2_1) 0),a11,a12,(287,.ptr 2 (zt w2_9) 0),(288,.ptr 2 (zt w2_9) 0),(289,.ptr 2 (zt w2_9) 2),a13,(291,vI w2_1),(292,.ptr 4 (zt w2_1) 0),a14,a15,a16,(296,vI a143)]
theorem g_ref05_Bend_Of_j2_ok (w2_0:Nat) (w2_1:Int) (w2_2:Int) (w2_3:Int) (w2_4:Int) (w2_5:Int) (w2_6:Int) (w2_7:Int) (w2_8:(List Tapi_Node)) (w2_9:Int) (w2_10:Int) (w2_11:(List Int)) (w2_12:(List (List Int))):Hl Tryd.prog (fun x out=>Qdn Tryd.prog Tryd.f14 [[.keep,.lst false]] out=some (.agg [vI x.Grain,eL false eTapi_Node x.Nodes],[])) (atW Tryd.prog Tryd.f14 [true,true,true,true,true,true,true,true] ⟨[(2,.ptr 0 0 0),(3,.ptr 1 0 0),(4,.ptr 2 0 0),(10,.ptr 3 (zt w2_9) 0),(11,vI w2_1)],[oX true true 4 (.agg [.int .u8 w2_2,.int .u8 w2_3,.int .u8 w2_4,vI w2_5]),oX false false 2 (.agg [vI w2_6,.ref 3 0 w2_8.length]),oX true false 2 (.agg [vI w2_7,.nils]),.row false false false false 3 (hole eTapi_Node w2_8 w2_9 (.agg [vI w2_10,.ref 4 0 w2_11.length,.ref 5 0 w2_12.length])),oR true 1 eI w2_11,.refs 6 (eF eI w2_12),.fam 1 true (eF eI w2_12)],323⟩) (Vv w2_0 w2_1 w2_2 w2_3 w2_4 w2_5 w2_6 w2_7 w2_8 w2_9 w2_10 w2_11 w2_12):=by
 refine hbr 5 [111,110] (?_) ?_
 ·refine hjn 7 (g_ref05_Bend_Of_j3_ok w2_5 w2_8 w2_9 w2_10 w2_11 w2_12) (wk_gcH (live:=[4]) (keep:=[2,3,4,5,6]) 3 eTapi_Node w2_8 w2_9 (.agg [vI w2_10,.ref 4 0 w2_11.length,.ref 5 0 w2_12.length]) 3 (fun f a=>by cases a <;> rfl) kr kr)
 refine hbr 3 [116,115] (?_) ?_
 ·refine hbd fun a64 q65=>hop 6 (fun _=>Qdc (enc:=eTapi_Node) (L:=w2_8) (n:=w2_9) (a:=a64) (A:=.agg [vI w2_10,.ref 4 0 w2_11.length,.ref 5 0 w2_12.length]) (ob:=3) (w:=3) (A':=.agg [vI w2_5,.ref 4 0 w2_11.length,.ref 5 0 w2_12.length]) (v:=vI w2_5) (c:=0) kr kr q65 kr kr gE kr) <| hjn 2 (g_ref05_Bend_Of_j3_ok w2_6 w2_8 w2_9 w2_5 w2_11 w2_12) (wk_gcH (live:=[4]) (keep:=[2,3,4,5,6]) 3 eTapi_Node w2_8 w2_9 (.agg [vI w2_5,.ref 4 0 w2_11.length,.ref 5 0 w2_12.length]) 3 (fun f a=>by cases a <;> rfl) kr kr)
 refine hbr 3 [123,122] (?_) ?_
 ·refine hbd fun a68 q69=>hop 6 (fun _=>Xv (enc:=eTapi_Node) (L:=w2_8) (n:=w2_9) (a:=a68) (A:=.agg [vI w2_10,.ref 4 0 w2_11.length,.ref 5 0 w2_12.length]) (ob:=3) (w:=3) (c:=1) (ro:=false) (nr:=false) (fl:=false) kr kr q69 gE) <| hop 2 (fun _=>sgL false [] [] true gE) <| hoh 0 (fun _ _ h k=>Z0 (enc:=eI) (l:=w2_11) (m:=([w2_5]:(List Int))) (w:=1) (bytes:=8) (ob:=4) (nr:=true) (fl:=true) (nr':=true) (fl':=true) (b:=.ref 7 0 1) (rds:=[7]) false kr kr kr kr gE kr h k) <| hop 2 (fun _=>Qdc (enc:=eTapi_Node) (L:=w2_8) (n:=w2_9) (a:=a68) (A:=.agg [vI w2_10,.ref 4 0 w2_11.length,.ref 5 0 w2_12.length]) (ob:=3) (w:=3) (A':=.agg [vI w2_10,.ref 8 0 ((w2_11++([w2_5]:(List Int))).length),.ref 5 0 w2_12.length]) (v:=.ref 8 0 ((w2_11++([w2_5]:(List Int))).length)) (c:=1) kr kr q69 kr kr gE kr) <| hjn 2 (g_ref05_Bend_Of_j3_ok w2_6 w2_8 w2_9 w2_10 (w2_11++([w2_5]:(List Int))) w2_12) (wk_gcH (live:=[4]) (keep:=[2,3,8,5,6]) 3 eTapi_Node w2_8 w2_9 (.agg [vI w2_10,.ref 8 0 ((w2_11++([w2_5]:(List Int))).length),.ref 5 0 w2_12.length]) 3 (fun f a=>by cases a <;> rfl) kr kr)
 refine hbr 3 [136,135] (?_) ?_
 ·refine hbd fun a72 q73=>hop 4 (fun _=>Qdc (enc:=eTapi_Node) (L:=w2_8) (n:=w2_9) (a:=a72) (A:=.agg [vI w2_10,.ref 4 0 w2_11.length,.ref 5 0 w2_12.length]) (ob:=3) (w:=3) (A':=.agg [vI w2_10,.nils,.ref 5 0 w2_12.length]) (v:=.nils) (c:=1) kr kr q73 kr kr gE kr) <| hjn 2 (g_ref05_Bend_Of_j4_ok w2_6 w2_8 w2_9 w2_10 w2_12) (wk_gcH (live:=[4]) (keep:=[2,3,5,6]) 3 eTapi_Node w2_8 w2_9 (.agg [vI w2_10,.nils,.ref 5 0 w2_12.length]) 3 (fun f a=>by cases a <;> rfl) kr kr)
 refine hbr 3 [141,140] (?_) ?_
 ·refine hbd fun a80 q81=>hop 6 (fun _=>Xv (enc:=eTapi_Node) (L:=w2_8) (n:=w2_9) (a:=a80) (A:=.agg [vI w2_10,.ref 4 0 w2_11.length,.ref 5 0 w2_12.length]) (ob:=3) (w:=3) (c:=2) (ro:=false) (nr:=false) (fl:=false) kr kr q81 gE) <| hop 2 (fun _=>sgL false [] [] true gE) <| hop 0 (fun _=>sg true 1 _ gE rfl) <| hoh 0 (fun _ _ h k=>Qu1 (enc:=eI) (ls:=w2_12) (q:=([w2_5]:(List Int))) (bytes:=24) (ob:=5) (j:=6) (tm:=8) (m:=7) kr kr kr kr gE kr h k) <| hop 2 (fun _=>Qdc (enc:=eTapi_Node) (L:=w2_8) (n:=w2_9) (a:=a80) (A:=.agg [vI w2_10,.ref 4 0 w2_11.length,.ref 5 0 w2_12.length]) (ob:=3) (w:=3) (A':=.agg [vI w2_10,.ref 4 0 w2_11.length,.ref 9 0 ((w2_12++[([w2_5]:(List Int))]).length)]) (v:=.ref 9 0 ((w2_12++[([w2_5]:(List Int))]).length)) (c:=2) kr kr q81 kr kr gE kr) <| hwk 0 (wk_trans (wk_dead 8 gE) (wk_adoptA 9 6 7 (w:=1) (fl:=true) (enc:=eI) (ls:=w2_12) (b:=([w2_5]:(List Int))) [2,3,4,10,11,99,100,101,111,110,116,115,123,122,136,135,141,140,142,143,144,145,146,147,148,150,151,152,153] kr kr kr (and2 (safeAll_hole 3 3 eTapi_Node w2_8 w2_9 (.agg [vI w2_10,.ref 4 0 w2_11.length,.ref 9 0 ((w2_12++[([w2_5]:(List Int))]).length)]) (fun a=>rfl) kr kr) kr) rfl)) <| hjn 2 (g_ref05_Bend_Of_j3_ok w2_6 w2_8 w2_9 w2_10 w2_11 (w2_12++[([w2_5]:(List Int))])) (wk_gcH (live:=[4]) (keep:=[2,3,4,9,6]) 3 eTapi_Node w2_8 w2_9 (.agg [vI w2_10,.ref 4 0 w2_11.length,.ref 9 0 ((w2_12++[([w2_5]:(List Int))]).length)]) 3 (fun f a=>by cases a <;> rfl) kr kr)
 refine hbr 3 [155,154] (?_) ?_
 ·refine hbr 3 [157] (?_) ?_
  ·refine hwk 1 (Qd5 5 6 (w:=1) (fl:=true) (enc:=eI) (ls:=w2_12) kr kr rfl) <| hbd fun a86 q87=>hop 4 (fun _=>Xv (enc:=eTapi_Node) (L:=w2_8) (n:=w2_9) (a:=a86) (A:=.agg [vI w2_10,.ref 4 0 w2_11.length,.ref 5 0 w2_12.length]) (ob:=3) (w:=3) (c:=2) (ro:=false) (nr:=false) (fl:=false) kr kr q87 gE) <| hoq 1 (fun _ _ h k=>Xd (enc:=z1) (l:=w2_12) (ob:=5) (ro:=false) (nr:=true) (fl:=false) (lo:=none) (hi:=(some (vI w2_1))) (a:=0) (b:=w2_1) (w:=1) kr kr kr kr gE h k) fun q88=>hop 2 (fun _=>Qdc (enc:=eTapi_Node) (L:=w2_8) (n:=w2_9) (a:=a86) (A:=.agg [vI w2_10,.ref 4 0 w2_11.length,.ref 5 0 w2_12.length]) (ob:=3) (w:=3) (A':=.agg [vI w2_10,.ref 4 0 w2_11.length,.ref 5 0 (zt w2_1 - zt (0:Int))]) (v:=.ref 5 0 (zt w2_1 - zt (0:Int))) (c:=2) kr kr q87 kr kr gE kr) <| hwk 2 (wcl 3 [F eI w2_11,Fp z1 w2_12 (a:=0) (b:=w2_1) q88] (enc:=eTapi_Node) (L:=w2_8) (n:=w2_9) (A:=.agg [vI w2_10,.ref 4 0 w2_11.length,.ref 5 0 (zt w2_1 - zt (0:Int))]) (bx:=false) (ro:=false) (nr:=false) (fl:=false) (w:=3) q87) <| hkn 0 (fun z89=>⟨(s55_70 w2_9 w2_1 w2_2)++[(155,vB true),(154,vB true),(156,vI w2_1),(157,vB true),(158,.ptr 3 (zt w2_9) 0),(159,.ptr 3 (zt w2_9) 0),(160,.ptr 3 (zt w2_9) 0),(161,.ptr 3 (zt w2_9) 2),(162,.ref 5 0 w2_12.length),(163,vI w2_1),(164,.ref 5 0 (zt w2_1 - zt (0:Int))),(165,.ptr 3 (zt w2_9) 0),(166,.ptr 3 (zt w2_9) 2),(322,.agg [vI w2_6,.ref 3 0 w2_8.length])],[(o55_65 w2_2 w2_3 w2_4 w2_5),(o55_66 w2_6 w2_8),(o55_66 w2_6 w2_8),.row false false false false 3 z89,(o55_67 w2_11),.row false true true false 1 (List.map z1 w2_12),.dead],323⟩) (show ((hole eTapi_Node w2_8 w2_9 (.agg [vI w2_10,.ref 4 0 w2_11.length,.ref 5 0 (zt w2_1 - zt (0:Int))])).set (zt w2_9) (.agg [vI w2_10,z1 w2_11,z2 (sub w2_12 0 w2_1)]))=List.map eTapi_Node (List.set w2_8 (zt w2_9) (Tapi_Node.mk w2_10 w2_11 (sub w2_12 0 w2_1))) from Qcz (enc:=eTapi_Node) (L:=w2_8) (n:=w2_9) (A:=.agg [vI w2_10,.ref 4 0 w2_11.length,.ref 5 0 (zt w2_1 - zt (0:Int))]) (b:=(Tapi_Node.mk w2_10 w2_11 (sub w2_12 0 w2_1)))) <| hwk 0 (wk_rowT 3 (enc:=eTapi_Node) (L:=(List.set w2_8 (zt w2_9) (Tapi_Node.mk w2_10 w2_11 (sub w2_12 0 w2_1)))) (bx:=false) (ro:=false) (nr:=false) (fl:=false) (w:=3) (fun a=>by cases a <;> rfl) kr rfl) <| hkn 0 (fun n90=>⟨(s55_70 w2_9 w2_1 w2_2)++[(155,vB true),(154,vB true),(156,vI w2_1),(157,vB true),(158,.ptr 3 (zt w2_9) 0),(159,.ptr 3 (zt w2_9) 0),(160,.ptr 3 (zt w2_9) 0),(161,.ptr 3 (zt w2_9) 2),(162,.ref 5 0 w2_12.length),(163,vI w2_1),(164,.ref 5 0 (zt w2_1 - zt (0:Int))),(165,.ptr 3 (zt w2_9) 0),(166,.ptr 3 (zt w2_9) 2),(322,.agg [vI w2_6,.ref 3 0 n90])],[(o55_65 w2_2 w2_3 w2_4 w2_5),oX false false 2 (.agg [vI w2_6,.ref 3 0 n90]),oX false false 2 (.agg [vI w2_6,.ref 3 0 n90]),oR false 3 eTapi_Node (List.set w2_8 (zt w2_9) (Tapi_Node.mk w2_10 w2_11 (sub w2_12 0 w2_1))),(o55_67 w2_11),.row false true true false 1 (List.map z1 w2_12),.dead],323⟩) (ls w2_8 (zt w2_9) (Tapi_Node.mk w2_10 w2_11 (sub w2_12 0 w2_1))) <| ?_
   refine hjn 0 (Qih w2_6 (List.set w2_8 (zt w2_9) (Tapi_Node.mk w2_10 w2_11 (sub w2_12 0 w2_1)))) (wz [2,3])
  refine hjn 3 (g_ref05_Bend_Of_j3_ok w2_6 w2_8 w2_9 w2_10 w2_11 w2_12) (wk_gcH (live:=[4]) (keep:=[2,3,4,5,6]) 3 eTapi_Node w2_8 w2_9 (.agg [vI w2_10,.ref 4 0 w2_11.length,.ref 5 0 w2_12.length]) 3 (fun f a=>by cases a <;> rfl) kr kr)
 refine hbr 3 [168,167] (?_) ?_
 ·refine hbr 4 [170,171] (?_) ?_
  ·refine hbd fun a95 q96=>hop 3 (fun _=>Xv (enc:=eTapi_Node) (L:=w2_8) (n:=w2_9) (a:=a95) (A:=.agg [vI w2_10,.ref 4 0 w2_11.length,.ref 5 0 w2_12.length]) (ob:=3) (w:=3) (c:=2) (ro:=false) (nr:=false) (fl:=false) kr kr q96 gE) <| hbd fun a97 q98=>hop 1 (fun _=>Qgi (enc:=eI) (ls:=w2_12) (x:=a97) (n:=w2_1) (ob:=5) (j:=6) kr kr q98 gE) <| hop 0 (fun _=>Qel (enc:=eI) (ls:=w2_12) (x:=a97) (n:=w2_1) (ob:=5) (j:=6) kr kr q98 gE) <| hbr 3 [180,181] (?_) ?_
   ·refine hop 5 (fun _=>Xv (enc:=eTapi_Node) (L:=w2_8) (n:=w2_9) (a:=a95) (A:=.agg [vI w2_10,.ref 4 0 w2_11.length,.ref 5 0 w2_12.length]) (ob:=3) (w:=3) (c:=2) (ro:=false) (nr:=false) (fl:=false) kr kr q96 gE) <| hop 1 (fun _=>Qgi (enc:=eI) (ls:=w2_12) (x:=a97) (n:=w2_1) (ob:=5) (j:=6) kr kr q98 gE) <| hop 0 (fun _=>Qel (enc:=eI) (ls:=w2_12) (x:=a97) (n:=w2_1) (ob:=5) (j:=6) kr kr q98 gE) <| hbd fun a101 q102=>hop 2 (fun _=>Qpd (enc:=eI) (ls:=w2_12) (x:=a97) (y:=a101) (n:=w2_1) (c:=0) (w:=1) (j:=6) (fl:=true) kr kr q98 q102 kr gE) <| hop 0 (fun _=>Qn8 (enc:=eI) (ls:=w2_12) (x:=a97) (y:=a101) (y':=w2_5) (n:=w2_1) (m:=0) (w:=1) (j:=6) (q:=5) (c:=0) (fl:=true) (v:=vI w2_5) kr kr kr q98 q102 kr kr kr kr gE) <| hkn 0 (fun n103=>⟨(s55_70 w2_9 w2_1 w2_2)++[(155,vB false),(154,vB false),(168,vB true),(167,vB true),(169,vI w2_1),(170,vB true),(171,vB true),(172,.ptr 3 (zt w2_9) 0),(173,.ptr 3 (zt w2_9) 0),(174,.ptr 3 (zt w2_9) 2),(175,.ref 5 0 n103),(176,vI w2_1),(177,.ptr 5 (zt w2_1) 0),(178,.ref (fid 6 (zt w2_1)) 0 a97.length),(179,vI (zn a97)),(180,vB true),(181,vB true),(182,.ptr 3 (zt w2_9) 0),(183,.ptr 3 (zt w2_9) 0),(184,.ptr 3 (zt w2_9) 2),(185,.ref 5 0 n103),(186,vI w2_1),(187,.ptr 5 (zt w2_1) 0),(188,.ref (fid 6 (zt w2_1)) 0 a97.length),(189,.ptr 0 0 3),(190,vI w2_5),(191,.ptr (fid 6 (zt w2_1)) (zt 0) 0)],[(o55_65 w2_2 w2_3 w2_4 w2_5),(o55_66 w2_6 w2_8),(o55_68 w2_7),.row false false false false 3 (hole eTapi_Node w2_8 w2_9 (.agg [vI w2_10,.ref 4 0 w2_11.length,.ref 5 0 n103])),oR true 1 eI w2_11,.refs 6 (eF eI (List.set w2_12 (zt w2_1) (List.set a97 (zt 0) w2_5))),.fam 1 true (eF eI (List.set w2_12 (zt w2_1) (List.set a97 (zt 0) w2_5)))],323⟩) (ls w2_12 (zt w2_1) (List.set a97 (zt 0) w2_5)) <| hjn 2 (g_ref05_Bend_Of_j3_ok w2_6 w2_8 w2_9 w2_10 w2_11 (List.set w2_12 (zt w2_1) (List.set a97 (zt 0) w2_5))) (wk_gcH (live:=[4]) (keep:=[2,3,4,5,6]) 3 eTapi_Node w2_8 w2_9 (.agg [vI w2_10,.ref 4 0 w2_11.length,.ref 5 0 ((List.set w2_12 (zt w2_1) (List.set a97 (zt 0) w2_5)).length)]) 3 (fun f a=>by cases a <;> rfl) kr kr)
   refine hjn 3 (g_ref05_Bend_Of_j3_ok w2_6 w2_8 w2_9 w2_10 w2_11 w2_12) (wk_gcH (live:=[4]) (keep:=[2,3,4,5,6]) 3 eTapi_Node w2_8 w2_9 (.agg [vI w2_10,.ref 4 0 w2_11.length,.ref 5 0 w2_12.length]) 3 (fun f a=>by cases a <;> rfl) kr kr)
  refine hjn 13 (g_ref05_Bend_Of_j3_ok w2_6 w2_8 w2_9 w2_10 w2_11 w2_12) (wk_gcH (live:=[4]) (keep:=[2,3,4,5,6]) 3 eTapi_Node w2_8 w2_9 (.agg [vI w2_10,.ref 4 0 w2_11.length,.ref 5 0 w2_12.length]) 3 (fun f a=>by cases a <;> rfl) kr kr)
 refine hbr 3 [193,192] (?_) ?_
 ·refine hbr 3 [195] (?_) ?_
  ·refine hbd fun a108 q109=>hwk 1 (Qzb 5 6 (w:=1) (fl:=true) (enc:=eI) (ls:=w2_12) (x:=a108) (n:=w2_1) [2,3,4,10,11,99,100,101,111,110,116,115,123,122,136,135,141,140,155,154,168,167,193,192,194,195] kr kr q109 (Q3w (safeAll_hole 3 3 eTapi_Node w2_8 w2_9 (.agg [vI w2_10,.ref 4 0 w2_11.length,.ref 5 0 w2_12.length]) (fun a=>rfl) kr kr) kr) rfl) <| hkn 0 (fun n110=>⟨(s55_70 w2_9 w2_1 w2_2)++[(155,vB false),(154,vB false),(168,vB false),(167,vB false),(193,vB true),(192,vB true),(194,vI w2_1),(195,vB true)],[(o55_65 w2_2 w2_3 w2_4 w2_5),(o55_66 w2_6 w2_8),(o55_68 w2_7),.row false false false false 3 (hole eTapi_Node w2_8 w2_9 (.agg [vI w2_10,.ref 4 0 w2_11.length,.ref 5 0 n110])),oR true 1 eI w2_11,.row false false false false 1 ((Q4 6 0 (eF eI (List.set w2_12 (zt w2_1) ([]:List Int)))).set (zt w2_1) (.ref 7 0 a108.length)),.fam 1 true (eF eI (List.set w2_12 (zt w2_1) ([]:List Int))),oR true 1 eI a108],323⟩) (ls w2_12 (zt w2_1) ([]:List Int)) <| hbd fun a111 q112=>hop 4 (fun _=>Xv (enc:=eTapi_Node) (L:=w2_8) (n:=w2_9) (a:=a111) (A:=.agg [vI w2_10,.ref 4 0 w2_11.length,.ref 5 0 ((List.set w2_12 (zt w2_1) ([]:List Int)).length)]) (ob:=3) (w:=3) (c:=2) (ro:=false) (nr:=false) (fl:=false) kr kr q112 gE) <| hop 4 (fun _=>Xv (enc:=eTapi_Node) (L:=w2_8) (n:=w2_9) (a:=a111) (A:=.agg [vI w2_10,.ref 4 0 w2_11.length,.ref 5 0 ((List.set w2_12 (zt w2_1) ([]:List Int)).length)]) (ob:=3) (w:=3) (c:=2) (ro:=false) (nr:=false) (fl:=false) kr kr q112 gE) <| hop 1 (fun _=>Q2c (enc:=eI) (ls:=(List.set w2_12 (zt w2_1) ([]:List Int))) (x:=([]:List Int)) (n:=w2_1) (ob:=5) (j:=6) (m:=7) (q:=a108.length) kr kr (lkI_set ([]:List Int) q109) gE) <| hop 0 (fun _=>Q3k (enc:=eI) (ls:=(List.set w2_12 (zt w2_1) ([]:List Int))) (x:=([]:List Int)) (n:=w2_1) (ob:=5) (j:=6) (m:=7) (q:=a108.length) kr kr (lkI_set ([]:List Int) q109) gE) <| hop 0 (fun _=>sgL false [] [] true gE) <| ?_
   refine hoh 0 (fun _ _ h k=>Z0 (enc:=eI) (l:=a108) (m:=([0]:(List Int))) (w:=1) (bytes:=8) (ob:=7) (nr:=true) (fl:=true) (nr':=true) (fl':=true) (b:=.ref 8 0 1) (rds:=[8]) false kr kr kr kr gE kr h k) <| hop 0 (fun _=>Q2c (enc:=eI) (ls:=(List.set w2_12 (zt w2_1) ([]:List Int))) (x:=([]:List Int)) (n:=w2_1) (ob:=5) (j:=6) (m:=7) (q:=a108.length) kr kr (lkI_set ([]:List Int) q109) gE) <| hop 0 (fun _=>Q1h (enc:=eI) (ls:=(List.set w2_12 (zt w2_1) ([]:List Int))) (x:=([]:List Int)) (n:=w2_1) (ob:=5) (j:=6) (m0:=7) (q0:=a108.length) (m:=9) (q:=(a108++([0]:(List Int))).length) kr kr (lkI_set ([]:List Int) q109) kr gE kr) <| hwk 0 (wk_trans (wk_adopt 5 6 9 (w:=1) (fl:=true) (enc:=eI) (ls:=(List.set w2_12 (zt w2_1) ([]:List Int))) (x:=([]:List Int)) (b:=(a108++([0]:(List Int)))) (n:=w2_1) [2,3,4,10,11,99,100,101,111,110,116,115,123,122,136,135,141,140,155,154,168,167,193,192,194,195,196,197,198,199,200,201,202,203,204,205,206,207,208,210] kr kr kr (lkI_set ([]:List Int) q109) (and2 (safeAll_hole 3 3 eTapi_Node w2_8 w2_9 (.agg [vI w2_10,.ref 4 0 w2_11.length,.ref 5 0 ((List.set w2_12 (zt w2_1) ([]:List Int)).length)]) (fun a=>rfl) kr kr) kr) rfl) (wkv (fun n113=>⟨(s55_70 w2_9 w2_1 w2_2)++[(155,vB false),(154,vB false),(168,vB false),(167,vB false),(193,vB true),(192,vB true),(194,vI w2_1),(195,vB true),(196,.ptr 3 (zt w2_9) 0),(197,.ptr 3 (zt w2_9) 0),(198,.ptr 3 (zt w2_9) 2),(199,.ref 5 0 n113),(200,vI w2_1),(201,.ptr 3 (zt w2_9) 0),(202,.ptr 3 (zt w2_9) 0),(203,.ptr 3 (zt w2_9) 2),(204,.ref 5 0 n113),(205,vI w2_1),(206,.ptr 5 (zt w2_1) 0),(207,.ref 7 0 a108.length),(208,.ref 8 0 1),(210,.ptr 5 (zt w2_1) 0)],[(o55_65 w2_2 w2_3 w2_4 w2_5),(o55_66 w2_6 w2_8),(o55_68 w2_7),.row false false false false 3 (hole eTapi_Node w2_8 w2_9 (.agg [vI w2_10,.ref 4 0 w2_11.length,.ref 5 0 n113])),oR true 1 eI w2_11,.refs 6 (eF eI (List.set (List.set w2_12 (zt w2_1) ([]:List Int)) (zt w2_1) (a108++([0]:(List Int))))),.fam 1 true (eF eI (List.set (List.set w2_12 (zt w2_1) ([]:List Int)) (zt w2_1) (a108++([0]:(List Int))))),.dead,.row false false true true 1 [vI 0],.dead],323⟩) (ls (List.set w2_12 (zt w2_1) ([]:List Int)) (zt w2_1) (a108++([0]:(List Int)))))) <| hjn 2 (g_ref05_Bend_Of_j3_ok w2_6 w2_8 w2_9 w2_10 w2_11 (List.set (List.set w2_12 (zt w2_1) ([]:List Int)) (zt w2_1) (a108++([0]:(List Int))))) (wk_gcH (live:=[4]) (keep:=[2,3,4,5,6]) 3 eTapi_Node w2_8 w2_9 (.agg [vI w2_10,.ref 4 0 w2_11.length,.ref 5 0 ((List.set (List.set w2_12 (zt w2_1) ([]:List Int)) (zt w2_1) (a108++([0]:(List Int)))).length)]) 3 (fun f a=>by cases a <;> rfl) kr kr)
  refine hjn 3 (g_ref05_Bend_Of_j3_ok w2_6 w2_8 w2_9 w2_10 w2_11 w2_12) (wk_gcH (live:=[4]) (keep:=[2,3,4,5,6]) 3 eTapi_Node w2_8 w2_9 (.agg [vI w2_10,.ref 4 0 w2_11.length,.ref 5 0 w2_12.length]) 3 (fun f a=>by cases a <;> rfl) kr kr)
 refine hbr 3 [212,211] (?_) ?_
 ·refine hbr 4 [214,215] (?_) ?_
  ·refine hbd fun a118 q119=>hop 3 (fun _=>Xv (enc:=eTapi_Node) (L:=w2_8) (n:=w2_9) (a:=a118) (A:=.agg [vI w2_10,.ref 4 0 w2_11.length,.ref 5 0 w2_12.length]) (ob:=3) (w:=3) (c:=2) (ro:=false) (nr:=false) (fl:=false) kr kr q119 gE) <| hbd fun a120 q121=>hop 1 (fun _=>Qgi (enc:=eI) (ls:=w2_12) (x:=a120) (n:=w2_1) (ob:=5) (j:=6) kr kr q121 gE) <| hop 0 (fun _=>Qel (enc:=eI) (ls:=w2_12) (x:=a120) (n:=w2_1) (ob:=5) (j:=6) kr kr q121 gE) <| hbr 3 [224,225] (?_) ?_
   ·refine hop 5 (fun _=>Xv (enc:=eTapi_Node) (L:=w2_8) (n:=w2_9) (a:=a118) (A:=.agg [vI w2_10,.ref 4 0 w2_11.length,.ref 5 0 w2_12.length]) (ob:=3) (w:=3) (c:=2) (ro:=false) (nr:=false) (fl:=false) kr kr q119 gE) <| hop 4 (fun _=>Xv (enc:=eTapi_Node) (L:=w2_8) (n:=w2_9) (a:=a118) (A:=.agg [vI w2_10,.ref 4 0 w2_11.length,.ref 5 0 w2_12.length]) (ob:=3) (w:=3) (c:=2) (ro:=false) (nr:=false) (fl:=false) kr kr q119 gE) <| hop 1 (fun _=>Qgi (enc:=eI) (ls:=w2_12) (x:=a120) (n:=w2_1) (ob:=5) (j:=6) kr kr q121 gE) <| hop 0 (fun _=>Qel (enc:=eI) (ls:=w2_12) (x:=a120) (n:=w2_1) (ob:=5) (j:=6) kr kr q121 gE) <| hoh 1 (fun _ _ h k=>mkL (enc:=eI) (z:=(0:Int)) (z0:=vI 0) (n:=(zn a120)) (m:=(zn a120)) (w:=1) (bytes:=8) [] true kr kr gE kr h k) <| hop 0 (fun _=>Qgi (enc:=eI) (ls:=w2_12) (x:=a120) (n:=w2_1) (ob:=5) (j:=6) kr kr q121 gE) <| hop 0 (fun _=>Q1q (enc:=eI) (ls:=w2_12) (x:=a120) (n:=w2_1) (ob:=5) (j:=6) (m:=7) (q:=(List.replicate (zt (zn a120)) (0:Int)).length) kr kr q121 kr gE kr) <| hwk 0 (wk_trans (wk_adopt 5 6 7 (w:=1) (fl:=true) (enc:=eI) (ls:=w2_12) (x:=a120) (b:=(List.replicate (zt (zn a120)) (0:Int))) (n:=w2_1) [2,3,4,10,11,99,100,101,111,110,116,115,123,122,136,135,141,140,155,154,168,167,193,192,212,211,213,214,215,216,217,218,219,220,221,223,224,225,226,227,228,229,230,231,232,233,234,235,236,238,240] kr kr kr q121 (and2 (safeAll_hole 3 3 eTapi_Node w2_8 w2_9 (.agg [vI w2_10,.ref 4 0 w2_11.length,.ref 5 0 w2_12.length]) (fun a=>rfl) kr kr) kr) rfl) (wkv (fun n124=>⟨(s55_70 w2_9 w2_1 w2_2)++[(155,vB false),(154,vB false),(168,vB false),(167,vB false),(193,vB false),(192,vB false),(212,vB true),(211,vB true),(213,vI w2_1),(214,vB true),(215,vB true),(216,.ptr 3 (zt w2_9) 0),(217,.ptr 3 (zt w2_9) 0),(218,.ptr 3 (zt w2_9) 2),(219,.ref 5 0 n124),(220,vI w2_1),(221,.ptr 5 (zt w2_1) 0),(223,vI (zn a120)),(224,vB true),(225,vB true),(226,.ptr 3 (zt w2_9) 0),(227,.ptr 3 (zt w2_9) 0),(228,.ptr 3 (zt w2_9) 2),(229,.ref 5 0 n124),(230,vI w2_1),(231,.ptr 3 (zt w2_9) 0),(232,.ptr 3 (zt w2_9) 0),(233,.ptr 3 (zt w2_9) 2),(234,.ref 5 0 n124),(235,vI w2_1),(236,.ptr 5 (zt w2_1) 0),(238,vI (zn a120)),(240,.ptr 5 (zt w2_1) 0)],[(o55_65 w2_2 w2_3 w2_4 w2_5),(o55_66 w2_6 w2_8),(o55_68 w2_7),.row false false false false 3 (hole eTapi_Node w2_8 w2_9 (.agg [vI w2_10,.ref 4 0 w2_11.length,.ref 5 0 n124])),oR true 1 eI w2_11,.refs 6 (eF eI (List.set w2_12 (zt w2_1) (List.replicate (zt (zn a120)) (0:Int)))),.fam 1 true (eF eI (List.set w2_12 (zt w2_1) (List.replicate (zt (zn a120)) (0:Int)))),.dead],323⟩) (ls w2_12 (zt w2_1) (List.replicate (zt (zn a120)) (0:Int))))) <| hop 4 (fun _=>Xv (enc:=eTapi_Node) (L:=w2_8) (n:=w2_9) (a:=a118) (A:=.agg [vI w2_10,.ref 4 0 w2_11.length,.ref 5 0 ((List.set w2_12 (zt w2_1) (List.replicate (zt (zn a120)) (0:Int))).length)]) (ob:=3) (w:=3) (c:=2) (ro:=false) (nr:=false) (fl:=false) kr kr q119 gE) <| ?_
    refine hop 1 (fun _=>Qgi (enc:=eI) (ls:=(List.set w2_12 (zt w2_1) (List.replicate (zt (zn a120)) (0:Int)))) (x:=(List.replicate (zt (zn a120)) (0:Int))) (n:=w2_1) (ob:=5) (j:=6) kr kr (lkI_set (List.replicate (zt (zn a120)) (0:Int)) q121) gE) <| hop 0 (fun _=>Qel (enc:=eI) (ls:=(List.set w2_12 (zt w2_1) (List.replicate (zt (zn a120)) (0:Int)))) (x:=(List.replicate (zt (zn a120)) (0:Int))) (n:=w2_1) (ob:=5) (j:=6) kr kr (lkI_set (List.replicate (zt (zn a120)) (0:Int)) q121) gE) <| hbd fun a125 q126=>hop 2 (fun _=>Qpd (enc:=eI) (ls:=(List.set w2_12 (zt w2_1) (List.replicate (zt (zn a120)) (0:Int)))) (x:=(List.replicate (zt (zn a120)) (0:Int))) (y:=a125) (n:=w2_1) (c:=0) (w:=1) (j:=6) (fl:=true) kr kr (lkI_set (List.replicate (zt (zn a120)) (0:Int)) q121) q126 kr gE) <| hop 0 (fun _=>Qn8 (enc:=eI) (ls:=(List.set w2_12 (zt w2_1) (List.replicate (zt (zn a120)) (0:Int)))) (x:=(List.replicate (zt (zn a120)) (0:Int))) (y:=a125) (y':=w2_6) (n:=w2_1) (m:=0) (w:=1) (j:=6) (q:=5) (c:=0) (fl:=true) (v:=vI w2_6) kr kr kr (lkI_set (List.replicate (zt (zn a120)) (0:Int)) q121) q126 kr kr kr kr gE) <| hkn 0 (fun n127=>⟨(s55_70 w2_9 w2_1 w2_2)++[(155,vB false),(154,vB false),(168,vB false),(167,vB false),(193,vB false),(192,vB false),(212,vB true),(211,vB true),(213,vI w2_1),(214,vB true),(215,vB true),(216,.ptr 3 (zt w2_9) 0),(217,.ptr 3 (zt w2_9) 0),(218,.ptr 3 (zt w2_9) 2),(219,.ref 5 0 n127),(220,vI w2_1),(221,.ptr 5 (zt w2_1) 0),(223,vI (zn a120)),(224,vB true),(225,vB true),(226,.ptr 3 (zt w2_9) 0),(227,.ptr 3 (zt w2_9) 0),(228,.ptr 3 (zt w2_9) 2),(229,.ref 5 0 n127),(230,vI w2_1),(231,.ptr 3 (zt w2_9) 0),(232,.ptr 3 (zt w2_9) 0),(233,.ptr 3 (zt w2_9) 2),(234,.ref 5 0 n127),(235,vI w2_1),(236,.ptr 5 (zt w2_1) 0),(238,vI (zn a120)),(240,.ptr 5 (zt w2_1) 0),(241,.ptr 3 (zt w2_9) 0),(242,.ptr 3 (zt w2_9) 0),(243,.ptr 3 (zt w2_9) 2),(244,.ref 5 0 n127),(245,vI w2_1),(246,.ptr 5 (zt w2_1) 0),(247,.ref (fid 6 (zt w2_1)) 0 ((List.replicate (zt (zn a120)) (0:Int)).length)),(248,.ptr 1 0 0),(249,vI w2_6),(250,.ptr (fid 6 (zt w2_1)) (zt 0) 0)],[(o55_65 w2_2 w2_3 w2_4 w2_5),(o55_66 w2_6 w2_8),(o55_68 w2_7),.row false false false false 3 (hole eTapi_Node w2_8 w2_9 (.agg [vI w2_10,.ref 4 0 w2_11.length,.ref 5 0 n127])),oR true 1 eI w2_11,.refs 6 (eF eI (List.set (List.set w2_12 (zt w2_1) (List.replicate (zt (zn a120)) (0:Int))) (zt w2_1) (List.set (List.replicate (zt (zn a120)) (0:Int)) (zt 0) w2_6))),.fam 1 true (eF eI (List.set (List.set w2_12 (zt w2_1) (List.replicate (zt (zn a120)) (0:Int))) (zt w2_1) (List.set (List.replicate (zt (zn a120)) (0:Int)) (zt 0) w2_6))),.dead],323⟩) (ls (List.set w2_12 (zt w2_1) (List.replicate (zt (zn a120)) (0:Int))) (zt w2_1) (List.set (List.replicate (zt (zn a120)) (0:Int)) (zt 0) w2_6)) <| hjn 2 (g_ref05_Bend_Of_j3_ok w2_6 w2_8 w2_9 w2_10 w2_11 (List.set (List.set w2_12 (zt w2_1) (List.replicate (zt (zn a120)) (0:Int))) (zt w2_1) (List.set (List.replicate (zt (zn a120)) (0:Int)) (zt 0) w2_6))) (wk_gcH (live:=[4]) (keep:=[2,3,4,5,6]) 3 eTapi_Node w2_8 w2_9 (.agg [vI w2_10,.ref 4 0 w2_11.length,.ref 5 0 ((List.set (List.set w2_12 (zt w2_1) (List.replicate (zt (zn a120)) (0:Int))) (zt w2_1) (List.set (List.replicate (zt (zn a120)) (0:Int)) (zt 0) w2_6)).length)]) 3 (fun f a=>by cases a <;> rfl) kr kr)
   refine hjn 3 (g_ref05_Bend_Of_j3_ok w2_6 w2_8 w2_9 w2_10 w2_11 w2_12) (wk_gcH (live:=[4]) (keep:=[2,3,4,5,6]) 3 eTapi_Node w2_8 w2_9 (.agg [vI w2_10,.ref 4 0 w2_11.length,.ref 5 0 w2_12.length]) 3 (fun f a=>by cases a <;> rfl) kr kr)
  refine hjn 13 (g_ref05_Bend_Of_j3_ok w2_6 w2_8 w2_9 w2_10 w2_11 w2_12) (wk_gcH (live:=[4]) (keep:=[2,3,4,5,6]) 3 eTapi_Node w2_8 w2_9 (.agg [vI w2_10,.ref 4 0 w2_11.length,.ref 5 0 w2_12.length]) 3 (fun f a=>by cases a <;> rfl) kr kr)
 refine hbr 3 [252,251] (?_) ?_
 ·refine hbr 3 [254] (?_) ?_
  ·refine hbd fun a132 q133=>hop 5 (fun _=>Xv (enc:=eTapi_Node) (L:=w2_8) (n:=w2_9) (a:=a132) (A:=.agg [vI w2_10,.ref 4 0 w2_11.length,.ref 5 0 w2_12.length]) (ob:=3) (w:=3) (c:=2) (ro:=false) (nr:=false) (fl:=false) kr kr q133 gE) <| hbd fun a134 q135=>hop 1 (fun _=>Qgi (enc:=eI) (ls:=w2_12) (x:=a134) (n:=w2_1) (ob:=5) (j:=6) kr kr q135 gE) <| hop 0 (fun _=>Qel (enc:=eI) (ls:=w2_12) (x:=a134) (n:=w2_1) (ob:=5) (j:=6) kr kr q135 gE) <| hlp 4 (fun s136=>⟨[(3,.ptr 0 0 0),(4,.ptr 1 0 0),(10,.ptr 2 (zt w2_9) 0),(11,vI w2_1),(12,vI s136.1),(13,vI s136.2.1)],[oX false false 2 (.agg [vI w2_6,.ref 2 0 w2_8.length]),(o55_68 w2_7),.row false false false false 3 (hole eTapi_Node w2_8 w2_9 (.agg [vI w2_10,.ref 3 0 w2_11.length,.ref 4 0 s136.2.2.length])),oR true 1 eI w2_11,.refs 5 (eF eI s136.2.2),.fam 1 true (eF eI s136.2.2)],323⟩) (fun v=>(.exit 5,⟨[(3,.ptr 0 0 0),(4,.ptr 1 0 0)],[oX false false 2 (.agg [vI w2_6,.ref 2 0 w2_8.length]),(o55_68 w2_7),.row false false false false 3 (hole eTapi_Node w2_8 w2_9 (.agg [vI w2_10,.ref 3 0 w2_11.length,.ref 4 0 v.length])),oR true 1 eI w2_11,.refs 5 (eF eI v),.fam 1 true (eF eI v)],323⟩)) (wk_gcH (live:=[3,4,10,11,12,13]) (keep:=[1,2,3,4,5,6]) 3 eTapi_Node w2_8 w2_9 (.agg [vI w2_10,.ref 4 0 w2_11.length,.ref 5 0 w2_12.length]) 3 (fun f a=>by cases a <;> rfl) kr kr) (fun s136=>?_) fun x150=>?_
   ·refine hbr 3 [266] (?_) ?_
    ·refine hop 4 (fun _=>Xv (enc:=eTapi_Node) (L:=w2_8) (n:=w2_9) (a:=a132) (A:=.agg [vI w2_10,.ref 3 0 w2_11.length,.ref 4 0 s136.2.2.length]) (ob:=2) (w:=3) (c:=2) (ro:=false) (nr:=false) (fl:=false) kr kr q133 gE) <| hbd fun a139 q140=>hop 1 (fun _=>Qgi (enc:=eI) (ls:=s136.2.2) (x:=a139) (n:=w2_1) (ob:=4) (j:=5) kr kr q140 gE) <| hop 0 (fun _=>Qel (enc:=eI) (ls:=s136.2.2) (x:=a139) (n:=w2_1) (ob:=4) (j:=5) kr kr q140 gE) <| hbd fun a141 q142=>hop 1 (fun _=>Qpd (enc:=eI) (ls:=s136.2.2) (x:=a139) (y:=a141) (n:=w2_1) (c:=s136.1) (w:=1) (j:=5) (fl:=true) kr kr q140 q142 kr gE) <| hop 0 (fun _=>Q0a (enc:=eI) (ls:=s136.2.2) (x:=a139) (y:=a141) (n:=w2_1) (m:=s136.1) (w:=1) (j:=5) (c:=0) (fl:=true) kr kr q140 q142 kr gE) <| hop 5 (fun _=>Xv (enc:=eTapi_Node) (L:=w2_8) (n:=w2_9) (a:=a132) (A:=.agg [vI w2_10,.ref 3 0 w2_11.length,.ref 4 0 s136.2.2.length]) (ob:=2) (w:=3) (c:=2) (ro:=false) (nr:=false) (fl:=false) kr kr q133 gE) <| hop 1 (fun _=>Qgi (enc:=eI) (ls:=s136.2.2) (x:=a139) (n:=w2_1) (ob:=4) (j:=5) kr kr q140 gE) <| ?_
     refine hop 0 (fun _=>Qel (enc:=eI) (ls:=s136.2.2) (x:=a139) (n:=w2_1) (ob:=4) (j:=5) kr kr q140 gE) <| hop 4 (fun _=>Xv (enc:=eTapi_Node) (L:=w2_8) (n:=w2_9) (a:=a132) (A:=.agg [vI w2_10,.ref 3 0 w2_11.length,.ref 4 0 s136.2.2.length]) (ob:=2) (w:=3) (c:=2) (ro:=false) (nr:=false) (fl:=false) kr kr q133 gE) <| hop 1 (fun _=>Qgi (enc:=eI) (ls:=s136.2.2) (x:=a139) (n:=w2_1) (ob:=4) (j:=5) kr kr q140 gE) <| hop 0 (fun _=>Qel (enc:=eI) (ls:=s136.2.2) (x:=a139) (n:=w2_1) (ob:=4) (j:=5) kr kr q140 gE) <| hbd fun a143 q144=>hop 1 (fun _=>Qpd (enc:=eI) (ls:=s136.2.2) (x:=a139) (y:=a143) (n:=w2_1) (c:=s136.2.1) (w:=1) (j:=5) (fl:=true) kr kr q140 q144 kr gE) <| hop 0 (fun _=>Q0a (enc:=eI) (ls:=s136.2.2) (x:=a139) (y:=a143) (n:=w2_1) (m:=s136.2.1) (w:=1) (j:=5) (c:=0) (fl:=true) kr kr q140 q144 kr gE) <| hop 0 (fun _=>Qpd (enc:=eI) (ls:=s136.2.2) (x:=a139) (y:=a141) (n:=w2_1) (c:=s136.1) (w:=1) (j:=5) (fl:=true) kr kr q140 q142 kr gE) <| hop 0 (fun _=>Qn8 (enc:=eI) (ls:=s136.2.2) (x:=a139) (y:=a141) (y':=a143) (n:=w2_1) (m:=s136.1) (w:=1) (j:=5) (q:=4) (c:=0) (fl:=true) (v:=vI a143) kr kr kr q140 q142 kr kr kr kr gE) <| ?_
     refine hkn 0 (fun n148=>⟨(s55_71 (12,vI s136.1) (13,vI s136.2.1) (264,vI s136.1) (265,vI s136.2.1) (272,.ref 4 0 n148) (275,.ref (fid 5 (zt w2_1)) 0 a139.length) (276,vI s136.1) (277,.ptr (fid 5 (zt w2_1)) (zt s136.1) 0) (278,vI a141) (14,vI a141) (282,.ref 4 0 n148) (285,.ref (fid 5 (zt w2_1)) 0 a139.length) (286,vI s136.1) (290,.ref 4 0 n148) (293,.ref (fid 5 (zt w2_1)) 0 a139.length) (294,vI s136.2.1) (295,.ptr (fid 5 (zt w2_1)) (zt s136.2.1) 0) w2_9 w2_1 a143)++[(297,.ptr (fid 5 (zt w2_1)) (zt s136.1) 0)],[oX false false 2 (.agg [vI w2_6,.ref 2 0 w2_8.length]),(o55_68 w2_7),.row false false false false 3 (hole eTapi_Node w2_8 w2_9 (.agg [vI w2_10,.ref 3 0 w2_11.length,.ref 4 0 n148])),oR true 1 eI w2_11,.refs 5 (eF eI (List.set s136.2.2 (zt w2_1) (List.set a139 (zt s136.1) a143))),.fam 1 true (eF eI (List.set s136.2.2 (zt w2_1) (List.set a139 (zt s136.1) a143)))],323⟩) (ls s136.2.2 (zt w2_1) (List.set a139 (zt s136.1) a143)) <| hop 3 (fun _=>Xv (enc:=eTapi_Node) (L:=w2_8) (n:=w2_9) (a:=a132) (A:=.agg [vI w2_10,.ref 3 0 w2_11.length,.ref 4 0 ((List.set s136.2.2 (zt w2_1) (List.set a139 (zt s136.1) a143)).length)]) (ob:=2) (w:=3) (c:=2) (ro:=false) (nr:=false) (fl:=false) kr kr q133 gE) <| hop 1 (fun _=>Qgi (enc:=eI) (ls:=(List.set s136.2.2 (zt w2_1) (List.set a139 (zt s136.1) a143))) (x:=(List.set a139 (zt s136.1) a143)) (n:=w2_1) (ob:=4) (j:=5) kr kr (lkI_set (List.set a139 (zt s136.1) a143) q140) gE) <| hop 0 (fun _=>Qel (enc:=eI) (ls:=(List.set s136.2.2 (zt w2_1) (List.set a139 (zt s136.1) a143))) (x:=(List.set a139 (zt s136.1) a143)) (n:=w2_1) (ob:=4) (j:=5) kr kr (lkI_set (List.set a139 (zt s136.1) a143) q140) gE) <| hbd fun a145 q146=>hop 2 (fun _=>Qpd (enc:=eI) (ls:=(List.set s136.2.2 (zt w2_1) (List.set a139 (zt s136.1) a143))) (x:=(List.set a139 (zt s136.1) a143)) (y:=a145) (n:=w2_1) (c:=s136.2.1) (w:=1) (j:=5) (fl:=true) kr kr (lkI_set (List.set a139 (zt s136.1) a143) q140) q146 kr gE) <| hop 0 (fun _=>Qn8 (enc:=eI) (ls:=(List.set s136.2.2 (zt w2_1) (List.set a139 (zt s136.1) a143))) (x:=(List.set a139 (zt s136.1) a143)) (y:=a145) (y':=a141) (n:=w2_1) (m:=s136.2.1) (w:=1) (j:=5) (q:=4) (c:=0) (fl:=true) (v:=vI a141) kr kr kr (lkI_set (List.set a139 (zt s136.1) a143) q140) q146 kr kr kr kr gE) <| hkn 0 (fun n147=>⟨(s55_71 (12,vI s136.1) (13,vI s136.2.1) (264,vI s136.1) (265,vI s136.2.1) (272,.ref 4 0 n147) (275,.ref (fid 5 (zt w2_1)) 0 a139.length) (276,vI s136.1) (277,.ptr (fid 5 (zt w2_1)) (zt s136.1) 0) (278,vI a141) (14,vI a141) (282,.ref 4 0 n147) (285,.ref (fid 5 (zt w2_1)) 0 a139.length) (286,vI s136.1) (290,.ref 4 0 n147) (293,.ref (fid 5 (zt w2_1)) 0 a139.length) (294,vI s136.2.1) (295,.ptr (fid 5 (zt w2_1)) (zt s136.2.1) 0) w2_9 w2_1 a143)++[(297,.ptr (fid 5 (zt w2_1)) (zt s136.1) 0),(298,.ptr 2 (zt w2_9) 0),(299,.ptr 2 (zt w2_9) 0),(300,.ptr 2 (zt w2_9) 2),(301,.ref 4 0 n147),(302,vI w2_1),(303,.ptr 4 (zt w2_1) 0),(304,.ref (fid 5 (zt w2_1)) 0 ((List.set a139 (zt s136.1) a143).length)),(305,vI s136.2.1),(306,vI a141),(307,.ptr (fid 5 (zt w2_1)) (zt s136.2.1) 0)],[oX false false 2 (.agg [vI w2_6,.ref 2 0 w2_8.length]),(o55_68 w2_7),.row false false false false 3 (hole eTapi_Node w2_8 w2_9 (.agg [vI w2_10,.ref 3 0 w2_11.length,.ref 4 0 n147])),oR true 1 eI w2_11,.refs 5 (eF eI (List.set (List.set s136.2.2 (zt w2_1) (List.set a139 (zt s136.1) a143)) (zt w2_1) (List.set (List.set a139 (zt s136.1) a143) (zt s136.2.1) a141))),.fam 1 true (eF eI (List.set (List.set s136.2.2 (zt w2_1) (List.set a139 (zt s136.1) a143)) (zt w2_1) (List.set (List.set a139 (zt s136.1) a143) (zt s136.2.1) a141)))],323⟩) (ls (List.set s136.2.2 (zt w2_1) (List.set a139 (zt s136.1) a143)) (zt w2_1) (List.set (List.set a139 (zt s136.1) a143) (zt s136.2.1) a141)) <| hnx 6 (wk_gcH (live:=[3,4,10,11,12,13]) (keep:=[0,1,2,3,4,5]) 2 eTapi_Node w2_8 w2_9 (.agg [vI w2_10,.ref 3 0 w2_11.length,.ref 4 0 ((List.set (List.set s136.2.2 (zt w2_1) (List.set a139 (zt s136.1) a143)) (zt w2_1) (List.set (List.set a139 (zt s136.1) a143) (zt s136.2.1) a141)).length)]) 3 (fun f a=>by cases a <;> rfl) kr kr)
    refine hdx 1 (wk_gcH (live:=[3,4]) (keep:=[0,1,2,3,4,5]) 2 eTapi_Node w2_8 w2_9 (.agg [vI w2_10,.ref 3 0 w2_11.length,.ref 4 0 s136.2.2.length]) 3 (fun f a=>by cases a <;> rfl) kr kr)
   refine hjn 2 (g_ref05_Bend_Of_j3_ok w2_6 w2_8 w2_9 w2_10 w2_11 x150) (wk_gcH (live:=[4]) (keep:=[1,2,3,4,5]) 2 eTapi_Node w2_8 w2_9 (.agg [vI w2_10,.ref 3 0 w2_11.length,.ref 4 0 x150.length]) 3 (fun f a=>by cases a <;> rfl) kr kr)
  refine hjn 3 (g_ref05_Bend_Of_j3_ok w2_6 w2_8 w2_9 w2_10 w2_11 w2_12) (wk_gcH (live:=[4]) (keep:=[2,3,4,5,6]) 3 eTapi_Node w2_8 w2_9 (.agg [vI w2_10,.ref 4 0 w2_11.length,.ref 5 0 w2_12.length]) 3 (fun f a=>by cases a <;> rfl) kr kr)
 refine hbr 3 [311,310] (?_) ?_
 ·refine hop 5 (fun _=>sgL false [] [] true gE) <| hop 0 (fun _=>sg true 1 _ gE rfl) <| hbs 1 [.keep,.lst true,.lst false] false [] <| hbd fun a153 q154=>hoh 0 (fun _ _ h k=>Q2u (enc:=eTapi_Node) (L:=w2_8) (m:=([(Tapi_Node.mk 1 [] [[w2_6]])]:(List Tapi_Node))) (n:=w2_9) (a:=a153) (A0:=.agg [vI w2_10,.ref 4 0 w2_11.length,.ref 5 0 w2_12.length]) (b:=.ref 9 0 1) (w:=3) (bytes:=56) (ob:=3) (fl:=false) (nr':=true) (fl':=false) (rds:=[9]) kr kr q154 kr gE kr h k) <| hjn 4 (g_ref05_Bend_Of_j3_ok w2_6 (w2_8++([(Tapi_Node.mk 1 [] [[w2_6]])]:(List Tapi_Node))) w2_9 w2_10 w2_11 w2_12) (wk_gcH (live:=[4]) (keep:=[2,10,4,5,6]) 10 eTapi_Node (w2_8++([(Tapi_Node.mk 1 [] [[w2_6]])]:(List Tapi_Node))) w2_9 (.agg [vI w2_10,.ref 4 0 w2_11.length,.ref 5 0 w2_12.length]) 3 (fun f a=>by cases a <;> rfl) kr kr)
 refine hbd fun a155 q156=>hwk 1 (Qd5 5 6 (w:=1) (fl:=true) (enc:=eI) (ls:=w2_12) kr kr rfl) <| hwk 0 (wcl 3 [F eI w2_11,F z1 w2_12] (enc:=eTapi_Node) (L:=w2_8) (n:=w2_9) (A:=.agg [vI w2_10,.ref 4 0 w2_11.length,.ref 5 0 w2_12.length]) (bx:=false) (ro:=false) (nr:=false) (fl:=false) (w:=3) q156) <| hkn 0 (fun z157=>⟨(s55_70 w2_9 w2_1 w2_2)++[(155,vB false),(154,vB false),(168,vB false),(167,vB false),(193,vB false),(192,vB false),(212,vB false),(211,vB false),(252,vB false),(251,vB false),(311,vB false),(310,vB false)],[(o55_65 w2_2 w2_3 w2_4 w2_5),(o55_66 w2_6 w2_8),(o55_68 w2_7),.row false false false false 3 z157,(o55_67 w2_11),.row false true true false 1 (List.map z1 w2_12),.dead],323⟩) (show ((hole eTapi_Node w2_8 w2_9 (.agg [vI w2_10,.ref 4 0 w2_11.length,.ref 5 0 w2_12.length])).set (zt w2_9) (.agg [vI w2_10,z1 w2_11,z2 w2_12]))=List.map eTapi_Node (List.set w2_8 (zt w2_9) (Tapi_Node.mk w2_10 w2_11 w2_12)) from Qcz (enc:=eTapi_Node) (L:=w2_8) (n:=w2_9) (A:=.agg [vI w2_10,.ref 4 0 w2_11.length,.ref 5 0 w2_12.length]) (b:=(Tapi_Node.mk w2_10 w2_11 w2_12))) <| hwk 0 (wk_rowT 3 (enc:=eTapi_Node) (L:=(List.set w2_8 (zt w2_9) (Tapi_Node.mk w2_10 w2_11 w2_12))) (bx:=false) (ro:=false) (nr:=false) (fl:=false) (w:=3) (fun a=>by cases a <;> rfl) kr rfl) <| hkn 0 (fun n158=>⟨(s55_70 w2_9 w2_1 w2_2)++[(155,vB false),(154,vB false),(168,vB false),(167,vB false),(193,vB false),(192,vB false),(212,vB false),(211,vB false),(252,vB false),(251,vB false),(311,vB false),(310,vB false)],[(o55_65 w2_2 w2_3 w2_4 w2_5),oX false false 2 (.agg [vI w2_6,.ref 3 0 n158]),(o55_68 w2_7),oR false 3 eTapi_Node (List.set w2_8 (zt w2_9) (Tapi_Node.mk w2_10 w2_11 w2_12)),(o55_67 w2_11),.row false true true false 1 (List.map z1 w2_12),.dead],323⟩) (ls w2_8 (zt w2_9) (Tapi_Node.mk w2_10 w2_11 w2_12)) <| hoq 6 (fun _ _ h k=>Xd (enc:=eTapi_Node) (l:=(List.set w2_8 (zt w2_9) (Tapi_Node.mk w2_10 w2_11 w2_12))) (ob:=3) (ro:=false) (nr:=true) (fl:=false) (lo:=none) (hi:=(some (vI (zw ((((List.set w2_8 (zt w2_9) (Tapi_Node.mk w2_10 w2_11 w2_12)).length):Int) - 1))))) (a:=0) (b:=zw ((((List.set w2_8 (zt w2_9) (Tapi_Node.mk w2_10 w2_11 w2_12)).length):Int) - 1)) (w:=3) kr kr kr kr gE h k) fun q159=>hwk 4 (wl [4] [2,3]) <| hwk 0 (won 0 0 [Fp eTapi_Node (List.set w2_8 (zt w2_9) (Tapi_Node.mk w2_10 w2_11 w2_12)) (a:=0) (b:=zw ((((List.set w2_8 (zt w2_9) (Tapi_Node.mk w2_10 w2_11 w2_12)).length):Int) - 1)) q159]) <| ?_
 refine hrt 1
noncomputable abbrev Qbb (p0:Zd):AObj:=oX true true 4 (.agg [.int .u8 p0.What,.int .u8 p0.At,.int .u8 p0.Row,vI p0.N])
noncomputable abbrev Qcc (p1:Qc):AObj:=oX true false 2 (.agg [vI p1.Grain,eL false eTapi_Node p1.Nodes])
noncomputable abbrev Qaz:AObj:=oX true false 2 (.agg [vI 0,.nils])
noncomputable abbrev Qbd:List (Nat×AV):=[(2,.ptr 0 0 0),(3,.ptr 1 0 0),(4,.ptr 2 0 0)]
theorem g_ref05_Bend_Of_ok (p0:Zd) (p1:Qc):Ct Tryd.prog 14 [.agg [.int .u8 p0.What,.int .u8 p0.At,.int .u8 p0.Row,vI p0.N],.agg [vI p1.Grain,eL false eTapi_Node p1.Nodes]] (Kd p0 p1) (fun x=>.agg [vI x.Grain,eL false eTapi_Node x.Nodes]) (fun x=>[]):=by
 refine hfn [[.keep,.lst false]] Tryd.func14 <| hop 1 (fun _=>sgL false [] [] false gE) <| hop 0 (fun _=>sgL false [] [] false gE) <| hst 2 (fun s1=>⟨Qbd++[(5,.ref 3 0 s1.2.length),(6,vI s1.1)],[(Qbb p0),(Qcc p1),Qaz,oR false 3 eTapi_Node s1.2],323⟩) (fun v=>(.exit 0,⟨Qbd++[(5,.ref 3 0 v.length)],[(Qbb p0),(Qcc p1),Qaz,oR false 3 eTapi_Node v],323⟩)) (wk_trans (wk_gc (live:=[2,3,4,5,6]) (keep:=[0,1,2]) gE) (wk_trans (Yu 5 3 true false gE) (wk_gc (live:=[2,3,4,5,6]) (keep:=[0,1,2,3]) kr))) (fun s1=>?_) (fun y17=>?_) fun x14=>?_
 ·refine hop 3 (fun _=>Qk (enc:=eTapi_Node) (l:=p1.Nodes) (fl:=false) kr gE) <| hbr 1 [19] (?_) ?_
  ·refine hbd fun a4 q5=>hop 4 (fun _=>Qj (enc:=eTapi_Node) (l:=p1.Nodes) (n:=s1.1) (fl:=false) (w:=3) (a:=a4) kr kr gE q5) <| hop 3 (fun _=>sgL false [] [] false gE) <| hop 7 (fun _=>Qj (enc:=eTapi_Node) (l:=p1.Nodes) (n:=s1.1) (fl:=false) (w:=3) (a:=a4) kr kr gE q5) <| hoh 2 (fun _ _ h k=>Qba (enc:=eI) (m:=a4.Parents) (w:=1) (bytes:=8) (nr':=true) (fl':=true) (a:=.nils) (b:=z1 a4.Parents) (rds:=[]) false kr (.inl rfl) (Qa0 (fun _=>rfl)) kr gE kr h k) <| hlp 3 (fun s6=>⟨Qbd++[(5,.ref 3 0 s1.2.length),(6,vI s1.1),(7,.ptr 4 0 0),(8,vI s6.1)],[(Qbb p0),(Qcc p1),Qaz,oR false 3 eTapi_Node s1.2,oX false false 3 (.agg [vI a4.Card,.ref 5 0 a4.Parents.length,.ref 6 0 s6.2.length]),oR true 1 eI a4.Parents,.refs 7 (eF eI s6.2),.fam 1 true (eF eI s6.2)],323⟩) (fun v=>(.exit 2,⟨Qbd++[(5,.ref 3 0 s1.2.length),(6,vI s1.1),(7,.ptr 4 0 0)],[(Qbb p0),(Qcc p1),Qaz,oR false 3 eTapi_Node s1.2,oX false false 3 (.agg [vI a4.Card,.ref 5 0 a4.Parents.length,.ref 6 0 v.length]),oR true 1 eI a4.Parents,.refs 7 (eF eI v),.fam 1 true (eF eI v)],323⟩)) (wk_trans (wk_gc (live:=[2,3,4,5,6,7,8]) (keep:=[0,1,2,3,4,5]) gE) (wk_trans (Q6 4 0 2 1 true true gE) (wk_trans (Qrg 6 1 true (nr0:=true) (fl0:=true) (x0:=([]:List Int)) (n:=0) (enc1:=fun _=>AV.nils) eI kr kr kr rfl) (wk_gc (live:=[2,3,4,5,6,7,8]) (keep:=[0,1,2,3,4,5,6,7]) kr)))) (fun s6=>?_) fun x12=>?_
   ·refine hop 4 (fun _=>Qj (enc:=eTapi_Node) (l:=p1.Nodes) (n:=s1.1) (fl:=false) (w:=3) (a:=a4) kr kr gE q5) <| hop 2 (fun _=>Qk (enc:=z1) (l:=a4.Rows) (fl:=false) kr gE) <| hbr 1 [47] (?_) ?_
    ·refine hop 9 (fun _=>Qj (enc:=eTapi_Node) (l:=p1.Nodes) (n:=s1.1) (fl:=false) (w:=3) (a:=a4) kr kr gE q5) <| hbd fun a9 q10=>hop 3 (fun _=>Qj (enc:=z1) (l:=a4.Rows) (n:=s6.1) (fl:=false) (w:=1) (a:=a9) kr kr gE q10) <| hoh 1 (fun _ _ h k=>Qba (enc:=eI) (m:=a9) (w:=1) (bytes:=8) (nr':=true) (fl':=true) (a:=.nils) (b:=z1 a9) (rds:=[]) false kr (.inl rfl) (Qa0 (fun _=>rfl)) kr gE kr h k) <| hop 0 (fun _=>sg true 1 _ gE rfl) <| hoh 0 (fun _ _ h k=>Qu1 (enc:=eI) (ls:=s6.2) (q:=a9) (bytes:=24) (ob:=6) (j:=7) (tm:=9) (m:=8) kr kr kr kr gE kr h k) <| hwk 2 (wk_trans (wk_dead 9 gE) (wk_adoptA 10 7 8 (w:=1) (fl:=true) (enc:=eI) (ls:=s6.2) (b:=a9) [2,3,4,5,6,7,8,39,40,41,42,43,44,45,46,47,9,50,51,52,53,54,55,56,57,58,59,60,61,63,64,65] kr kr kr kr rfl)) <| hnx 3 (wz [0,1,2,3,4,5,10,7])
    refine hdx 1 (wz [0,1,2,3,4,5,6,7])
   refine hwk 0 (Qd5 6 7 (w:=1) (fl:=true) (enc:=eI) (ls:=x12) kr kr rfl) <| hbs 2 [.keep,.lst true,.lst false] false [F eI a4.Parents,F z1 x12] <| hoh 0 (fun _ _ h k=>Z0 (enc:=eTapi_Node) (l:=s1.2) (m:=([(Tapi_Node.mk a4.Card a4.Parents x12)]:(List Tapi_Node))) (w:=3) (bytes:=56) (ob:=3) (nr:=true) (fl:=false) (nr':=true) (fl':=false) (b:=.ref 8 0 1) (rds:=[8]) false kr kr kr kr gE kr h k) <| hnx 4 (wz [0,1,2,9])
  refine hdx 1 (wz [0,1,2,3])
 ·refine hop 3 (fun _=>Qk (enc:=eTapi_Node) (l:=p1.Nodes) (fl:=false) kr gE) <| hbr 1 [19] (?_) ?_
  ·refine hbd fun a20 q21=>hop 4 (fun _=>Qj (enc:=eTapi_Node) (l:=p1.Nodes) (n:=y17.1) (fl:=false) (w:=3) (a:=a20) kr kr gE q21) <| hop 3 (fun _=>sgL false [] [] false gE) <| hop 7 (fun _=>Qj (enc:=eTapi_Node) (l:=p1.Nodes) (n:=y17.1) (fl:=false) (w:=3) (a:=a20) kr kr gE q21) <| hoh 2 (fun _ _ h k=>Qba (enc:=eI) (m:=a20.Parents) (w:=1) (bytes:=8) (nr':=true) (fl':=true) (a:=.nils) (b:=z1 a20.Parents) (rds:=[]) false kr (.inl rfl) (Qa0 (fun _=>rfl)) kr gE kr h k) <| hlp 3 (fun s22=>⟨Qbd++[(5,.ref 3 0 y17.2.length),(6,vI y17.1),(7,.ptr 4 0 0),(8,vI s22.1)],[(Qbb p0),(Qcc p1),Qaz,oR false 3 eTapi_Node y17.2,oX false false 3 (.agg [vI a20.Card,.ref 5 0 a20.Parents.length,.ref 6 0 s22.2.length]),oR true 1 eI a20.Parents,.refs 7 (eF eI s22.2),.fam 1 true (eF eI s22.2)],323⟩) (fun v=>(.exit 2,⟨Qbd++[(5,.ref 3 0 y17.2.length),(6,vI y17.1),(7,.ptr 4 0 0)],[(Qbb p0),(Qcc p1),Qaz,oR false 3 eTapi_Node y17.2,oX false false 3 (.agg [vI a20.Card,.ref 5 0 a20.Parents.length,.ref 6 0 v.length]),oR true 1 eI a20.Parents,.refs 7 (eF eI v),.fam 1 true (eF eI v)],323⟩)) (wk_trans (wk_gc (live:=[2,3,4,5,6,7,8]) (keep:=[0,1,2,3,4,5]) gE) (wk_trans (Q6 4 0 2 1 true true gE) (wk_trans (Qrg 6 1 true (nr0:=true) (fl0:=true) (x0:=([]:List Int)) (n:=0) (enc1:=fun _=>AV.nils) eI kr kr kr rfl) (wk_gc (live:=[2,3,4,5,6,7,8]) (keep:=[0,1,2,3,4,5,6,7]) kr)))) (fun s22=>?_) fun x28=>?_
   ·refine hop 4 (fun _=>Qj (enc:=eTapi_Node) (l:=p1.Nodes) (n:=y17.1) (fl:=false) (w:=3) (a:=a20) kr kr gE q21) <| hop 2 (fun _=>Qk (enc:=z1) (l:=a20.Rows) (fl:=false) kr gE) <| hbr 1 [47] (?_) ?_
    ·refine hop 9 (fun _=>Qj (enc:=eTapi_Node) (l:=p1.Nodes) (n:=y17.1) (fl:=false) (w:=3) (a:=a20) kr kr gE q21) <| hbd fun a25 q26=>hop 3 (fun _=>Qj (enc:=z1) (l:=a20.Rows) (n:=s22.1) (fl:=false) (w:=1) (a:=a25) kr kr gE q26) <| hoh 1 (fun _ _ h k=>Qba (enc:=eI) (m:=a25) (w:=1) (bytes:=8) (nr':=true) (fl':=true) (a:=.nils) (b:=z1 a25) (rds:=[]) false kr (.inl rfl) (Qa0 (fun _=>rfl)) kr gE kr h k) <| hop 0 (fun _=>sg true 1 _ gE rfl) <| hoh 0 (fun _ _ h k=>Qu1 (enc:=eI) (ls:=s22.2) (q:=a25) (bytes:=24) (ob:=6) (j:=7) (tm:=9) (m:=8) kr kr kr kr gE kr h k) <| hwk 2 (wk_trans (wk_dead 9 gE) (wk_adoptA 10 7 8 (w:=1) (fl:=true) (enc:=eI) (ls:=s22.2) (b:=a25) [2,3,4,5,6,7,8,39,40,41,42,43,44,45,46,47,9,50,51,52,53,54,55,56,57,58,59,60,61,63,64,65] kr kr kr kr rfl)) <| hnx 3 (wz [0,1,2,3,4,5,10,7])
    refine hdx 1 (wz [0,1,2,3,4,5,6,7])
   refine hop 2 (fun _=>sg true 1 _ gE rfl) <| hoh 0 (fun _ _ h k=>Q3t (enc:=eTapi_Node) (L:=y17.2) (e:=(default:Tapi_Node)) (w:=3) (bytes:=56) (ob:=3) (tm:=8) (nr:=true) (fl:=false) (nr':=false) (fl':=false) (A0:=.agg [vI a20.Card,.ref 5 0 a20.Parents.length,.ref 6 0 x28.length]) kr kr kr gE kr h k) <| hlq 4 (fun s29=>⟨Qbd++[(5,.ref 3 0 s29.2.length),(6,vI s29.1)],[(Qbb p0),(Qcc p1),Qaz,.row false false false false 3 (hole eTapi_Node s29.2 (zn y17.2) (.agg [vI a20.Card,.ref 4 0 a20.Parents.length,.ref 5 0 x28.length])),oR true 1 eI a20.Parents,.refs 6 (eF eI x28),.fam 1 true (eF eI x28)],323⟩) (fun v=>(.exit 0,⟨Qbd++[(5,.ref 3 0 v.length)],[(Qbb p0),(Qcc p1),Qaz,.row false false false false 3 (hole eTapi_Node v (zn y17.2) (.agg [vI a20.Card,.ref 4 0 a20.Parents.length,.ref 5 0 x28.length])),oR true 1 eI a20.Parents,.refs 6 (eF eI x28),.fam 1 true (eF eI x28)],323⟩)) (wk_gcH (live:=[2,3,4,5,6]) (keep:=[0,1,2,9,5,6,7]) 9 eTapi_Node (y17.2++[(default:Tapi_Node)]) (zn y17.2) (.agg [vI a20.Card,.ref 5 0 a20.Parents.length,.ref 6 0 x28.length]) 3 (fun f a=>by cases a <;> rfl) kr kr) (fun s29=>?_) fun x44=>?_
   ·refine hop 3 (fun _=>Qk (enc:=eTapi_Node) (l:=p1.Nodes) (fl:=false) kr gE) <| hbr 1 [19] (?_) ?_
    ·refine hbd fun a32 q33=>hop 4 (fun _=>Qj (enc:=eTapi_Node) (l:=p1.Nodes) (n:=s29.1) (fl:=false) (w:=3) (a:=a32) kr kr gE q33) <| hop 3 (fun _=>sgL false [] [] false gE) <| hop 7 (fun _=>Qj (enc:=eTapi_Node) (l:=p1.Nodes) (n:=s29.1) (fl:=false) (w:=3) (a:=a32) kr kr gE q33) <| hoh 2 (fun _ _ h k=>Qba (enc:=eI) (m:=a32.Parents) (w:=1) (bytes:=8) (nr':=true) (fl':=true) (a:=.nils) (b:=z1 a32.Parents) (rds:=[]) false kr (.inl rfl) (Qa0 (fun _=>rfl)) kr gE kr h k) <| hlp 3 (fun s34=>⟨Qbd++[(5,.ref 3 0 s29.2.length),(6,vI s29.1),(7,.ptr 4 0 0),(8,vI s34.1)],[(Qbb p0),(Qcc p1),Qaz,.row false false false false 3 (hole eTapi_Node s29.2 (zn y17.2) (.agg [vI a20.Card,.ref 5 0 a20.Parents.length,.ref 6 0 x28.length])),oX false false 3 (.agg [vI a32.Card,.ref 7 0 a32.Parents.length,.ref 8 0 s34.2.length]),oR true 1 eI a20.Parents,.refs 9 (eF eI x28),oR true 1 eI a32.Parents,.refs 10 (eF eI s34.2),.fam 1 true (eF eI x28),.fam 1 true (eF eI s34.2)],323⟩) (fun v=>(.exit 2,⟨Qbd++[(5,.ref 3 0 s29.2.length),(6,vI s29.1),(7,.ptr 4 0 0)],[(Qbb p0),(Qcc p1),Qaz,.row false false false false 3 (hole eTapi_Node s29.2 (zn y17.2) (.agg [vI a20.Card,.ref 5 0 a20.Parents.length,.ref 6 0 x28.length])),oX false false 3 (.agg [vI a32.Card,.ref 7 0 a32.Parents.length,.ref 8 0 v.length]),oR true 1 eI a20.Parents,.refs 9 (eF eI x28),oR true 1 eI a32.Parents,.refs 10 (eF eI v),.fam 1 true (eF eI x28),.fam 1 true (eF eI v)],323⟩)) (wk_trans (wk_gcH (live:=[2,3,4,5,6,7,8]) (keep:=[0,1,2,3,7,4,5,8,6]) 3 eTapi_Node s29.2 (zn y17.2) (.agg [vI a20.Card,.ref 4 0 a20.Parents.length,.ref 5 0 x28.length]) 3 (fun f a=>by cases a <;> rfl) kr gE) (wk_trans (Q6 4 0 2 1 true true gE) (wk_trans (Qrg 9 1 true (nr0:=true) (fl0:=true) (x0:=([]:List Int)) (n:=0) (enc1:=fun _=>AV.nils) eI kr kr kr rfl) (wk_gcH (live:=[2,3,4,5,6,7,8]) (keep:=[0,1,2,3,4,5,6,7,9,8,10]) 3 eTapi_Node s29.2 (zn y17.2) (.agg [vI a20.Card,.ref 5 0 a20.Parents.length,.ref 6 0 x28.length]) 3 (fun f a=>by cases a <;> rfl) kr kr)))) (fun s34=>?_) fun x40=>?_
     ·refine hop 4 (fun _=>Qj (enc:=eTapi_Node) (l:=p1.Nodes) (n:=s29.1) (fl:=false) (w:=3) (a:=a32) kr kr gE q33) <| hop 2 (fun _=>Qk (enc:=z1) (l:=a32.Rows) (fl:=false) kr gE) <| hbr 1 [47] (?_) ?_
      ·refine hop 9 (fun _=>Qj (enc:=eTapi_Node) (l:=p1.Nodes) (n:=s29.1) (fl:=false) (w:=3) (a:=a32) kr kr gE q33) <| hbd fun a37 q38=>hop 3 (fun _=>Qj (enc:=z1) (l:=a32.Rows) (n:=s34.1) (fl:=false) (w:=1) (a:=a37) kr kr gE q38) <| hoh 1 (fun _ _ h k=>Qba (enc:=eI) (m:=a37) (w:=1) (bytes:=8) (nr':=true) (fl':=true) (a:=.nils) (b:=z1 a37) (rds:=[]) false kr (.inl rfl) (Qa0 (fun _=>rfl)) kr gE kr h k) <| hop 0 (fun _=>sg true 1 _ gE rfl) <| hoh 0 (fun _ _ h k=>Qu1 (enc:=eI) (ls:=s34.2) (q:=a37) (bytes:=24) (ob:=8) (j:=10) (tm:=12) (m:=11) kr kr kr kr gE kr h k) <| hwk 2 (wk_trans (wk_dead 12 gE) (wk_adoptA 13 10 11 (w:=1) (fl:=true) (enc:=eI) (ls:=s34.2) (b:=a37) [2,3,4,5,6,7,8,39,40,41,42,43,44,45,46,47,9,50,51,52,53,54,55,56,57,58,59,60,61,63,64,65] kr kr kr (and2 (safeAll_hole 3 3 eTapi_Node s29.2 (zn y17.2) (.agg [vI a20.Card,.ref 5 0 a20.Parents.length,.ref 6 0 x28.length]) (fun a=>rfl) kr kr) kr) rfl)) <| hnx 3 (wk_gcH (live:=[2,3,4,5,6,7,8]) (keep:=[0,1,2,3,4,5,6,7,13,9,10]) 3 eTapi_Node s29.2 (zn y17.2) (.agg [vI a20.Card,.ref 5 0 a20.Parents.length,.ref 6 0 x28.length]) 3 (fun f a=>by cases a <;> rfl) kr kr)
      refine hdx 1 (wk_gcH (live:=[2,3,4,5,6,7]) (keep:=[0,1,2,3,4,5,6,7,8,9,10]) 3 eTapi_Node s29.2 (zn y17.2) (.agg [vI a20.Card,.ref 5 0 a20.Parents.length,.ref 6 0 x28.length]) 3 (fun f a=>by cases a <;> rfl) kr kr)
     refine hwk 0 (Qd5 8 10 (w:=1) (fl:=true) (enc:=eI) (ls:=x40) kr kr rfl) <| hbs 2 [.keep,.lst true,.lst false] false [F eI a32.Parents,F z1 x40] <| hbd fun a41 q42=>hoh 0 (fun _ _ h k=>Q2u (enc:=eTapi_Node) (L:=s29.2) (m:=([(Tapi_Node.mk a32.Card a32.Parents x40)]:(List Tapi_Node))) (n:=(zn y17.2)) (a:=a41) (A0:=.agg [vI a20.Card,.ref 5 0 a20.Parents.length,.ref 6 0 x28.length]) (b:=.ref 11 0 1) (w:=3) (bytes:=56) (ob:=3) (fl:=false) (nr':=true) (fl':=false) (rds:=[11]) kr kr q42 kr gE kr h k) <| hnx 4 (wk_gcH (live:=[2,3,4,5,6]) (keep:=[0,1,2,12,5,6,9]) 12 eTapi_Node (s29.2++([(Tapi_Node.mk a32.Card a32.Parents x40)]:(List Tapi_Node))) (zn y17.2) (.agg [vI a20.Card,.ref 5 0 a20.Parents.length,.ref 6 0 x28.length]) 3 (fun f a=>by cases a <;> rfl) kr kr)
    refine hdx 1 (wk_gcH (live:=[2,3,4,5]) (keep:=[0,1,2,3,4,5,6]) 3 eTapi_Node s29.2 (zn y17.2) (.agg [vI a20.Card,.ref 4 0 a20.Parents.length,.ref 5 0 x28.length]) 3 (fun f a=>by cases a <;> rfl) kr kr)
   refine hbr 6 [74] (?_) ?_
   ·refine hjn 3 (Qit p1.Grain x44 (zn y17.2) a20.Card a20.Parents x28) (wk_gcH (live:=[4]) (keep:=[2,3,4,5,6]) 3 eTapi_Node x44 (zn y17.2) (.agg [vI a20.Card,.ref 4 0 a20.Parents.length,.ref 5 0 x28.length]) 3 (fun f a=>by cases a <;> rfl) kr kr)
   refine hoh 7 (fun _ _ h k=>Qfb (k:=.i64) (a:=zw (p0.At)) (b:=(zn x44)) kr gE h k) <| hbd fun a51 q52=>hqe 0 (fun n53=>⟨Qbd++[(5,.ref 3 0 x44.length),(70,.ref 3 0 x44.length),(71,.ptr 1 0 1),(72,.ref 3 0 x44.length),(73,vI (zn x44)),(74,vB false),(76,.ref 3 0 x44.length),(77,.ptr 0 0 1),(78,.int .u8 p0.At),(79,vI (zw (p0.At))),(80,.ref 3 0 x44.length),(81,vI (zn x44)),(82,vI n53)],[(Qbb p0),oX false false 2 (.agg [vI p1.Grain,.ref 3 0 x44.length]),Qaz,.row false false false false 3 (hole eTapi_Node x44 (zn y17.2) (.agg [vI a20.Card,.ref 4 0 a20.Parents.length,.ref 5 0 x28.length])),oR true 1 eI a20.Parents,.refs 6 (eF eI x28),.fam 1 true (eF eI x28)],323⟩) <| hop 0 (fun _=>Qcu (enc:=eTapi_Node) (L:=x44) (n:=(zn y17.2)) (a:=a51) (A:=.agg [vI a20.Card,.ref 4 0 a20.Parents.length,.ref 5 0 x28.length]) (ob:=3) (w:=3) (ro:=false) (nr:=false) (fl:=false) kr kr q52 gE) <| hop 5 (fun _=>Xv (enc:=eTapi_Node) (L:=x44) (n:=(zn y17.2)) (a:=a51) (A:=.agg [vI a20.Card,.ref 4 0 a20.Parents.length,.ref 5 0 x28.length]) (ob:=3) (w:=3) (c:=2) (ro:=false) (nr:=false) (fl:=false) kr kr q52 gE) <| hbr 2 [89] (?_) ?_
   ·refine hop 8 (fun _=>Xv (enc:=eTapi_Node) (L:=x44) (n:=(zn y17.2)) (a:=a51) (A:=.agg [vI a20.Card,.ref 4 0 a20.Parents.length,.ref 5 0 x28.length]) (ob:=3) (w:=3) (c:=2) (ro:=false) (nr:=false) (fl:=false) kr kr q52 gE) <| hoh 1 (fun _ _ h k=>Qfb (k:=.i64) (a:=zw (p0.Row)) (b:=(zn x28)) kr gE h k) <| hjn 1 (g_ref05_Bend_Of_j2_ok (zt (zn y17.2)) (Int.tmod (zw (p0.Row)) (zn x28)) p0.What p0.At p0.Row p0.N p1.Grain 0 x44 (zn y17.2) a20.Card a20.Parents x28) (wk_gcH (live:=[2,3,4,10,11]) (keep:=[0,1,2,3,4,5,6]) 3 eTapi_Node x44 (zn y17.2) (.agg [vI a20.Card,.ref 4 0 a20.Parents.length,.ref 5 0 x28.length]) 3 (fun f a=>by cases a <;> rfl) kr kr)
   refine hjn 1 (g_ref05_Bend_Of_j2_ok (zt (zn y17.2)) (-1) p0.What p0.At p0.Row p0.N p1.Grain 0 x44 (zn y17.2) a20.Card a20.Parents x28) (wk_gcH (live:=[2,3,4,10,11]) (keep:=[0,1,2,3,4,5,6]) 3 eTapi_Node x44 (zn y17.2) (.agg [vI a20.Card,.ref 4 0 a20.Parents.length,.ref 5 0 x28.length]) 3 (fun f a=>by cases a <;> rfl) kr kr)
  refine hwk 1 (wl [2,3,4,5] [0,1,2,3]) <| hnn
 refine hbr 6 [74] (hjn 3 (Qh9 p1.Grain x14) (wz [2,3])) <| ?_
 refine hnn
end
section
attribute [local irreducible] RW WP
theorem g_ref02_Places_ok (p0:(List Int)) (p1:Int):Ct Tryd.prog 45 [z1 p0,vI p1] (Ks p0 p1) (fun x=>vB x) (fun x=>[]):=by
 refine hfn [] Tryd.func45 <| hlp 2 (fun s1=>⟨[(0,z1 p0),(1,vI p1),(5,vI s1)],[],41⟩) (fun x=>match x with | .inl v=>(.ret,⟨[(4,vB false)],[],41⟩) | .inr v=>(.exit 0,⟨[],[],41⟩)) (wz []) (fun s1=>?_) (hsm (fun x17=>?_) (fun x18=>?_))
 ·refine hop 2 (fun _=>Qk (enc:=eI) (l:=p0) (fl:=true) kr gE) <| hbr 1 [9] (?_) ?_
  ·refine hbd fun a4 q5=>hop 4 (fun _=>Qj (enc:=eI) (l:=p0) (n:=s1) (fl:=true) (w:=1) (a:=a4) kr kr gE q5) <| hbr 3 [16,17] (hdx 25 (wz [])) <| ?_
   refine hop 2 (fun _=>Qj (enc:=eI) (l:=p0) (n:=s1) (fl:=true) (w:=1) (a:=a4) kr kr gE q5) <| hbr 5 [23,24,25] (hdx 17 (wz [])) <| ?_
   refine hbr 3 [27,28] (?_) ?_
   ·refine hop 2 (fun _=>Qj (enc:=eI) (l:=p0) (n:=s1) (fl:=true) (w:=1) (a:=a4) kr kr gE q5) <| hbd fun a12 q13=>hop 4 (fun _=>Qj (enc:=eI) (l:=p0) (n:=zw (s1 - 1)) (fl:=true) (w:=1) (a:=a12) kr kr gE q13) <| hbr 4 [38,39,40] (hdx 2 (wz [])) <| ?_
    refine hnx 4 (wz [])
   refine hnx 16 (wz [])
  refine hdx 1 (wz [])
 ·refine hrt 0
 refine hrt 2
theorem g_ref05_Up_ok (p0:(List Int)) (p1:Int):Ct Tryd.prog 70 [eL true (AV.int .u64) p0,.int .u64 p1] (Qfx p0 p1) (fun x=>.int .u64 x) (fun x=>[]):=by
 refine hfn [] Tryd.func70 <| hlp 2 (fun s1=>⟨[(0,eL true (AV.int .u64) p0),(1,.int .u64 s1.1),(5,vI s1.2)],[],29⟩) (fun v=>(.exit 0,⟨[(1,.int .u64 v)],[],29⟩)) (wz []) (fun s1=>?_) fun x16=>?_
 ·refine hop 2 (fun _=>Qk (enc:=(AV.int .u64)) (l:=p0) (fl:=true) kr gE) <| hbr 1 [10] (?_) ?_
  ·refine hlp 2 (fun s4=>⟨[(0,eL true (AV.int .u64) p0),(1,.int .u64 s4.1),(5,vI s1.2),(6,vI s4.2)],[],29⟩) (fun v=>(.exit 2,⟨[(0,eL true (AV.int .u64) p0),(1,.int .u64 v),(5,vI s1.2)],[],29⟩)) (wz []) (fun s4=>?_) fun x14=>?_
   ·refine hop 2 (fun _=>Qk (enc:=(AV.int .u64)) (l:=p0) (fl:=true) kr gE) <| hbr 1 [16] (?_) ?_
    ·refine hcl 3 [] (g_ref05_In_ok s4.1 s4.2) fun x7 _=>hbr 0 [21] (hbd fun a11 q12=>hop 4 (fun _=>Qj (enc:=(AV.int .u64)) (l:=p0) (n:=s4.2) (fl:=true) (w:=1) (a:=a11) kr kr gE q12) <| hnx 6 (wz [])) <| ?_
     refine hnx 4 (wz [])
    refine hdx 1 (wz [])
   refine hnx 3 (wz [])
  refine hdx 1 (wz [])
 refine hrt 3
theorem Qlr (p0:(List Int)):Ct Tryd.prog 46 [eL true (AV.int .u64) p0] (J0 p0) (fun x=>vB x) (fun x=>[]):=by
 refine hfn [] Tryd.func46 <| hlp 2 (fun s1=>⟨[(0,eL true (AV.int .u64) p0),(3,vI s1)],[],18⟩) (fun x=>match x with | .inl v=>(.ret,⟨[(2,vB false)],[],18⟩) | .inr v=>(.exit 0,⟨[],[],18⟩)) (wz []) (fun s1=>?_) (hsm (fun x13=>?_) (fun x14=>?_))
 ·refine hop 2 (fun _=>Qk (enc:=(AV.int .u64)) (l:=p0) (fl:=true) kr gE) <| hbr 1 [7] (?_) ?_
  ·refine hbd fun a4 q5=>hop 4 (fun _=>Qj (enc:=(AV.int .u64)) (l:=p0) (n:=s1) (fl:=true) (w:=1) (a:=a4) kr kr gE q5) <| hcl 1 [] (g_ref05_Up_ok p0 a4) fun x6 _=>hcl 1 [] (g_ref05_In_ok x6 s1) fun x8 _=>hbr 0 [17] (hdx 2 (wz [])) <| ?_
   refine hnx 4 (wz [])
  refine hdx 1 (wz [])
 ·refine hrt 0
 refine hrt 2
noncomputable abbrev o60_76 (p0:Qc):AObj:=oX true false 2 (.agg [vI p0.Grain,eL false eTapi_Node p0.Nodes])
noncomputable abbrev o60_77 (a36:Tapi_Node):AObj:=oX true false 3 (.agg [vI a36.Card,z1 a36.Parents,z2 a36.Rows])
theorem g_ref05_Right_ok (p0:Qc):Ct Tryd.prog 23 [.agg [vI p0.Grain,eL false eTapi_Node p0.Nodes]] (K8 p0) (fun x=>vB x) (fun x=>[]):=by
 refine hfn [] Tryd.func23 <| hop 0 (fun _=>sgL false [] [] false gE) <| hbr 5 [13,14] (hrt 19) <| ?_
 refine hbr 5 [17,18,19] (hrt 14) <| ?_
 refine hop 2 (fun _=>Qk (enc:=eTapi_Node) (l:=p0.Nodes) (fl:=false) kr gE) <| hbr 3 [23,24,25] (hrt 8) <| ?_
 refine hop 2 (fun _=>Qk (enc:=eTapi_Node) (l:=p0.Nodes) (fl:=false) kr gE) <| hbr 2 [29,30] (hrt 3) <| ?_
 refine hlp 3 (fun s9=>⟨[(1,.ptr 0 0 0),(3,vI s9.1),(4,vI s9.2)],[(o60_76 p0)],154⟩) (fun x=>match x with | .inl v=>(.ret,⟨[(2,vB false)],[],154⟩) | .inr v=>(.exit 0,⟨[(1,.ptr 0 0 0),(3,vI v)],[(o60_76 p0)],154⟩)) (wz [0]) (fun s9=>?_) (hsm (fun x23=>?_) (fun x24=>?_))
 ·refine hop 3 (fun _=>Qk (enc:=eTapi_Node) (l:=p0.Nodes) (fl:=false) kr gE) <| hbr 1 [35] (?_) ?_
  ·refine hbd fun a12 q13=>hop 4 (fun _=>Qj (enc:=eTapi_Node) (l:=p0.Nodes) (n:=s9.2) (fl:=false) (w:=3) (a:=a12) kr kr gE q13) <| hop 1 (fun _=>sgL false [] [] false gE) <| hbr 5 [45,46] (hdx 15 (wz [])) <| ?_
   refine hbr 5 [49,50,51] (hdx 10 (wz [])) <| ?_
   refine hop 4 (fun _=>Qk (enc:=eTapi_Node) (l:=p0.Nodes) (fl:=false) kr gE) <| hcl 0 [] (g_ref02_Places_ok a12.Parents (zn p0.Nodes)) fun x18 _=>hbr 2 [58,59] (hdx 2 (wz [])) <| ?_
   refine hnx 9 (wz [0])
  refine hdx 1 (wz [0])
 ·refine hrt 0
 refine hbr 3 [65,66] (hrt 8) <| ?_
 refine hcl 1 [] (g_ref05_ParentSets_ok p0) fun x27 _=>hcl 0 [F (AV.int .u64) x27] (Qlr x27) fun x29 _=>hbr 2 [70,71] (hrt 3) <| ?_
 refine hlp 2 (fun s33=>⟨[(1,.ptr 0 0 0),(6,vI s33)],[(o60_76 p0)],154⟩) (fun x=>match x with | .inl v=>(.ret,⟨[(2,vB false)],[],154⟩) | .inr v=>(.exit 2,⟨[],[],154⟩)) (wz [0]) (fun s33=>?_) (hsm (fun x69=>?_) (fun x70=>?_))
 ·refine hop 3 (fun _=>Qk (enc:=eTapi_Node) (l:=p0.Nodes) (fl:=false) kr gE) <| hbr 1 [76] (?_) ?_
  ·refine hbd fun a36 q37=>hop 4 (fun _=>Qj (enc:=eTapi_Node) (l:=p0.Nodes) (n:=s33) (fl:=false) (w:=3) (a:=a36) kr kr gE q37) <| hop 1 (fun _=>sgL false [] [] false gE) <| hop 4 (fun _=>Qk (enc:=z1) (l:=a36.Rows) (fl:=false) kr gE) <| hcl 2 [] (us:=[.agg [vI p0.Grain,eL false eTapi_Node p0.Nodes],vI s33]) (rv:=fun x38=>z1 x38) (ro:=fun x38=>[]) (fun x38 q39=>Qy.froz (Kf p0 s33 x38 q39) (Zm (w:=1) (bx:=false) (ro:=false) (enc:=eI) (l:=x38) (fl:=true) rfl)) fun x38 _=>hcl 0 [] (Qdr x38) fun x40 _=>hbr 1 [91] (hdx 2 (wz [])) <| ?_
   refine hlp 2 (fun s44=>⟨[(1,.ptr 0 0 0),(6,vI s33),(7,.ptr 1 0 0),(8,vI s44)],[(o60_76 p0),(o60_77 a36)],154⟩) (fun x=>match x with | .inl v=>(.ret,⟨[(2,vB false)],[],154⟩) | .inr v=>(.exit 4,⟨[(1,.ptr 0 0 0),(6,vI s33)],[(o60_76 p0)],154⟩)) (wz [0,1]) (fun s44=>?_) (hsm (fun x66=>?_) (fun x67=>?_))
   ·refine hop 3 (fun _=>Qk (enc:=z1) (l:=a36.Rows) (fl:=false) kr gE) <| hbr 1 [96] (?_) ?_
    ·refine hbd fun a47 q48=>hop 5 (fun _=>Qj (enc:=z1) (l:=a36.Rows) (n:=s44) (fl:=false) (w:=1) (a:=a47) kr kr gE q48) <| hop 1 (fun _=>Qk (enc:=eI) (l:=a47) (fl:=true) kr gE) <| hbr 3 [107] (hdx 2 (wz [])) <| ?_
     refine hlp 3 (fun s51=>⟨[(1,.ptr 0 0 0),(6,vI s33),(7,.ptr 1 0 0),(8,vI s44),(9,vI s51.1),(10,vI s51.2)],[(o60_76 p0),(o60_77 a36)],154⟩) (fun x=>match x with | .inl v=>(.ret,⟨[(2,vB false)],[],154⟩) | .inr v=>(.exit 6,⟨[(1,.ptr 0 0 0),(6,vI s33),(7,.ptr 1 0 0),(8,vI s44),(9,vI v)],[(o60_76 p0),(o60_77 a36)],154⟩)) (wz [0,1]) (fun s51=>?_) (hsm (fun x61=>?_) (fun x62=>?_))
     ·refine hop 4 (fun _=>Qj (enc:=z1) (l:=a36.Rows) (n:=s44) (fl:=false) (w:=1) (a:=a47) kr kr gE q48) <| hop 1 (fun _=>Qk (enc:=eI) (l:=a47) (fl:=true) kr gE) <| hbr 1 [115] (?_) ?_
      ·refine hop 5 (fun _=>Qj (enc:=z1) (l:=a36.Rows) (n:=s44) (fl:=false) (w:=1) (a:=a47) kr kr gE q48) <| hbd fun a54 q55=>hop 2 (fun _=>Qj (enc:=eI) (l:=a47) (n:=s51.2) (fl:=true) (w:=1) (a:=a54) kr kr gE q55) <| hbr 3 [126,127] (hdx 14 (wz [])) <| ?_
       refine hop 3 (fun _=>Qj (enc:=z1) (l:=a36.Rows) (n:=s44) (fl:=false) (w:=1) (a:=a47) kr kr gE q48) <| hop 2 (fun _=>Qj (enc:=eI) (l:=a47) (n:=s51.2) (fl:=true) (w:=1) (a:=a54) kr kr gE q55) <| hbr 5 [138,139] (hdx 2 (wz [])) <| ?_
       refine hop 5 (fun _=>Qj (enc:=z1) (l:=a36.Rows) (n:=s44) (fl:=false) (w:=1) (a:=a47) kr kr gE q48) <| hop 2 (fun _=>Qj (enc:=eI) (l:=a47) (n:=s51.2) (fl:=true) (w:=1) (a:=a54) kr kr gE q55) <| hnx 6 (wz [0,1])
      refine hdx 1 (wz [0,1])
     ·refine hdn 0
     refine hbr 4 [153] (hdx 2 (wz [])) <| ?_
     refine hnx 4 (wz [0,1])
    refine hdx 1 (wz [0])
   ·refine hdn 0
   refine hnx 3 (wz [0])
  refine hdx 1 (wz [])
 ·refine hrt 0
 refine hrt 2
theorem g_ref09_Permutation_ok (p0:(List Int)) (p1:Int) (p2:Int):Ct Tryd.prog 25 [z1 p0,vI p1,vI p2] (Vd p0 p1 p2) (fun x=>vB x) (fun x=>[]):=by
 refine hfn [] Tryd.func25 <| hlp 3 (fun s1=>⟨[(0,z1 p0),(1,vI p1),(2,vI p2),(7,.int .u64 s1.1),(8,vI s1.2)],[],63⟩) (fun x=>match x with | .inl v=>(.ret,⟨[(6,vB false)],[],63⟩) | .inr v=>(.exit 0,⟨[(0,z1 p0),(1,vI p1),(2,vI p2)],[],63⟩)) (wz []) (fun s1=>?_) (hsm (fun x17=>?_) (fun x18=>?_))
 ·refine hop 2 (fun _=>Qk (enc:=eI) (l:=p0) (fl:=true) kr gE) <| hbr 1 [12] (?_) ?_
  ·refine hbd fun a4 q5=>hop 3 (fun _=>Qj (enc:=eI) (l:=p0) (n:=s1.2) (fl:=true) (w:=1) (a:=a4) kr kr gE q5) <| hbr 3 [19,20] (hdx 25 (wz [])) <| ?_
   refine hop 2 (fun _=>Qj (enc:=eI) (l:=p0) (n:=s1.2) (fl:=true) (w:=1) (a:=a4) kr kr gE q5) <| hbr 5 [26,27,28] (hdx 17 (wz [])) <| ?_
   refine hop 2 (fun _=>Qj (enc:=eI) (l:=p0) (n:=s1.2) (fl:=true) (w:=1) (a:=a4) kr kr gE q5) <| hbr 5 [34,35,36] (hdx 9 (wz [])) <| ?_
   refine hop 3 (fun _=>Qj (enc:=eI) (l:=p0) (n:=s1.2) (fl:=true) (w:=1) (a:=a4) kr kr gE q5) <| hcl 1 [] (g_ref05_In_ok s1.1 a4) fun x12 _=>hbr 1 [42,43] (hdx 2 (wz [])) <| ?_
   refine hop 4 (fun _=>Qj (enc:=eI) (l:=p0) (n:=s1.2) (fl:=true) (w:=1) (a:=a4) kr kr gE q5) <| hoh 2 (fun _ _ h k=>Y2 (k:=.u64) (k':=.u64) (a:=1) (b:=zv (a4)) kr gE h k) <| hnx 5 (wz [])
  refine hdx 1 (wz [])
 ·refine hrt 0
 refine hbr 2 [53] (hop 2 (fun _=>Qk (enc:=eI) (l:=p0) (fl:=true) kr gE) <| hrt 5) <| ?_
 refine hop 2 (fun _=>Qk (enc:=eI) (l:=p0) (fl:=true) kr gE) <| hrt 4
noncomputable abbrev Qwp (p2:(Int × Int × Int × Int × Int × Int × Int × Int)):AObj:=oX true true 8 (.agg [.int .u8 p2.1,.int .u8 p2.2.1,.int .u8 p2.2.2.1,.int .u8 p2.2.2.2.1,.int .u8 p2.2.2.2.2.1,.int .u8 p2.2.2.2.2.2.1,.int .u8 p2.2.2.2.2.2.2.1,.int .u8 p2.2.2.2.2.2.2.2])
noncomputable abbrev u62_79 (p3:(List Int)) (x5 x7:Qc) (s9:Int) (p2:(Int × Int × Int × Int × Int × Int × Int × Int)):St:=⟨[(3,z1 p3),(6,.ptr 0 0 0),(9,.ptr 1 0 0),(24,.agg [vI x5.Grain,eL false eTapi_Node x5.Nodes,vI x7.Grain,eL false eTapi_Node x7.Nodes]),(25,vI s9)],[(Qwp p2),oX false false 2 (.agg [vI x5.Grain,.ref 2 0 x5.Nodes.length]),.row false true true false 3 (List.map eTapi_Node x5.Nodes)],93⟩
theorem g_law10_TreeMakes_ok (p0:Qe) (p1:Zd) (p2:(Int × Int × Int × Int × Int × Int × Int × Int)) (p3:(List Int)):Ct Tryd.prog 4 [.agg [.int .u8 p0.Grain,eL false eTharuspexref05_Piece p0.Nodes,eL true (AV.int .u8) p0.Order],.agg [.int .u8 p1.What,.int .u8 p1.At,.int .u8 p1.Row,vI p1.N],.agg [.int .u8 p2.1,.int .u8 p2.2.1,.int .u8 p2.2.2.1,.int .u8 p2.2.2.2.1,.int .u8 p2.2.2.2.2.1,.int .u8 p2.2.2.2.2.2.1,.int .u8 p2.2.2.2.2.2.2.1,.int .u8 p2.2.2.2.2.2.2.2],z1 p3] (Qb5 p0 p1 p2 p3) (fun x=>vB x) (fun x=>[]):=by
 refine hfn [] Tryd.func4 <| hop 0 (fun _=>sgL false [] [] false gE) <| hcl 3 [] (g_law10_wakes_ok ) fun x1 _=>hbr 1 [17] (hrt 3) <| ?_
 refine hcl 2 [] (Qjo p0) fun x5 _=>hop 0 (fun _=>sgL false [] [] false gE) <| hcl 5 [F eTapi_Node x5.Nodes] (g_ref05_Bend_Of_ok p1 x5) fun x7 _=>hlp 2 (fun s9=>(u62_79 p3 x5 x7 s9 p2)) (fun x=>match x with | .inl v=>(.ret,⟨[(8,vB false)],[],93⟩) | .inr v=>(.exit 0,⟨[],[],93⟩)) (wk_trans (wk_gc (live:=[3,6,9,24,25]) (keep:=[2,4,3]) gE) (wk_trans (wsn 24 [F eTapi_Node x5.Nodes]) (wk_gc (live:=[3,6,9,24,25]) (keep:=[0,1,2]) kr))) (fun s9=>?_) (hsm (fun x57=>?_) (fun x58=>?_))
 ·refine hbr 1 [26] (?_) ?_
  ·refine hbd fun a12 q13=>hop 1 (fun _=>Q2t (enc:=Qw2) (l:=([x5,x7]:(List Qc))) (n:=s9) (a:=a12) (w:=2) (g:=true) (v:=.agg [vI a12.Grain,eL false eTapi_Node a12.Nodes]) kr (fun _=>rfl) kr q13 kr gE) <| hop 0 (fun _=>sgL false [] [] false gE) <| hcl 6 [] (us:=[vI (zn x5.Nodes),vI (-1),.agg [.int .u8 p2.1,.int .u8 p2.2.1,.int .u8 p2.2.2.1,.int .u8 p2.2.2.2.1,.int .u8 p2.2.2.2.2.1,.int .u8 p2.2.2.2.2.2.1,.int .u8 p2.2.2.2.2.2.2.1,.int .u8 p2.2.2.2.2.2.2.2]]) (rv:=fun x14=>z1 x14) (ro:=fun x14=>[]) (fun x14 q15=>Qy.froz (Qfl (zn x5.Nodes) (-1) (p2.1,p2.2.1,p2.2.2.1,p2.2.2.2.1,p2.2.2.2.2.1,p2.2.2.2.2.2.1,p2.2.2.2.2.2.2.1,p2.2.2.2.2.2.2.2) x14 q15) (Zm (w:=1) (bx:=false) (ro:=false) (enc:=eI) (l:=x14) (fl:=true) rfl)) fun x14 _=>hop 2 (fun _=>Qk (enc:=eI) (l:=p3) (fl:=true) kr gE) <| hoh 1 (fun _ _ h k=>Q18 (enc:=eI) (l:=p3) (fl:=true) (lo:=none) (hi:=(some (vI (if 10 < (zn p3) then 10 else (zn p3))))) (a:=0) (b:=(if 10 < (zn p3) then 10 else (zn p3))) (w:=1) kr (fun _=>rfl) kr kr gE h k) <| hop 2 (fun _=>Qk (enc:=eTapi_Node) (l:=a12.Nodes) (fl:=false) kr gE) <| hcl 1 [] (us:=[vI (zn a12.Nodes),vI (-1),.agg [.int .u8 p2.1,.int .u8 p2.2.1,.int .u8 p2.2.2.1,.int .u8 p2.2.2.2.1,.int .u8 p2.2.2.2.2.1,.int .u8 p2.2.2.2.2.2.1,.int .u8 p2.2.2.2.2.2.2.1,.int .u8 p2.2.2.2.2.2.2.2]]) (rv:=fun x16=>z1 x16) (ro:=fun x16=>[]) (fun x16 q17=>Qy.froz (Qfl (zn a12.Nodes) (-1) (p2.1,p2.2.1,p2.2.2.1,p2.2.2.2.1,p2.2.2.2.2.1,p2.2.2.2.2.2.1,p2.2.2.2.2.2.2.1,p2.2.2.2.2.2.2.2) x16 q17) (Zm (w:=1) (bx:=false) (ro:=false) (enc:=eI) (l:=x16) (fl:=true) rfl)) fun x16 _=>hlp 2 (fun s18=>⟨[(3,z1 p3),(6,.ptr 0 0 0),(9,.ptr 1 0 0),(11,.ptr 2 0 0),(24,.agg [vI x5.Grain,eL false eTapi_Node x5.Nodes,vI x7.Grain,eL false eTapi_Node x7.Nodes]),(25,vI s9),(43,.agg [z1 x14,z1 (sub p3 0 (if 10 < (zn p3) then 10 else (zn p3))),z1 x16]),(44,vI s18)],[(Qwp p2),oX false false 2 (.agg [vI x5.Grain,.ref 3 0 x5.Nodes.length]),oX true false 2 (.agg [vI a12.Grain,eL false eTapi_Node a12.Nodes]),.row false true true false 3 (List.map eTapi_Node x5.Nodes)],93⟩) (fun x=>match x with | .inl v=>(.ret,⟨[(8,vB false)],[],93⟩) | .inr v=>(.exit 2,(u62_79 p3 x5 x7 s9 p2))) (wz [0,1,3,2]) (fun s18=>?_) (hsm (fun x54=>?_) (fun x55=>?_))
   ·refine hbr 1 [45] (?_) ?_
    ·refine hbd fun a21 q22=>hop 1 (fun _=>Q2t (enc:=z1) (l:=([x14,(sub p3 0 (if 10 < (zn p3) then 10 else (zn p3))),x16]:(List (List Int)))) (n:=s18) (a:=a21) (w:=1) (g:=false) (v:=z1 a21) kr (fun _=>rfl) kr q22 kr gE) <| hcl 3 [] (g_tree_Make_ok a12 a21) fun x23 _=>hop 3 (fun _=>sgL false [] [] false gE) <| hcl 3 [] (g_ref05_Right_ok a12) fun x25 _=>hbr 2 [56,53] (?_) ?_
     ·refine hbr 4 [58,59] (hdx 7 (wz [])) <| ?_
      refine hcl 2 [F (AV.int .u64) x23.1.Cliques,F eI x23.1.Up,F eI x23.1.Home] (us:=[.agg [eL true (AV.int .u64) x23.1.Cliques,z1 x23.1.Up,z1 x23.1.Home],.agg [.nils,.nils,.nils]]) (rv:=fun x31=>vB x31) (ro:=fun x31=>[]) (fun x31 q32=>Qy.args [[.keep,.keep,.keep],[.lst true,.lst true,.lst true]] (J3 x23.1 (Qp.mk [] [] []) x31 q32)) fun x31 _=>hbr 2 [63,64] (hdx 2 (wz [])) <| ?_
      refine hnx 3 (wz [0,1,2,3])
     refine hop 4 (fun _=>Qk (enc:=eTapi_Node) (l:=a12.Nodes) (fl:=false) kr gE) <| hcl 0 [] (g_ref09_Permutation_ok a21 (zn a12.Nodes) (-1)) fun x35 _=>hbr 2 [71,65] (?_) ?_
     ·refine hbr 4 [73,74] (hdx 7 (wz [])) <| ?_
      refine hcl 2 [F (AV.int .u64) x23.1.Cliques,F eI x23.1.Up,F eI x23.1.Home] (us:=[.agg [eL true (AV.int .u64) x23.1.Cliques,z1 x23.1.Up,z1 x23.1.Home],.agg [.nils,.nils,.nils]]) (rv:=fun x41=>vB x41) (ro:=fun x41=>[]) (fun x41 q42=>Qy.args [[.keep,.keep,.keep],[.lst true,.lst true,.lst true]] (J3 x23.1 (Qp.mk [] [] []) x41 q42)) fun x41 _=>hbr 2 [78,79] (hdx 2 (wz [])) <| ?_
      refine hnx 3 (wz [0,1,2,3])
     refine hbr 5 [82,83] (hdx 10 (wz [])) <| ?_
     refine hcl 3 [] (us:=[.agg [vI a12.Grain,eL false eTapi_Node a12.Nodes],z1 a21]) (rv:=fun x47=>.agg [eL true (AV.int .u64) x47.Cliques,z1 x47.Up,z1 x47.Home]) (ro:=fun x47=>[]) (fun x47 q48=>Qy.froz (Qoy a12 a21 x47 q48) (Qat (Q5 (Zm (w:=1) (bx:=false) (ro:=false) (enc:=(AV.int .u64)) (l:=x47.Cliques) (fl:=true) rfl) (Q5 (Zm (w:=1) (bx:=false) (ro:=false) (enc:=eI) (l:=x47.Up) (fl:=true) rfl) (Q5 (Zm (w:=1) (bx:=false) (ro:=false) (enc:=eI) (l:=x47.Home) (fl:=true) rfl) Jf (by rfl)) (by rfl)) (by rfl)))) fun x47 _=>hcl 0 [F (AV.int .u64) x23.1.Cliques,F eI x23.1.Up,F eI x23.1.Home] (J3 x23.1 x47) fun x49 _=>hbr 3 [89,90,80] (hdx 2 (wz [])) <| ?_
     refine hnx 3 (wz [0,1,2,3])
    refine hdx 1 (wz [0,1,3])
   ·refine hdn 0
   refine hnx 2 (wz [0,1,2])
  refine hdx 1 (wz [])
 ·refine hrt 0
 refine hrt 2
end
end Go.Ab
namespace Go.Ab
open Go
theorem Qmo {σ ρ:Type} {body:σ→Option (Qh σ ρ)} (I:σ→Prop) (m:σ→Nat) (Q:ρ→Prop)
  (step:∀s,I s→(∃s',body s=some (.next s')∧I s'∧m s' < m s)∨(∃r,body s=some (.done r)∧Q r)) :
  ∀(n:Nat) (s:σ),I s→m s < n→∃r,Qa n body s=some r∧Q r
 | 0,s,_,h=>by omega
 | n+1,s,hI,h=>by
  unfold Qa
  rcases step s hI with ⟨s',h1,h2,h3⟩ | ⟨r,h1,h2⟩
  ·rw [h1]
   exact Qmo I m Q step n s' h2 (by omega)
  ·rw [h1]
   exact ⟨r,rfl,h2⟩
theorem Vq {σ ρ:Type} {body:σ→Option (Qh σ ρ)} (I:σ→Prop) (m:σ→Nat) (Q:ρ→Prop)
  (step:∀s,I s→(∃s',body s=some (.next s')∧I s'∧m s' < m s)∨(∃r,body s=some (.done r)∧Q r)) (s:σ) (hI:I s) (hm:m s < 1152921504606846976):∃r,Qa fuel body s=some r∧Q r :=
 Qmo I m Q step fuel s hI hm
theorem Qr7 {σ ρ:Type} {body:σ→Option (Qh σ ρ)} (f:Nat → σ) (n:Nat) (r:ρ) (step:∀k,k < n→body (f k)=some (.next (f (k+1)))) (done:body (f n)=some (.done r)) (hn:n < 1152921504606846976) :
  Qa fuel body (f 0)=some r:=by
 have key:∀(j N k:Nat),k+j=n→j < N→Qa N body (f k)=some r:=by
  intro j
  induction j with
  | zero =>
   intro N k hk hN
   obtain ⟨N,rfl⟩:∃M,N=M+1:=⟨N - 1,by omega⟩
   have:k=n:=by omega
   subst this
   simp [Qa,done]
  | succ j ih =>
   intro N k hk hN
   obtain ⟨N,rfl⟩:∃M,N=M+1:=⟨N - 1,by omega⟩
   simp only [Qa,step k (by omega)]
   exact ih N (k+1) (by omega) (by omega)
 exact key n fuel 0 (by omega) hn
theorem Yk {σ ρ:Type} {body:σ→Option (Qh σ ρ)} {s0:σ} (f:Nat → σ) (n:Nat) (r:ρ) (h0:f 0=s0) (step:∀k,k < n→body (f k)=some (.next (f (k+1)))) (done:body (f n)=some (.done r)) (hn:n < 1152921504606846976) :
  Qa fuel body s0=some r:=by rw [←h0]; exact Qr7 f n r step done hn
theorem w64 {n:Int} (h:-9223372036854775808≤n∧n≤9223372036854775807):zw n=n:=by show IntKind.wrap .i64 n=n; rw [IntKind.wrap_i64]; omega
theorem Qt {α:Type} {l:List α} {k:Nat} (h:k < l.length):lkI l (k:Int)=some l[k]:=by
 unfold lkI
 rw [if_neg (by omega),Int.toNat_natCast,List.getElem?_eq_getElem h]
theorem Qxx {a b:Int} (h:0≤a):Int.tdiv a b=a / b:=Int.tdiv_eq_ediv_of_nonneg h
theorem K5 {a b:Int} (h:0≤a):Int.tmod a b=a % b:=Int.tmod_eq_emod_of_nonneg h
end Go.Ab
namespace Go.Ab
open Go
set_option maxRecDepth 100000
set_option maxHeartbeats 400000
def msk:Nat → (Nat → Bool)→Nat
 | 0,_=>0
 | n+1,p=>msk n p ||| (if p n then 2^n else 0)
theorem Qd4 (n:Nat) (p:Nat → Bool) (i:Nat):(msk n p).testBit i=(decide (i < n) && p i):=by
 induction n with
 | zero=>simp [msk]
 | succ n ih =>
  unfold msk
  rw [Nat.testBit_or,ih]
  by_cases h:i=n
  ·subst h
   cases hp:p i <;> simp [hp]
  ·have e:decide (i < n+1)=decide (i < n):=by by_cases h2:i < n <;> simp [h2] <;> omega
   rw [e]
   cases hp:p n
   ·simp
   ·simp only [if_true,Nat.testBit_two_pow]
    have e2:¬ n=i:=fun e=>h e.symm
    simp [e2]
theorem Yf (n:Nat) (p:Nat → Bool):msk n p < 2^n:=by
 induction n with
 | zero=>simp [msk]
 | succ n ih =>
  unfold msk
  refine Nat.or_lt_two_pow (Nat.lt_of_lt_of_le ih (Nat.pow_le_pow_right (by omega) (by omega))) ?_
  split
  ·exact Nat.pow_lt_pow_right (by omega) (by omega)
  ·exact Nat.two_pow_pos _
theorem Qav {n:Nat} {p:Nat → Bool} {a:Nat} (ha:a < 2^n) (h:∀i,i < n→a.testBit i=p i):a=msk n p:=by
 apply Nat.eq_of_testBit_eq
 intro i
 rw [Qd4]
 by_cases hi:i < n
 ·simp [hi,h i hi]
 ·rw [Nat.testBit_lt_two_pow (Nat.lt_of_lt_of_le ha (Nat.pow_le_pow_right (by omega) (by omega)))]; simp [hi]
theorem Kc {n:Nat} {p q:Nat → Bool} (h:∀i,i < n→p i=q i):msk n p=msk n q :=
 Qav (Yf n p) fun i hi=>by rw [Qd4,h i hi]; simp [hi]
theorem Qwn {n a:Nat} (hn:n≤10) (ha:a < 2^n):a < 1024:=Nat.lt_of_lt_of_le ha (Nat.pow_le_pow_right (n:=2) (by omega) hn)
theorem Qun {n a:Nat} (hn:n≤10) (ha:a < 2^n):a < 18446744073709551616:=by have:=Qwn hn ha; omega
theorem Yd {n:Nat} (h:n < 18446744073709551616):zv (n:Int)=(n:Int):=by
 simp [IntKind.wrap,IntKind.bits,IntKind.signed]; omega
theorem Jk {a:Nat} (h:a < 18446744073709551616):(zb (a:Int)).toNat = a:=by
 show (BitVec.ofInt IntKind.u64.bits (a:Int)).toNat = a
 rw [BitVec.ofInt_natCast,BitVec.toNat_ofNat]
 exact Nat.mod_eq_of_lt h
theorem Qy5 {a k:Nat}:Int.fdiv (a:Int) ((2:Int)^k)=((a / 2^k:Nat):Int):=by
 rw [Int.fdiv_eq_ediv_of_nonneg _ (by exact_mod_cast Nat.zero_le (2^k))]
 simp
theorem Qxe {a j:Nat} (h:a < 18446744073709551616):(zb (a:Int)).getLsbD j=a.testBit j:=by unfold BitVec.getLsbD; rw [Jk h]
theorem Qyg {v:Nat} (hv:v < 64):zv (1*2^min (Int.toNat (v:Int)) (IntKind.bits .u64))=((2^v:Nat):Int):=by
 have hb:IntKind.bits .u64=64:=rfl
 have e0:min (Int.toNat (v:Int)) (IntKind.bits .u64)=v:=by rw [hb,Int.toNat_natCast]; omega
 have hp:2^v < 18446744073709551616:=Nat.pow_lt_pow_right (n:=64) (by omega) hv
 rw [e0,show (1:Int)*2^v=((2^v:Nat):Int) by simp,Yd hp]
theorem Qz2 {v:Nat} (hv:v < 64):2^v < 18446744073709551616:=Nat.pow_lt_pow_right (n:=64) (by omega) hv
theorem Qsp {n:Nat} {p q:Nat → Bool} {a b:Nat} (hn:n≤64) (ha:a < 2^n) (hb:b < 18446744073709551616) (hp:∀i,i < n→a.testBit i=p i) (hq:∀i,i < n→b.testBit i=q i) :
  zv (zb (a:Int) &&& ~~~ zb (b:Int)).toNat = ((msk n fun i=>p i && !q i:Nat):Int):=by
 have ha':a < 18446744073709551616:=Nat.lt_of_lt_of_le ha (Nat.pow_le_pow_right (n:=2) (by omega) hn)
 have h1:(zb (a:Int) &&& ~~~ zb (b:Int)).toNat < 18446744073709551616:=BitVec.isLt _
 rw [Yd h1]
 congr 1
 refine Qav ?_ fun i hi=>?_
 ·refine Nat.lt_of_le_of_lt ?_ ha
  rw [BitVec.toNat_and,Jk ha']
  exact Nat.and_le_left
 ·have:i < 64:=by omega
  have e:(zb (a:Int) &&& ~~~ zb (b:Int)).toNat.testBit i=(zb (a:Int) &&& ~~~ zb (b:Int)).getLsbD i:=rfl
  rw [e,BitVec.getLsbD_and,BitVec.getLsbD_not,Qxe ha',Qxe hb,hp i hi,hq i hi]
  have h64:i < IntKind.bits .u64:=this
  simp [h64]
theorem Qzd {n:Nat} {p q:Nat → Bool} {a b:Nat} (hn:n≤64) (ha:a < 2^n) (hb:b < 2^n) (hp:∀i,i < n→a.testBit i=p i) (hq:∀i,i < n→b.testBit i=q i) :
  zv (zb (a:Int) ||| zb (b:Int)).toNat = ((msk n fun i=>p i || q i:Nat):Int):=by
 have h64:2^n≤2^64:=Nat.pow_le_pow_right (n:=2) (by omega) hn
 have ha':a < 18446744073709551616:=Nat.lt_of_lt_of_le ha h64
 have hb':b < 18446744073709551616:=Nat.lt_of_lt_of_le hb h64
 rw [BitVec.toNat_or,Jk ha',Jk hb',Yd (Nat.or_lt_two_pow (n:=64) ha' hb')]
 congr 1
 exact Qav (Nat.or_lt_two_pow ha hb) fun i hi=>by rw [Nat.testBit_or,hp i hi,hq i hi]
theorem Q3h {n:Nat} {p q:Nat → Bool} {a b:Nat} (hn:n≤64) (ha:a < 2^n) (hb:b < 18446744073709551616) (hp:∀i,i < n→a.testBit i=p i) (hq:∀i,i < n→b.testBit i=q i) :
  zv (zb (a:Int) &&& zb (b:Int)).toNat = ((msk n fun i=>p i && q i:Nat):Int):=by
 have h64:2^n≤2^64:=Nat.pow_le_pow_right (n:=2) (by omega) hn
 have ha':a < 18446744073709551616:=Nat.lt_of_lt_of_le ha h64
 have hl:a &&& b≤a:=Nat.and_le_left
 rw [BitVec.toNat_and,Jk ha',Jk hb,Yd (by omega)]
 congr 1
 exact Qav (by omega) fun i hi=>by rw [Nat.testBit_and,hp i hi,hq i hi]
theorem Qpp (v i:Nat):(2^v).testBit i=decide (v=i):=Nat.testBit_two_pow
theorem Qb4 {n:Nat} {p:Nat → Bool}:∀i,i < n→(msk n p).testBit i=p i:=fun i hi=>by rw [Qd4]; simp [hi]
theorem Qz9 {n v:Nat} {p:Nat → Bool} (hn:n≤10) (hv:v < 64):zv (zb ((msk n p:Nat):Int) &&& ~~~ zb (zv (1*2^min (Int.toNat (v:Int)) (IntKind.bits .u64)))).toNat = ((msk n fun i=>p i && !decide (v=i):Nat):Int):=by
 rw [Qyg hv]
 exact Qsp (by omega) (Yf n p) (Qz2 hv) Qb4 fun i _=>Qpp v i
theorem Qf0 {n v:Nat} {p:Nat → Bool} (hn:n≤10) (hv:v < n):zv (zb ((msk n p:Nat):Int) ||| zb (zv (1*2^min (Int.toNat (v:Int)) (IntKind.bits .u64)))).toNat = ((msk n fun i=>p i || decide (v=i):Nat):Int):=by
 rw [Qyg (by omega)]
 exact Qzd (by omega) (Yf n p) (Nat.pow_lt_pow_right (by omega) hv) Qb4 fun i _=>Qpp v i
theorem Qji {a k:Nat} (ha:a < 18446744073709551616) (hk:k < 64) :
  zv (zb (Int.fdiv (a:Int) (2^min (Int.toNat (k:Int)) (IntKind.bits .u64))) &&& zb 1).toNat = ((a.testBit k).toNat : Int):=by
 have hb:IntKind.bits .u64=64:=rfl
 have e0:min (Int.toNat (k:Int)) (IntKind.bits .u64)=k:=by rw [hb,Int.toNat_natCast]; omega
 rw [e0,Qy5]
 have h1:a / 2^k < 18446744073709551616:=Nat.lt_of_le_of_lt (Nat.div_le_self _ _) ha
 have e1:(zb ((a / 2^k:Nat):Int) &&& zb 1).toNat = (a / 2^k) % 2:=by
  rw [BitVec.toNat_and,Jk h1,show (zb 1).toNat = 1 from rfl,Nat.and_one_is_mod]
 rw [e1,Yd (by omega)]
 have e2:a.testBit k=((a / 2^k) % 2==1):=by rw [Nat.testBit_eq_decide_div_mod_eq]; rfl
 rw [e2]
 rcases Nat.mod_two_eq_zero_or_one (a / 2^k) with h | h <;> rw [h] <;> rfl
theorem Q08 (n:Nat):msk n (fun _=>true)=2^n - 1:=(Qav (by have:=Nat.two_pow_pos n; omega) fun i hi=>by rw [Nat.testBit_two_pow_sub_one]; simp [hi]).symm
def cnt:Nat → (Nat → Bool)→Nat
 | 0,_=>0
 | n+1,p=>cnt n p+(p n).toNat
def isS (x:Option Int) (y:Int):Bool:=match x with | some z=>z==y | none=>false
theorem Qxs {x:Option Int} {y:Int} (h:isS x y=true):x=some y:=by
 cases x with
 | none=>cases h
 | some z=>simp only [isS,beq_iff_eq] at h; rw [h]
theorem Qxc {p:Nat → Bool} {n:Nat} (h:(List.range n).all p=true) {k:Nat} (hk:k < n):p k=true:=List.all_eq_true.1 h k (List.mem_range.2 hk)
theorem Q29:((List.range 1024).all fun R=>isS (Zt (R:Int)) (cnt 10 R.testBit:Int))=true:=by kernel_rfl
theorem Qqe {n:Nat} {p q:Nat → Bool} (h:∀i,i < n→p i=q i):cnt n p=cnt n q:=by
 induction n with
 | zero=>rfl
 | succ n ih=>simp only [cnt]; rw [ih fun i hi=>h i (by omega),h n (by omega)]
theorem Quh {n m:Nat} {p:Nat → Bool} (hm:n≤m) (h:∀i,n≤i→i < m→p i=false):cnt m p=cnt n p:=by
 induction m with
 | zero =>
  have:n=0:=by omega
  subst this; rfl
 | succ m ih =>
  by_cases e:n=m+1
  ·subst e; rfl
  ·simp only [cnt]; rw [h m (by omega) (by omega),ih (by omega) fun i h1 h2=>h i h1 (by omega)]; rfl
theorem Q2f {n:Nat} (hn:n≤10) (p:Nat → Bool):Zt ((msk n p:Nat):Int)=some (cnt n p:Int):=by
 have h:=Qxs (Qxc Q29 (Qwn hn (Yf n p)))
 rw [h]
 congr 2
 rw [Quh hn fun i h1 h2=>by rw [Qd4]; simp; omega]
 exact Qqe Qb4
theorem Q19 (n:Nat) (p:Nat → Bool):cnt n p≤n:=by
 induction n with
 | zero=>exact Nat.le_refl _
 | succ n ih =>
  simp only [cnt]; have:(p n).toNat ≤ 1:=by cases p n <;> decide
  omega
theorem Qx0 {n:Nat} {p q:Nat → Bool} (h:∀i,i < n→p i=true→q i=true):cnt n p≤cnt n q:=by
 induction n with
 | zero=>exact Nat.le_refl _
 | succ n ih =>
  simp only [cnt]
  have h1:=ih fun i hi=>h i (by omega)
  have h2:=h n (by omega)
  cases hp:p n with
  | false =>
   have:false.toNat = 0:=rfl
   omega
  | true=>rw [h2 hp]; omega
theorem Q1a {n:Nat} {p:Nat → Bool} {i:Nat} (hi:i < n) (h:p i=true):0 < cnt n p:=by
 induction n with
 | zero=>omega
 | succ n ih =>
  simp only [cnt]
  by_cases e:i=n
  ·subst e; rw [h]; show 0 < _+1; omega
  ·have:=ih (by omega); omega
theorem Q09 {n v:Nat} {p:Nat → Bool} (hv:v < n) (h:p v=true):cnt n (fun i=>p i && !decide (v=i))+1=cnt n p:=by
 induction n with
 | zero=>omega
 | succ n ih =>
  simp only [cnt]
  by_cases e:v=n
  ·subst e
   rw [Qqe (n:=v) (q:=p) fun i hi=>by simp; intro _; omega,h]
   simp
  ·have:=ih (by omega)
   have e2:(p n && !decide (v=n))=p n:=by simp; intro _; exact e
   rw [e2]; omega
abbrev Gr:=Nat → Nat → Bool
def gl (n:Nat) (A:Gr):List Int:=(List.range n).map fun v=>((msk n (A v):Nat):Int)
theorem Zr (n:Nat) (A:Gr):(gl n A).length=n:=by simp [gl]
theorem Qie {n:Nat} {A:Gr} {v:Nat} (hv:v < n):(gl n A)[v]?=some ((msk n (A v):Nat):Int):=by simp [gl,hv]
theorem Qap {n:Nat} {A:Gr} {v:Nat} (hv:v < n):lkI (gl n A) (v:Int)=some ((msk n (A v):Nat):Int):=by
 unfold lkI
 rw [if_neg (by omega),Int.toNat_natCast,Qie hv]
theorem gl_congr {n:Nat} {A B:Gr} (h:∀u w,u < n→w < n→A u w=B u w):gl n A=gl n B:=by
 apply List.ext_getElem?
 intro v
 by_cases hv:v < n
 ·rw [Qie hv,Qie hv,Kc fun w hw=>h v w hv hw]
 ·rw [List.getElem?_eq_none (by rw [Zr]; omega),List.getElem?_eq_none (by rw [Zr]; omega)]
def upd (A:Gr) (v:Nat) (q:Nat → Bool):Gr:=fun u w=>if u=v then q w else A u w
theorem Q2o {A:Gr} {v u:Nat} {q:Nat → Bool} (h:¬ u=v):upd A v q u=A u:=funext fun w=>if_neg h
theorem Q1z {A:Gr} {v:Nat} {q:Nat → Bool}:upd A v q v=q:=funext fun w=>if_pos rfl
theorem Qik {n:Nat} {A:Gr} {v:Nat} (q:Nat → Bool):(gl n A).set (Int.toNat (v:Int)) ((msk n q:Nat):Int)=gl n (upd A v q):=by
 apply List.ext_getElem?
 intro u
 rw [Int.toNat_natCast,List.getElem?_set,Zr]
 by_cases hu:u < n
 ·rw [Qie hu,Qie hu]
  by_cases e:v=u
  ·subst e; simp [hu,Q1z]
  ·rw [if_neg e,Q2o fun h=>e h.symm]
 ·rw [List.getElem?_eq_none (by rw [Zr]; omega),List.getElem?_eq_none (by rw [Zr]; omega)]
  simp [hu]
  intro e; omega
structure Qgc (n:Nat) (A:Gr):Prop where
 sym:∀u w,A u w=A w u
 irr:∀u,A u u=false
 lt:∀u w,A u w=true→u < n
def elim (A:Gr) (v:Nat):Gr:=fun u w=>(A u w || (A v u && A v w && !decide (u=w))) && !decide (u=v) && !decide (w=v)
theorem Qp9 {n:Nat} {A:Gr} (h:Qgc n A) (v:Nat):Qgc n (elim A v):=by
 refine ⟨fun u w=>?_,fun u=>?_,fun u w h1=>?_⟩
 ·unfold elim
  rw [h.sym u w]
  by_cases e:u=w
  ·subst e; rfl
  ·have e2:¬ w=u:=fun h=>e h.symm
   simp only [decide_eq_false e,decide_eq_false e2]
   cases A v u <;> cases A v w <;> cases A w u <;> cases (decide (u=v)) <;> cases (decide (w=v)) <;> rfl
 ·unfold elim; rw [h.irr]; simp
 ·unfold elim at h1
  simp only [Bool.and_eq_true,Bool.or_eq_true] at h1
  rcases h1.1.1 with h2 | h2
  ·exact h.lt _ _ h2
  ·exact h.lt _ v (by rw [h.sym]; exact h2.1.1)
theorem Xr (k:Nat):(0:Int)≤(k:Int):=Int.natCast_nonneg k
theorem Qko {k:Nat} (h:k < 9223372036854775807):zw ((k:Int)+1)=((k+1:Nat):Int):=by rw [w64 (by omega)]; omega
theorem Kk {τ ρ σ:Type} {n k0:Nat} (hk:k0≤n) (hn:n < 1152921504606846976) (mkS:Int→τ→σ) {body:σ→Option (Qh σ ρ)} (I:Nat → τ→Prop) (Q:ρ→Prop)
  (step:∀(k:Nat) (t:τ),k0≤k→k < n→I k t→(∃t',body (mkS (k:Int) t)=some (.next (mkS (zw ((k:Int)+1)) t'))∧I (k+1) t')∨(∃r,body (mkS (k:Int) t)=some (.done r)∧Q r))
  (done:∀t,I n t→∃r,body (mkS (n:Int) t)=some (.done r)∧Q r) (t0:τ) (h0:I k0 t0):∃r,Qa fuel body (mkS (k0:Int) t0)=some r∧Q r:=by
 have key:∀(j N k:Nat) (t:τ),k+j=n→k0≤k→j < N→I k t→∃r,Qa N body (mkS (k:Int) t)=some r∧Q r:=by
  intro j
  induction j with
  | zero =>
   intro N k t e hk hN hI
   obtain ⟨N,rfl⟩:∃M,N=M+1:=⟨N - 1,by omega⟩
   have:k=n:=by omega
   subst this
   obtain ⟨r,b1,b2⟩:=done t hI
   simp only [Qa,b1]
   exact ⟨r,rfl,b2⟩
  | succ j ih =>
   intro N k t e hk hN hI
   obtain ⟨N,rfl⟩:∃M,N=M+1:=⟨N - 1,by omega⟩
   rcases step k t hk (by omega) hI with ⟨t',b1,b2⟩ | ⟨r,b1,b2⟩
   ·rw [Qko (by omega)] at b1
    simp only [Qa,b1]
    exact ih N (k+1) t' (by omega) (by omega) (by omega) b2
   ·simp only [Qa,b1]
    exact ⟨r,rfl,b2⟩
 exact key (n - k0) fuel k0 t0 (by omega) (Nat.le_refl _) (by show n - k0 < 1152921504606846976; omega) h0
theorem Zp {τ ρ σ:Type} {n k0:Nat} (hk:k0≤n) (hn:n < 1152921504606846976) (mkS:Int→τ→σ) {body:σ→Option (Qh σ ρ)} (T:Nat → τ) (r:ρ)
  (step:∀(k:Nat),k0≤k→k < n→body (mkS (k:Int) (T k))=some (.next (mkS (zw ((k:Int)+1)) (T (k+1)))))
  (done:body (mkS (n:Int) (T n))=some (.done r)):Qa fuel body (mkS (k0:Int) (T k0))=some r:=by
 obtain ⟨r',h1,h2⟩:=Kk hk hn mkS (body:=body) (fun k t=>t=T k) (fun x=>x=r) (fun k t a b c=>.inl ⟨T (k+1),by rw [c]; exact step k a b,rfl⟩) (fun t h=>⟨r,by rw [h]; exact done,rfl⟩) (T k0) rfl
 rw [h1,h2]
theorem dlt {k n:Nat} (h:k < n):decide ((k:Int) < (n:Int))=true:=decide_eq_true (by omega)
theorem nlt (n:Nat):¬ (decide ((n:Int) < (n:Int))=true):=by simp
def nI (l:List Nat):List Int:=l.map fun (k:Nat)=>(k:Int)
theorem Qn (l:List Nat):(nI l).length=l.length:=by simp [nI]
theorem Vz {l:List Nat} {k:Nat} (h:k < l.length):lkI (nI l) (k:Int)=some (l[k]:Int):=by rw [Qt (by rwa [Qn])]; simp [nI]
def seqA (A:Gr) (o:List Nat):Gr:=o.foldl elim A
theorem Qp8 (A:Gr) (o:List Nat) (v:Nat):seqA A (o++[v])=elim (seqA A o) v:=by simp [seqA]
theorem Qki {n:Nat}:∀{o:List Nat} {A:Gr},Qgc n A→Qgc n (seqA A o)
 | [],A,h=>h
 | v::o,A,h=>Qki (o:=o) (Qp9 h v)
theorem Qzo {A:Gr} {v u w:Nat} (h:elim A v u w=true):¬ u=v∧¬ w=v:=by unfold elim at h; simp at h; exact ⟨h.1.2,h.2⟩
theorem Qxj {A:Gr} {v x:Nat} (hs:∀w,A x w=false) (u:Nat) (hA:∀u w,A u w=A w u):elim A v x u=false:=by
 unfold elim
 rw [hs,hA v x,hs]; simp
theorem Qms {n:Nat}:∀{o:List Nat} {A:Gr} {x:Nat},Qgc n A→(x∈o∨∀w,A x w=false)→∀w,seqA A o x w=false
 | [],A,x,h,hx,w=>by rcases hx with hx | hx; cases hx; exact hx w
 | v::o,A,x,h,hx,w=>by
  refine Qms (o:=o) (Qp9 h v) ?_ w
  rcases hx with hx | hx
  ·rcases List.mem_cons.1 hx with e | hx
   ·subst e
    right
    intro w
    rw [Bool.eq_false_iff]
    intro h1
    exact (Qzo h1).1 rfl
   ·exact .inl hx
  ·right
   intro w
   exact Qxj hx w h.sym
theorem Q0k {l:List Int} (h:l.length≤1000):Zi l=some l:=by
 cases l with
 | nil=>rfl
 | cons a l=>unfold Zi V8; dsimp only; rw [if_pos (by omega)]
theorem Q3r (a b:Nat):(if (a:Int) > (b:Int) then (a:Int) else (b:Int))=((max b a:Nat):Int):=by split <;> omega
structure Ord (n:Nat) (o:List Nat):Prop where
 len:o.length=n
 lt:∀v∈o,v < n
 nodup:o.Nodup
def okL (n:Nat) (l:List Int):Prop:=(∀x∈l,0≤x∧x < (n:Int))∧l.Nodup
theorem Q2r {n:Nat} {l:List Int} (h:okL n l) (hl:l.length=n):∃o,l=nI o∧Ord n o:=by
 have e:l=nI (l.map Int.toNat):=by
  unfold nI
  rw [List.map_map]
  refine (List.ext_getElem (by simp) fun i h1 h2=>?_)
  have:=h.1 l[i] (List.getElem_mem h1)
  simp; omega
 refine ⟨l.map Int.toNat,e,by simpa using hl,fun v hv=>?_,?_⟩
 ·obtain ⟨x,hx,rfl⟩:=List.mem_map.1 hv
  have:=h.1 x hx; omega
 ·have h2:=h.2
  rw [e] at h2
  unfold nI at h2
  rw [List.Nodup,List.pairwise_map] at h2
  exact h2.imp fun hne he=>hne (by rw [he])
theorem Qt8 (n:Nat):List.replicate n (0:Int)=gl n fun _ _=>false:=by
 apply List.ext_getElem?
 intro v
 by_cases hv:v < n
 ·rw [Qie hv]
  have:msk n (fun _=>false)=0:=(Qav (by have:=Nat.two_pow_pos n; omega) fun i _=>by simp).symm
  rw [this]; simp [hv]
 ·rw [List.getElem?_eq_none (by simp; omega),List.getElem?_eq_none (by rw [Zr]; omega)]
inductive Via (A:Gr) (R:Nat → Bool):Nat → Nat → Prop
 | one {v u:Nat} (h:A v u=true):Via A R v u
 | step {v x u:Nat} (h:A v x=true) (hx:R x=true) (k:Via A R x u):Via A R v u
theorem Via.trans {A:Gr} {R:Nat → Bool} {u v w:Nat} (h:Via A R u v) (hv:R v=true) (k:Via A R v w):Via A R u w:=by
 induction h with
 | one h=>exact .step h hv k
 | step h hx _ ih=>exact .step h hx (ih hv k)
theorem Via.symm {n:Nat} {A:Gr} {R:Nat → Bool} {u v:Nat} (hG:Qgc n A) (h:Via A R u v):Via A R v u:=by
 induction h with
 | one h=>exact .one (by rw [hG.sym]; exact h)
 | step h hx _ ih=>exact ih.trans hx (.one (by rw [hG.sym]; exact h))
theorem Via.mono {A:Gr} {R R':Nat → Bool} {u v:Nat} (h:Via A R u v) (hR:∀x,R x=true→(∃y,A x y=true)→R' x=true):Via A R' u v:=by
 induction h with
 | one h=>exact .one h
 | step h hx k ih =>
  refine .step h (hR _ hx ?_) ih
  cases k with
  | one h=>exact ⟨_,h⟩
  | step h _ _=>exact ⟨_,h⟩
theorem Via.lt {n:Nat} {A:Gr} {R:Nat → Bool} {u v:Nat} (hG:Qgc n A) (h:Via A R u v):u < n∧v < n:=by
 induction h with
 | one h=>exact ⟨hG.lt _ _ h,hG.lt _ _ (by rw [hG.sym]; exact h)⟩
 | step h _ _ ih=>exact ⟨hG.lt _ _ h,ih.2⟩
end Go.Ab
