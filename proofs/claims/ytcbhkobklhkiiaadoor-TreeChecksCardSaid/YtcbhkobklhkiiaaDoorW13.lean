/- What functions compute. No conditions. -/
import Derived.Test.YtcbhkobklhkiiaaDoorProg
import Derived.Test.YtcbhkobklhkiiaaDoorW10
import Derived.KernelRfl
import Derived.Test.YtcbhkobklhkiiaaDoorW11
import Derived.Test.YtcbhkobklhkiiaaDoorW12
import Derived.Test.YtcbhkobklhkiiaaDoorEng8
import Derived.IntWalk
set_option linter.all false
namespace Go.Ab
open Go Go.Proofs
set_option maxRecDepth 100000
set_option maxHeartbeats 4000000
section
attribute [local irreducible] RW WP
theorem Qik (w0_0:Int) (w0_1:(List Tapi_Node)):Hl Tryd.prog (fun x out=>Qdr Tryd.prog Tryd.f14 [[.keep,.lst false]] out=some (.agg [vI x.Grain,eL false eTapi_Node x.Nodes],[])) (atW Tryd.prog Tryd.f14 [true,true,true,true,false,true,false,true] ⟨[(4,.ptr 0 0 0)],[oX false false 2 (.agg [vI w0_0,.ref 1 0 w0_1.length]),oR false 3 eTapi_Node w0_1],323⟩) (Qex w0_0 w0_1):=by
 refine hwk 0 (wl [4] [0,1]) <| hwk 0 (won 0 0 [F eTapi_Node w0_1]) <| hrt 1
theorem Qiq (w1_0:Int) (w1_1:(List Tapi_Node)) (w1_2:Int) (w1_3:Int) (w1_4:(List Int)) (w1_5:(List (List Int))):Hl Tryd.prog (fun x out=>Qdr Tryd.prog Tryd.f14 [[.keep,.lst false]] out=some (.agg [vI x.Grain,eL false eTapi_Node x.Nodes],[])) (atW Tryd.prog Tryd.f14 [true,true,true,true,false,true,false,true] ⟨[(4,.ptr 0 0 0)],[oX false false 2 (.agg [vI w1_0,.ref 1 0 w1_1.length]),.row false false false false 3 (hole eTapi_Node w1_1 w1_2 (.agg [vI w1_3,.ref 2 0 w1_4.length,.ref 3 0 w1_5.length])),oR true 1 eI w1_4,.refs 4 (eF eI w1_5),.fam 1 true (eF eI w1_5)],323⟩) (Qek w1_0 w1_1 w1_2 w1_3 w1_4 w1_5):=by
 refine hbd fun a47 q48=>hwk 0 (Qd2 3 4 (w:=1) (fl:=true) (enc:=eI) (ls:=w1_5) kr kr rfl) <| hwk 0 (wcl 1 [F eI w1_4,F z1 w1_5] (enc:=eTapi_Node) (L:=w1_1) (n:=w1_2) (A:=.agg [vI w1_3,.ref 2 0 w1_4.length,.ref 3 0 w1_5.length]) (bx:=false) (ro:=false) (nr:=false) (fl:=false) (w:=3) q48) <| hkn 0 (fun z49=>⟨[(4,.ptr 0 0 0)],[oX false false 2 (.agg [vI w1_0,.ref 1 0 w1_1.length]),.row false false false false 3 z49,.row false true true true 1 (List.map eI w1_4),.row false true true false 1 (List.map z1 w1_5),.dead],323⟩) (show ((hole eTapi_Node w1_1 w1_2 (.agg [vI w1_3,.ref 2 0 w1_4.length,.ref 3 0 w1_5.length])).set (zt w1_2) (.agg [vI w1_3,z1 w1_4,z2 w1_5]))=List.map eTapi_Node (List.set w1_1 (zt w1_2) (Tapi_Node.mk w1_3 w1_4 w1_5)) from Qcl (enc:=eTapi_Node) (L:=w1_1) (n:=w1_2) (A:=.agg [vI w1_3,.ref 2 0 w1_4.length,.ref 3 0 w1_5.length]) (b:=(Tapi_Node.mk w1_3 w1_4 w1_5))) <| hwk 0 (wk_rowT 1 (enc:=eTapi_Node) (L:=(List.set w1_1 (zt w1_2) (Tapi_Node.mk w1_3 w1_4 w1_5))) (bx:=false) (ro:=false) (nr:=false) (fl:=false) (w:=3) (fun a=>by cases a <;> rfl) kr rfl) <| hkn 0 (fun n50=>⟨[(4,.ptr 0 0 0)],[oX false false 2 (.agg [vI w1_0,.ref 1 0 n50]),oR false 3 eTapi_Node (List.set w1_1 (zt w1_2) (Tapi_Node.mk w1_3 w1_4 w1_5)),.row false true true true 1 (List.map eI w1_4),.row false true true false 1 (List.map z1 w1_5),.dead],323⟩) (ls w1_1 (zt w1_2) (Tapi_Node.mk w1_3 w1_4 w1_5)) <| hwk 0 (wl [4] [0,1]) <| hwk 0 (won 0 0 [F eTapi_Node (List.set w1_1 (zt w1_2) (Tapi_Node.mk w1_3 w1_4 w1_5))]) <| hrt 1
theorem g_ref05_Bend_Of_j3_ok (w3_0:Int) (w3_1:(List Tapi_Node)) (w3_2:Int) (w3_3:Int) (w3_4:(List Int)) (w3_5:(List (List Int))):Hl Tryd.prog (fun x out=>Qdr Tryd.prog Tryd.f14 [[.keep,.lst false]] out=some (.agg [vI x.Grain,eL false eTapi_Node x.Nodes],[])) (atW Tryd.prog Tryd.f14 [true,true,true,true,true,true,true,true,true,true] ⟨[(4,.ptr 0 0 0)],[oX false false 2 (.agg [vI w3_0,.ref 1 0 w3_1.length]),.row false false false false 3 (hole eTapi_Node w3_1 w3_2 (.agg [vI w3_3,.ref 2 0 w3_4.length,.ref 3 0 w3_5.length])),oR true 1 eI w3_4,.refs 4 (eF eI w3_5),.fam 1 true (eF eI w3_5)],323⟩) (Qm w3_0 w3_1 w3_2 w3_3 w3_4 w3_5):=by
 refine hbd fun a58 q59=>hwk 0 (Qd2 3 4 (w:=1) (fl:=true) (enc:=eI) (ls:=w3_5) kr kr rfl) <| hwk 0 (wcl 1 [F eI w3_4,F z1 w3_5] (enc:=eTapi_Node) (L:=w3_1) (n:=w3_2) (A:=.agg [vI w3_3,.ref 2 0 w3_4.length,.ref 3 0 w3_5.length]) (bx:=false) (ro:=false) (nr:=false) (fl:=false) (w:=3) q59) <| hkn 0 (fun z60=>⟨[(4,.ptr 0 0 0)],[oX false false 2 (.agg [vI w3_0,.ref 1 0 w3_1.length]),.row false false false false 3 z60,.row false true true true 1 (List.map eI w3_4),.row false true true false 1 (List.map z1 w3_5),.dead],323⟩) (show ((hole eTapi_Node w3_1 w3_2 (.agg [vI w3_3,.ref 2 0 w3_4.length,.ref 3 0 w3_5.length])).set (zt w3_2) (.agg [vI w3_3,z1 w3_4,z2 w3_5]))=List.map eTapi_Node (List.set w3_1 (zt w3_2) (Tapi_Node.mk w3_3 w3_4 w3_5)) from Qcl (enc:=eTapi_Node) (L:=w3_1) (n:=w3_2) (A:=.agg [vI w3_3,.ref 2 0 w3_4.length,.ref 3 0 w3_5.length]) (b:=(Tapi_Node.mk w3_3 w3_4 w3_5))) <| hwk 0 (wk_rowT 1 (enc:=eTapi_Node) (L:=(List.set w3_1 (zt w3_2) (Tapi_Node.mk w3_3 w3_4 w3_5))) (bx:=false) (ro:=false) (nr:=false) (fl:=false) (w:=3) (fun a=>by cases a <;> rfl) kr rfl) <| hkn 0 (fun n61=>⟨[(4,.ptr 0 0 0)],[oX false false 2 (.agg [vI w3_0,.ref 1 0 n61]),oR false 3 eTapi_Node (List.set w3_1 (zt w3_2) (Tapi_Node.mk w3_3 w3_4 w3_5)),.row false true true true 1 (List.map eI w3_4),.row false true true false 1 (List.map z1 w3_5),.dead],323⟩) (ls w3_1 (zt w3_2) (Tapi_Node.mk w3_3 w3_4 w3_5)) <| hwk 0 (wl [4] [0,1]) <| hwk 0 (won 0 0 [F eTapi_Node (List.set w3_1 (zt w3_2) (Tapi_Node.mk w3_3 w3_4 w3_5))]) <| hrt 1
theorem g_ref05_Bend_Of_j4_ok (w4_0:Int) (w4_1:(List Tapi_Node)) (w4_2:Int) (w4_3:Int) (w4_4:(List (List Int))):Hl Tryd.prog (fun x out=>Qdr Tryd.prog Tryd.f14 [[.keep,.lst false]] out=some (.agg [vI x.Grain,eL false eTapi_Node x.Nodes],[])) (atW Tryd.prog Tryd.f14 [true,true,true,true,true,true,true,true,true,true] ⟨[(4,.ptr 0 0 0)],[oX false false 2 (.agg [vI w4_0,.ref 1 0 w4_1.length]),.row false false false false 3 (hole eTapi_Node w4_1 w4_2 (.agg [vI w4_3,.nils,.ref 2 0 w4_4.length])),.refs 3 (eF eI w4_4),.fam 1 true (eF eI w4_4)],323⟩) (Qa1 w4_0 w4_1 w4_2 w4_3 w4_4):=by
 refine hbd fun a74 q75=>hwk 0 (Qd2 2 3 (w:=1) (fl:=true) (enc:=eI) (ls:=w4_4) kr kr rfl) <| hwk 0 (Qip 1 1 1 true true (enc:=eTapi_Node) (L:=w4_1) (n:=w4_2) (a:=a74) (A:=.agg [vI w4_3,.nils,.ref 2 0 w4_4.length]) (A':=.agg [vI w4_3,.ref 4 0 0,.ref 2 0 w4_4.length]) (y:=.nils) (bx:=false) (nr0:=false) (fl0:=false) (w0:=3) q75 kr kr kr kr rfl) <| hwk 0 (wcl 1 [none,F z1 w4_4] (enc:=eTapi_Node) (L:=w4_1) (n:=w4_2) (A:=.agg [vI w4_3,.ref 4 0 0,.ref 2 0 w4_4.length]) (bx:=false) (ro:=false) (nr:=false) (fl:=false) (w:=3) q75) <| hkn 0 (fun z76=>⟨[(4,.ptr 0 0 0)],[oX false false 2 (.agg [vI w4_0,.ref 1 0 w4_1.length]),.row false false false false 3 z76,.row false true true false 1 (List.map z1 w4_4),.dead,.row false true true true 1 []],323⟩) (show ((hole eTapi_Node w4_1 w4_2 (.agg [vI w4_3,.ref 4 0 0,.ref 2 0 w4_4.length])).set (zt w4_2) (.agg [vI w4_3,.lst true [],z2 w4_4]))=List.map eTapi_Node (List.set w4_1 (zt w4_2) (Tapi_Node.mk w4_3 [] w4_4)) from Qcl (enc:=eTapi_Node) (L:=w4_1) (n:=w4_2) (A:=.agg [vI w4_3,.ref 4 0 0,.ref 2 0 w4_4.length]) (b:=(Tapi_Node.mk w4_3 [] w4_4))) <| hwk 0 (wk_rowT 1 (enc:=eTapi_Node) (L:=(List.set w4_1 (zt w4_2) (Tapi_Node.mk w4_3 [] w4_4))) (bx:=false) (ro:=false) (nr:=false) (fl:=false) (w:=3) (fun a=>by cases a <;> rfl) kr rfl) <| hkn 0 (fun n77=>⟨[(4,.ptr 0 0 0)],[oX false false 2 (.agg [vI w4_0,.ref 1 0 n77]),oR false 3 eTapi_Node (List.set w4_1 (zt w4_2) (Tapi_Node.mk w4_3 [] w4_4)),.row false true true false 1 (List.map z1 w4_4),.dead,.row false true true true 1 []],323⟩) (ls w4_1 (zt w4_2) (Tapi_Node.mk w4_3 [] w4_4)) <| hwk 0 (wl [4] [0,1]) <| hwk 0 (won 0 0 [F eTapi_Node (List.set w4_1 (zt w4_2) (Tapi_Node.mk w4_3 [] w4_4))]) <| ?_
 refine hrt 1
theorem Qiv (w5_0:Int) (w5_1:(List Tapi_Node)):Hl Tryd.prog (fun x out=>Qdr Tryd.prog Tryd.f14 [[.keep,.lst false]] out=some (.agg [vI x.Grain,eL false eTapi_Node x.Nodes],[])) (atW Tryd.prog Tryd.f14 [true,true,true,true,true,true,true,true,true,true] ⟨[(4,.ptr 0 0 0)],[oX false false 2 (.agg [vI w5_0,.ref 1 0 w5_1.length]),oR false 3 eTapi_Node w5_1],323⟩) (Qa6 w5_0 w5_1):=by
 refine hwk 0 (wl [4] [0,1]) <| hwk 0 (won 0 0 [F eTapi_Node w5_1]) <| hrt 1
noncomputable abbrev o56_71 (w2_2 w2_3 w2_4 w2_5:Int):AObj:=oX true true 4 (.agg [.int .u8 w2_2,.int .u8 w2_3,.int .u8 w2_4,vI w2_5])
noncomputable abbrev o56_72 (w2_6:Int) (w2_8:(List Tapi_Node)):AObj:=oX false false 2 (.agg [vI w2_6,.ref 3 0 w2_8.length])
noncomputable abbrev o56_73 (w2_11:(List Int)):AObj:=.row false true true true 1 (List.map eI w2_11)
noncomputable abbrev o56_74 (w2_7:Int):AObj:=oX true false 2 (.agg [vI w2_7,.nils])
noncomputable abbrev Q3q (w2_2:Int):Nat×AV:=(101,.int .u8 (Int.tmod w2_2 12))
noncomputable abbrev s56_76 (w2_9 w2_1 w2_2:Int):List (Nat×AV):=[(2,.ptr 0 0 0),(3,.ptr 1 0 0),(4,.ptr 2 0 0),(10,.ptr 3 (zt w2_9) 0),(11,vI w2_1),(99,.ptr 0 0 0),(100,.int .u8 w2_2),(Q3q w2_2),(111,vB false),(110,vB false),(116,vB false),(115,vB false),(123,vB false),(122,vB false),(136,vB false),(135,vB false),(141,vB false),(140,vB false)]
noncomputable abbrev s56_77 (a0 a1 a2 a3 a4 a5 a6 a7 a8 a9 a10 a11 a12 a13 a14 a15 a16:Nat×AV) (w2_9 w2_1 a143:Int):List (Nat×AV):=[(3,.ptr 0 0 0),(4,.ptr 1 0 0),(10,.ptr 2 (zt w2_9) 0),(11,vI w2_1),a0,a1,a2,a3,(266,vB true),(269,.ptr 2 (zt w2_9) 0),(270,.ptr 2 (zt w2_9) 0),(271,.ptr 2 (zt w2_9) 2),a4,(273,vI w2_1),(274,.ptr 4 (zt w2_1) 0),a5,a6,a7,a8,a9,(279,.ptr 2 (zt w2_9) 0),(280,.ptr 2 (zt w2_9) 0),(281,.ptr 2 (zt w2_9) 2),a10,(283,vI w2_1),(284,.ptr 4 (zt w2_1) 0),a11,a12,(287,.ptr 2 (zt w2_9) 0),(288,.ptr 2 (zt w2_9) 0),(289,.ptr 2 (zt w2_9) 2),a13,(291,vI w2_1),(292,.ptr 4 (zt w2_1) 0),a14,a15,a16,(296,vI a143)]
theorem g_ref05_Bend_Of_j2_ok (w2_0:Nat) (w2_1:Int) (w2_2:Int) (w2_3:Int) (w2_4:Int) (w2_5:Int) (w2_6:Int) (w2_7:Int) (w2_8:(List Tapi_Node)) (w2_9:Int) (w2_10:Int) (w2_11:(List Int)) (w2_12:(List (List Int))):Hl Tryd.prog (fun x out=>Qdr Tryd.prog Tryd.f14 [[.keep,.lst false]] out=some (.agg [vI x.Grain,eL false eTapi_Node x.Nodes],[])) (atW Tryd.prog Tryd.f14 [true,true,true,true,true,true,true,true] ⟨[(2,.ptr 0 0 0),(3,.ptr 1 0 0),(4,.ptr 2 0 0),(10,.ptr 3 (zt w2_9) 0),(11,vI w2_1)],[oX true true 4 (.agg [.int .u8 w2_2,.int .u8 w2_3,.int .u8 w2_4,vI w2_5]),oX false false 2 (.agg [vI w2_6,.ref 3 0 w2_8.length]),oX true false 2 (.agg [vI w2_7,.nils]),.row false false false false 3 (hole eTapi_Node w2_8 w2_9 (.agg [vI w2_10,.ref 4 0 w2_11.length,.ref 5 0 w2_12.length])),oR true 1 eI w2_11,.refs 6 (eF eI w2_12),.fam 1 true (eF eI w2_12)],323⟩) (Vp w2_0 w2_1 w2_2 w2_3 w2_4 w2_5 w2_6 w2_7 w2_8 w2_9 w2_10 w2_11 w2_12):=by
 refine hbr 5 [111,110] (?_) ?_
 ·refine hjn 7 (g_ref05_Bend_Of_j3_ok w2_5 w2_8 w2_9 w2_10 w2_11 w2_12) (wk_gcH (live:=[4]) (keep:=[2,3,4,5,6]) 3 eTapi_Node w2_8 w2_9 (.agg [vI w2_10,.ref 4 0 w2_11.length,.ref 5 0 w2_12.length]) 3 (fun f a=>by cases a <;> rfl) kr kr)
 refine hbr 3 [116,115] (?_) ?_
 ·refine hbd fun a64 q65=>hop 6 (fun _=>Qdb (enc:=eTapi_Node) (L:=w2_8) (n:=w2_9) (a:=a64) (A:=.agg [vI w2_10,.ref 4 0 w2_11.length,.ref 5 0 w2_12.length]) (ob:=3) (w:=3) (A':=.agg [vI w2_5,.ref 4 0 w2_11.length,.ref 5 0 w2_12.length]) (v:=vI w2_5) (c:=0) kr kr q65 kr kr gE kr) <| hjn 2 (g_ref05_Bend_Of_j3_ok w2_6 w2_8 w2_9 w2_5 w2_11 w2_12) (wk_gcH (live:=[4]) (keep:=[2,3,4,5,6]) 3 eTapi_Node w2_8 w2_9 (.agg [vI w2_5,.ref 4 0 w2_11.length,.ref 5 0 w2_12.length]) 3 (fun f a=>by cases a <;> rfl) kr kr)
 refine hbr 3 [123,122] (?_) ?_
 ·refine hbd fun a68 q69=>hop 6 (fun _=>Xo (enc:=eTapi_Node) (L:=w2_8) (n:=w2_9) (a:=a68) (A:=.agg [vI w2_10,.ref 4 0 w2_11.length,.ref 5 0 w2_12.length]) (ob:=3) (w:=3) (c:=1) (ro:=false) (nr:=false) (fl:=false) kr kr q69 gE) <| hop 2 (fun _=>sgL false [] [] true gE) <| hoh 0 (fun _ _ h k=>Zk (enc:=eI) (l:=w2_11) (m:=([w2_5]:(List Int))) (w:=1) (bytes:=8) (ob:=4) (nr:=true) (fl:=true) (nr':=true) (fl':=true) (b:=.ref 7 0 1) (rds:=[7]) false kr kr kr kr gE kr h k) <| hop 2 (fun _=>Qdb (enc:=eTapi_Node) (L:=w2_8) (n:=w2_9) (a:=a68) (A:=.agg [vI w2_10,.ref 4 0 w2_11.length,.ref 5 0 w2_12.length]) (ob:=3) (w:=3) (A':=.agg [vI w2_10,.ref 8 0 ((w2_11++([w2_5]:(List Int))).length),.ref 5 0 w2_12.length]) (v:=.ref 8 0 ((w2_11++([w2_5]:(List Int))).length)) (c:=1) kr kr q69 kr kr gE kr) <| hjn 2 (g_ref05_Bend_Of_j3_ok w2_6 w2_8 w2_9 w2_10 (w2_11++([w2_5]:(List Int))) w2_12) (wk_gcH (live:=[4]) (keep:=[2,3,8,5,6]) 3 eTapi_Node w2_8 w2_9 (.agg [vI w2_10,.ref 8 0 ((w2_11++([w2_5]:(List Int))).length),.ref 5 0 w2_12.length]) 3 (fun f a=>by cases a <;> rfl) kr kr)
 refine hbr 3 [136,135] (?_) ?_
 ·refine hbd fun a72 q73=>hop 4 (fun _=>Qdb (enc:=eTapi_Node) (L:=w2_8) (n:=w2_9) (a:=a72) (A:=.agg [vI w2_10,.ref 4 0 w2_11.length,.ref 5 0 w2_12.length]) (ob:=3) (w:=3) (A':=.agg [vI w2_10,.nils,.ref 5 0 w2_12.length]) (v:=.nils) (c:=1) kr kr q73 kr kr gE kr) <| hjn 2 (g_ref05_Bend_Of_j4_ok w2_6 w2_8 w2_9 w2_10 w2_12) (wk_gcH (live:=[4]) (keep:=[2,3,5,6]) 3 eTapi_Node w2_8 w2_9 (.agg [vI w2_10,.nils,.ref 5 0 w2_12.length]) 3 (fun f a=>by cases a <;> rfl) kr kr)
 refine hbr 3 [141,140] (?_) ?_
 ·refine hbd fun a80 q81=>hop 6 (fun _=>Xo (enc:=eTapi_Node) (L:=w2_8) (n:=w2_9) (a:=a80) (A:=.agg [vI w2_10,.ref 4 0 w2_11.length,.ref 5 0 w2_12.length]) (ob:=3) (w:=3) (c:=2) (ro:=false) (nr:=false) (fl:=false) kr kr q81 gE) <| hop 2 (fun _=>sgL false [] [] true gE) <| hop 0 (fun _=>sg true 1 _ gE rfl) <| hoh 0 (fun _ _ h k=>Qws (enc:=eI) (ls:=w2_12) (q:=([w2_5]:(List Int))) (bytes:=24) (ob:=5) (j:=6) (tm:=8) (m:=7) kr kr kr kr gE kr h k) <| hop 2 (fun _=>Qdb (enc:=eTapi_Node) (L:=w2_8) (n:=w2_9) (a:=a80) (A:=.agg [vI w2_10,.ref 4 0 w2_11.length,.ref 5 0 w2_12.length]) (ob:=3) (w:=3) (A':=.agg [vI w2_10,.ref 4 0 w2_11.length,.ref 9 0 ((w2_12++[([w2_5]:(List Int))]).length)]) (v:=.ref 9 0 ((w2_12++[([w2_5]:(List Int))]).length)) (c:=2) kr kr q81 kr kr gE kr) <| hwk 0 (wk_trans (wk_dead 8 gE) (wk_adoptA 9 6 7 (w:=1) (fl:=true) (enc:=eI) (ls:=w2_12) (b:=([w2_5]:(List Int))) [2,3,4,10,11,99,100,101,111,110,116,115,123,122,136,135,141,140,142,143,144,145,146,147,148,150,151,152,153] kr kr kr (and2 (safeAll_hole 3 3 eTapi_Node w2_8 w2_9 (.agg [vI w2_10,.ref 4 0 w2_11.length,.ref 9 0 ((w2_12++[([w2_5]:(List Int))]).length)]) (fun a=>rfl) kr kr) kr) rfl)) <| hjn 2 (g_ref05_Bend_Of_j3_ok w2_6 w2_8 w2_9 w2_10 w2_11 (w2_12++[([w2_5]:(List Int))])) (wk_gcH (live:=[4]) (keep:=[2,3,4,9,6]) 3 eTapi_Node w2_8 w2_9 (.agg [vI w2_10,.ref 4 0 w2_11.length,.ref 9 0 ((w2_12++[([w2_5]:(List Int))]).length)]) 3 (fun f a=>by cases a <;> rfl) kr kr)
 refine hbr 3 [155,154] (?_) ?_
 ·refine hbr 3 [157] (?_) ?_
  ·refine hwk 1 (Qd2 5 6 (w:=1) (fl:=true) (enc:=eI) (ls:=w2_12) kr kr rfl) <| hbd fun a86 q87=>hop 4 (fun _=>Xo (enc:=eTapi_Node) (L:=w2_8) (n:=w2_9) (a:=a86) (A:=.agg [vI w2_10,.ref 4 0 w2_11.length,.ref 5 0 w2_12.length]) (ob:=3) (w:=3) (c:=2) (ro:=false) (nr:=false) (fl:=false) kr kr q87 gE) <| hoq 1 (fun _ _ h k=>Zz (enc:=z1) (l:=w2_12) (ob:=5) (ro:=false) (nr:=true) (fl:=false) (lo:=none) (hi:=(some (vI w2_1))) (a:=0) (b:=w2_1) (w:=1) kr kr kr kr gE h k) fun q88=>hop 2 (fun _=>Qdb (enc:=eTapi_Node) (L:=w2_8) (n:=w2_9) (a:=a86) (A:=.agg [vI w2_10,.ref 4 0 w2_11.length,.ref 5 0 w2_12.length]) (ob:=3) (w:=3) (A':=.agg [vI w2_10,.ref 4 0 w2_11.length,.ref 5 0 (zt w2_1 - zt (0:Int))]) (v:=.ref 5 0 (zt w2_1 - zt (0:Int))) (c:=2) kr kr q87 kr kr gE kr) <| hwk 2 (wcl 3 [F eI w2_11,Fp z1 w2_12 (a:=0) (b:=w2_1) q88] (enc:=eTapi_Node) (L:=w2_8) (n:=w2_9) (A:=.agg [vI w2_10,.ref 4 0 w2_11.length,.ref 5 0 (zt w2_1 - zt (0:Int))]) (bx:=false) (ro:=false) (nr:=false) (fl:=false) (w:=3) q87) <| hkn 0 (fun z89=>⟨(s56_76 w2_9 w2_1 w2_2)++[(155,vB true),(154,vB true),(156,vI w2_1),(157,vB true),(158,.ptr 3 (zt w2_9) 0),(159,.ptr 3 (zt w2_9) 0),(160,.ptr 3 (zt w2_9) 0),(161,.ptr 3 (zt w2_9) 2),(162,.ref 5 0 w2_12.length),(163,vI w2_1),(164,.ref 5 0 (zt w2_1 - zt (0:Int))),(165,.ptr 3 (zt w2_9) 0),(166,.ptr 3 (zt w2_9) 2),(322,.agg [vI w2_6,.ref 3 0 w2_8.length])],[(o56_71 w2_2 w2_3 w2_4 w2_5),(o56_72 w2_6 w2_8),(o56_72 w2_6 w2_8),.row false false false false 3 z89,(o56_73 w2_11),.row false true true false 1 (List.map z1 w2_12),.dead],323⟩) (show ((hole eTapi_Node w2_8 w2_9 (.agg [vI w2_10,.ref 4 0 w2_11.length,.ref 5 0 (zt w2_1 - zt (0:Int))])).set (zt w2_9) (.agg [vI w2_10,z1 w2_11,z2 (sub w2_12 0 w2_1)]))=List.map eTapi_Node (List.set w2_8 (zt w2_9) (Tapi_Node.mk w2_10 w2_11 (sub w2_12 0 w2_1))) from Qcl (enc:=eTapi_Node) (L:=w2_8) (n:=w2_9) (A:=.agg [vI w2_10,.ref 4 0 w2_11.length,.ref 5 0 (zt w2_1 - zt (0:Int))]) (b:=(Tapi_Node.mk w2_10 w2_11 (sub w2_12 0 w2_1)))) <| hwk 0 (wk_rowT 3 (enc:=eTapi_Node) (L:=(List.set w2_8 (zt w2_9) (Tapi_Node.mk w2_10 w2_11 (sub w2_12 0 w2_1)))) (bx:=false) (ro:=false) (nr:=false) (fl:=false) (w:=3) (fun a=>by cases a <;> rfl) kr rfl) <| hkn 0 (fun n90=>⟨(s56_76 w2_9 w2_1 w2_2)++[(155,vB true),(154,vB true),(156,vI w2_1),(157,vB true),(158,.ptr 3 (zt w2_9) 0),(159,.ptr 3 (zt w2_9) 0),(160,.ptr 3 (zt w2_9) 0),(161,.ptr 3 (zt w2_9) 2),(162,.ref 5 0 w2_12.length),(163,vI w2_1),(164,.ref 5 0 (zt w2_1 - zt (0:Int))),(165,.ptr 3 (zt w2_9) 0),(166,.ptr 3 (zt w2_9) 2),(322,.agg [vI w2_6,.ref 3 0 n90])],[(o56_71 w2_2 w2_3 w2_4 w2_5),oX false false 2 (.agg [vI w2_6,.ref 3 0 n90]),oX false false 2 (.agg [vI w2_6,.ref 3 0 n90]),oR false 3 eTapi_Node (List.set w2_8 (zt w2_9) (Tapi_Node.mk w2_10 w2_11 (sub w2_12 0 w2_1))),(o56_73 w2_11),.row false true true false 1 (List.map z1 w2_12),.dead],323⟩) (ls w2_8 (zt w2_9) (Tapi_Node.mk w2_10 w2_11 (sub w2_12 0 w2_1))) <| ?_
   refine hjn 0 (Qiv w2_6 (List.set w2_8 (zt w2_9) (Tapi_Node.mk w2_10 w2_11 (sub w2_12 0 w2_1)))) (wz [2,3])
  refine hjn 3 (g_ref05_Bend_Of_j3_ok w2_6 w2_8 w2_9 w2_10 w2_11 w2_12) (wk_gcH (live:=[4]) (keep:=[2,3,4,5,6]) 3 eTapi_Node w2_8 w2_9 (.agg [vI w2_10,.ref 4 0 w2_11.length,.ref 5 0 w2_12.length]) 3 (fun f a=>by cases a <;> rfl) kr kr)
 refine hbr 3 [168,167] (?_) ?_
 ·refine hbr 4 [170,171] (?_) ?_
  ·refine hbd fun a95 q96=>hop 3 (fun _=>Xo (enc:=eTapi_Node) (L:=w2_8) (n:=w2_9) (a:=a95) (A:=.agg [vI w2_10,.ref 4 0 w2_11.length,.ref 5 0 w2_12.length]) (ob:=3) (w:=3) (c:=2) (ro:=false) (nr:=false) (fl:=false) kr kr q96 gE) <| hbd fun a97 q98=>hop 1 (fun _=>Qgu (enc:=eI) (ls:=w2_12) (x:=a97) (n:=w2_1) (ob:=5) (j:=6) kr kr q98 gE) <| hop 0 (fun _=>Qeb (enc:=eI) (ls:=w2_12) (x:=a97) (n:=w2_1) (ob:=5) (j:=6) kr kr q98 gE) <| hbr 3 [180,181] (?_) ?_
   ·refine hop 5 (fun _=>Xo (enc:=eTapi_Node) (L:=w2_8) (n:=w2_9) (a:=a95) (A:=.agg [vI w2_10,.ref 4 0 w2_11.length,.ref 5 0 w2_12.length]) (ob:=3) (w:=3) (c:=2) (ro:=false) (nr:=false) (fl:=false) kr kr q96 gE) <| hop 1 (fun _=>Qgu (enc:=eI) (ls:=w2_12) (x:=a97) (n:=w2_1) (ob:=5) (j:=6) kr kr q98 gE) <| hop 0 (fun _=>Qeb (enc:=eI) (ls:=w2_12) (x:=a97) (n:=w2_1) (ob:=5) (j:=6) kr kr q98 gE) <| hbd fun a101 q102=>hop 2 (fun _=>Qpn (enc:=eI) (ls:=w2_12) (x:=a97) (y:=a101) (n:=w2_1) (c:=0) (w:=1) (j:=6) (fl:=true) kr kr q98 q102 kr gE) <| hop 0 (fun _=>Qny (enc:=eI) (ls:=w2_12) (x:=a97) (y:=a101) (y':=w2_5) (n:=w2_1) (m:=0) (w:=1) (j:=6) (q:=5) (c:=0) (fl:=true) (v:=vI w2_5) kr kr kr q98 q102 kr kr kr kr gE) <| hkn 0 (fun n103=>⟨(s56_76 w2_9 w2_1 w2_2)++[(155,vB false),(154,vB false),(168,vB true),(167,vB true),(169,vI w2_1),(170,vB true),(171,vB true),(172,.ptr 3 (zt w2_9) 0),(173,.ptr 3 (zt w2_9) 0),(174,.ptr 3 (zt w2_9) 2),(175,.ref 5 0 n103),(176,vI w2_1),(177,.ptr 5 (zt w2_1) 0),(178,.ref (fid 6 (zt w2_1)) 0 a97.length),(179,vI (zn a97)),(180,vB true),(181,vB true),(182,.ptr 3 (zt w2_9) 0),(183,.ptr 3 (zt w2_9) 0),(184,.ptr 3 (zt w2_9) 2),(185,.ref 5 0 n103),(186,vI w2_1),(187,.ptr 5 (zt w2_1) 0),(188,.ref (fid 6 (zt w2_1)) 0 a97.length),(189,.ptr 0 0 3),(190,vI w2_5),(191,.ptr (fid 6 (zt w2_1)) (zt 0) 0)],[(o56_71 w2_2 w2_3 w2_4 w2_5),(o56_72 w2_6 w2_8),(o56_74 w2_7),.row false false false false 3 (hole eTapi_Node w2_8 w2_9 (.agg [vI w2_10,.ref 4 0 w2_11.length,.ref 5 0 n103])),oR true 1 eI w2_11,.refs 6 (eF eI (List.set w2_12 (zt w2_1) (List.set a97 (zt 0) w2_5))),.fam 1 true (eF eI (List.set w2_12 (zt w2_1) (List.set a97 (zt 0) w2_5)))],323⟩) (ls w2_12 (zt w2_1) (List.set a97 (zt 0) w2_5)) <| hjn 2 (g_ref05_Bend_Of_j3_ok w2_6 w2_8 w2_9 w2_10 w2_11 (List.set w2_12 (zt w2_1) (List.set a97 (zt 0) w2_5))) (wk_gcH (live:=[4]) (keep:=[2,3,4,5,6]) 3 eTapi_Node w2_8 w2_9 (.agg [vI w2_10,.ref 4 0 w2_11.length,.ref 5 0 ((List.set w2_12 (zt w2_1) (List.set a97 (zt 0) w2_5)).length)]) 3 (fun f a=>by cases a <;> rfl) kr kr)
   refine hjn 3 (g_ref05_Bend_Of_j3_ok w2_6 w2_8 w2_9 w2_10 w2_11 w2_12) (wk_gcH (live:=[4]) (keep:=[2,3,4,5,6]) 3 eTapi_Node w2_8 w2_9 (.agg [vI w2_10,.ref 4 0 w2_11.length,.ref 5 0 w2_12.length]) 3 (fun f a=>by cases a <;> rfl) kr kr)
  refine hjn 13 (g_ref05_Bend_Of_j3_ok w2_6 w2_8 w2_9 w2_10 w2_11 w2_12) (wk_gcH (live:=[4]) (keep:=[2,3,4,5,6]) 3 eTapi_Node w2_8 w2_9 (.agg [vI w2_10,.ref 4 0 w2_11.length,.ref 5 0 w2_12.length]) 3 (fun f a=>by cases a <;> rfl) kr kr)
 refine hbr 3 [193,192] (?_) ?_
 ·refine hbr 3 [195] (?_) ?_
  ·refine hbd fun a108 q109=>hwk 1 (Qzu 5 6 (w:=1) (fl:=true) (enc:=eI) (ls:=w2_12) (x:=a108) (n:=w2_1) [2,3,4,10,11,99,100,101,111,110,116,115,123,122,136,135,141,140,155,154,168,167,193,192,194,195] kr kr q109 (Q4o (safeAll_hole 3 3 eTapi_Node w2_8 w2_9 (.agg [vI w2_10,.ref 4 0 w2_11.length,.ref 5 0 w2_12.length]) (fun a=>rfl) kr kr) kr) rfl) <| hkn 0 (fun n110=>⟨(s56_76 w2_9 w2_1 w2_2)++[(155,vB false),(154,vB false),(168,vB false),(167,vB false),(193,vB true),(192,vB true),(194,vI w2_1),(195,vB true)],[(o56_71 w2_2 w2_3 w2_4 w2_5),(o56_72 w2_6 w2_8),(o56_74 w2_7),.row false false false false 3 (hole eTapi_Node w2_8 w2_9 (.agg [vI w2_10,.ref 4 0 w2_11.length,.ref 5 0 n110])),oR true 1 eI w2_11,.row false false false false 1 ((Qz 6 0 (eF eI (List.set w2_12 (zt w2_1) ([]:List Int)))).set (zt w2_1) (.ref 7 0 a108.length)),.fam 1 true (eF eI (List.set w2_12 (zt w2_1) ([]:List Int))),oR true 1 eI a108],323⟩) (ls w2_12 (zt w2_1) ([]:List Int)) <| hbd fun a111 q112=>hop 4 (fun _=>Xo (enc:=eTapi_Node) (L:=w2_8) (n:=w2_9) (a:=a111) (A:=.agg [vI w2_10,.ref 4 0 w2_11.length,.ref 5 0 ((List.set w2_12 (zt w2_1) ([]:List Int)).length)]) (ob:=3) (w:=3) (c:=2) (ro:=false) (nr:=false) (fl:=false) kr kr q112 gE) <| hop 4 (fun _=>Xo (enc:=eTapi_Node) (L:=w2_8) (n:=w2_9) (a:=a111) (A:=.agg [vI w2_10,.ref 4 0 w2_11.length,.ref 5 0 ((List.set w2_12 (zt w2_1) ([]:List Int)).length)]) (ob:=3) (w:=3) (c:=2) (ro:=false) (nr:=false) (fl:=false) kr kr q112 gE) <| hop 1 (fun _=>Q2y (enc:=eI) (ls:=(List.set w2_12 (zt w2_1) ([]:List Int))) (x:=([]:List Int)) (n:=w2_1) (ob:=5) (j:=6) (m:=7) (q:=a108.length) kr kr (lkI_set ([]:List Int) q109) gE) <| hop 0 (fun _=>Q4d (enc:=eI) (ls:=(List.set w2_12 (zt w2_1) ([]:List Int))) (x:=([]:List Int)) (n:=w2_1) (ob:=5) (j:=6) (m:=7) (q:=a108.length) kr kr (lkI_set ([]:List Int) q109) gE) <| hop 0 (fun _=>sgL false [] [] true gE) <| ?_
   refine hoh 0 (fun _ _ h k=>Zk (enc:=eI) (l:=a108) (m:=([0]:(List Int))) (w:=1) (bytes:=8) (ob:=7) (nr:=true) (fl:=true) (nr':=true) (fl':=true) (b:=.ref 8 0 1) (rds:=[8]) false kr kr kr kr gE kr h k) <| hop 0 (fun _=>Q2y (enc:=eI) (ls:=(List.set w2_12 (zt w2_1) ([]:List Int))) (x:=([]:List Int)) (n:=w2_1) (ob:=5) (j:=6) (m:=7) (q:=a108.length) kr kr (lkI_set ([]:List Int) q109) gE) <| hop 0 (fun _=>Q1y (enc:=eI) (ls:=(List.set w2_12 (zt w2_1) ([]:List Int))) (x:=([]:List Int)) (n:=w2_1) (ob:=5) (j:=6) (m0:=7) (q0:=a108.length) (m:=9) (q:=(a108++([0]:(List Int))).length) kr kr (lkI_set ([]:List Int) q109) kr gE kr) <| hwk 0 (wk_trans (wk_adopt 5 6 9 (w:=1) (fl:=true) (enc:=eI) (ls:=(List.set w2_12 (zt w2_1) ([]:List Int))) (x:=([]:List Int)) (b:=(a108++([0]:(List Int)))) (n:=w2_1) [2,3,4,10,11,99,100,101,111,110,116,115,123,122,136,135,141,140,155,154,168,167,193,192,194,195,196,197,198,199,200,201,202,203,204,205,206,207,208,210] kr kr kr (lkI_set ([]:List Int) q109) (and2 (safeAll_hole 3 3 eTapi_Node w2_8 w2_9 (.agg [vI w2_10,.ref 4 0 w2_11.length,.ref 5 0 ((List.set w2_12 (zt w2_1) ([]:List Int)).length)]) (fun a=>rfl) kr kr) kr) rfl) (wkv (fun n113=>⟨(s56_76 w2_9 w2_1 w2_2)++[(155,vB false),(154,vB false),(168,vB false),(167,vB false),(193,vB true),(192,vB true),(194,vI w2_1),(195,vB true),(196,.ptr 3 (zt w2_9) 0),(197,.ptr 3 (zt w2_9) 0),(198,.ptr 3 (zt w2_9) 2),(199,.ref 5 0 n113),(200,vI w2_1),(201,.ptr 3 (zt w2_9) 0),(202,.ptr 3 (zt w2_9) 0),(203,.ptr 3 (zt w2_9) 2),(204,.ref 5 0 n113),(205,vI w2_1),(206,.ptr 5 (zt w2_1) 0),(207,.ref 7 0 a108.length),(208,.ref 8 0 1),(210,.ptr 5 (zt w2_1) 0)],[(o56_71 w2_2 w2_3 w2_4 w2_5),(o56_72 w2_6 w2_8),(o56_74 w2_7),.row false false false false 3 (hole eTapi_Node w2_8 w2_9 (.agg [vI w2_10,.ref 4 0 w2_11.length,.ref 5 0 n113])),oR true 1 eI w2_11,.refs 6 (eF eI (List.set (List.set w2_12 (zt w2_1) ([]:List Int)) (zt w2_1) (a108++([0]:(List Int))))),.fam 1 true (eF eI (List.set (List.set w2_12 (zt w2_1) ([]:List Int)) (zt w2_1) (a108++([0]:(List Int))))),.dead,.row false false true true 1 [vI 0],.dead],323⟩) (ls (List.set w2_12 (zt w2_1) ([]:List Int)) (zt w2_1) (a108++([0]:(List Int)))))) <| hjn 2 (g_ref05_Bend_Of_j3_ok w2_6 w2_8 w2_9 w2_10 w2_11 (List.set (List.set w2_12 (zt w2_1) ([]:List Int)) (zt w2_1) (a108++([0]:(List Int))))) (wk_gcH (live:=[4]) (keep:=[2,3,4,5,6]) 3 eTapi_Node w2_8 w2_9 (.agg [vI w2_10,.ref 4 0 w2_11.length,.ref 5 0 ((List.set (List.set w2_12 (zt w2_1) ([]:List Int)) (zt w2_1) (a108++([0]:(List Int)))).length)]) 3 (fun f a=>by cases a <;> rfl) kr kr)
  refine hjn 3 (g_ref05_Bend_Of_j3_ok w2_6 w2_8 w2_9 w2_10 w2_11 w2_12) (wk_gcH (live:=[4]) (keep:=[2,3,4,5,6]) 3 eTapi_Node w2_8 w2_9 (.agg [vI w2_10,.ref 4 0 w2_11.length,.ref 5 0 w2_12.length]) 3 (fun f a=>by cases a <;> rfl) kr kr)
 refine hbr 3 [212,211] (?_) ?_
 ·refine hbr 4 [214,215] (?_) ?_
  ·refine hbd fun a118 q119=>hop 3 (fun _=>Xo (enc:=eTapi_Node) (L:=w2_8) (n:=w2_9) (a:=a118) (A:=.agg [vI w2_10,.ref 4 0 w2_11.length,.ref 5 0 w2_12.length]) (ob:=3) (w:=3) (c:=2) (ro:=false) (nr:=false) (fl:=false) kr kr q119 gE) <| hbd fun a120 q121=>hop 1 (fun _=>Qgu (enc:=eI) (ls:=w2_12) (x:=a120) (n:=w2_1) (ob:=5) (j:=6) kr kr q121 gE) <| hop 0 (fun _=>Qeb (enc:=eI) (ls:=w2_12) (x:=a120) (n:=w2_1) (ob:=5) (j:=6) kr kr q121 gE) <| hbr 3 [224,225] (?_) ?_
   ·refine hop 5 (fun _=>Xo (enc:=eTapi_Node) (L:=w2_8) (n:=w2_9) (a:=a118) (A:=.agg [vI w2_10,.ref 4 0 w2_11.length,.ref 5 0 w2_12.length]) (ob:=3) (w:=3) (c:=2) (ro:=false) (nr:=false) (fl:=false) kr kr q119 gE) <| hop 4 (fun _=>Xo (enc:=eTapi_Node) (L:=w2_8) (n:=w2_9) (a:=a118) (A:=.agg [vI w2_10,.ref 4 0 w2_11.length,.ref 5 0 w2_12.length]) (ob:=3) (w:=3) (c:=2) (ro:=false) (nr:=false) (fl:=false) kr kr q119 gE) <| hop 1 (fun _=>Qgu (enc:=eI) (ls:=w2_12) (x:=a120) (n:=w2_1) (ob:=5) (j:=6) kr kr q121 gE) <| hop 0 (fun _=>Qeb (enc:=eI) (ls:=w2_12) (x:=a120) (n:=w2_1) (ob:=5) (j:=6) kr kr q121 gE) <| hoh 1 (fun _ _ h k=>mkL (enc:=eI) (z:=(0:Int)) (z0:=vI 0) (n:=(zn a120)) (m:=(zn a120)) (w:=1) (bytes:=8) [] true kr kr gE kr h k) <| hop 0 (fun _=>Qgu (enc:=eI) (ls:=w2_12) (x:=a120) (n:=w2_1) (ob:=5) (j:=6) kr kr q121 gE) <| hop 0 (fun _=>Q2h (enc:=eI) (ls:=w2_12) (x:=a120) (n:=w2_1) (ob:=5) (j:=6) (m:=7) (q:=(List.replicate (zt (zn a120)) (0:Int)).length) kr kr q121 kr gE kr) <| hwk 0 (wk_trans (wk_adopt 5 6 7 (w:=1) (fl:=true) (enc:=eI) (ls:=w2_12) (x:=a120) (b:=(List.replicate (zt (zn a120)) (0:Int))) (n:=w2_1) [2,3,4,10,11,99,100,101,111,110,116,115,123,122,136,135,141,140,155,154,168,167,193,192,212,211,213,214,215,216,217,218,219,220,221,223,224,225,226,227,228,229,230,231,232,233,234,235,236,238,240] kr kr kr q121 (and2 (safeAll_hole 3 3 eTapi_Node w2_8 w2_9 (.agg [vI w2_10,.ref 4 0 w2_11.length,.ref 5 0 w2_12.length]) (fun a=>rfl) kr kr) kr) rfl) (wkv (fun n124=>⟨(s56_76 w2_9 w2_1 w2_2)++[(155,vB false),(154,vB false),(168,vB false),(167,vB false),(193,vB false),(192,vB false),(212,vB true),(211,vB true),(213,vI w2_1),(214,vB true),(215,vB true),(216,.ptr 3 (zt w2_9) 0),(217,.ptr 3 (zt w2_9) 0),(218,.ptr 3 (zt w2_9) 2),(219,.ref 5 0 n124),(220,vI w2_1),(221,.ptr 5 (zt w2_1) 0),(223,vI (zn a120)),(224,vB true),(225,vB true),(226,.ptr 3 (zt w2_9) 0),(227,.ptr 3 (zt w2_9) 0),(228,.ptr 3 (zt w2_9) 2),(229,.ref 5 0 n124),(230,vI w2_1),(231,.ptr 3 (zt w2_9) 0),(232,.ptr 3 (zt w2_9) 0),(233,.ptr 3 (zt w2_9) 2),(234,.ref 5 0 n124),(235,vI w2_1),(236,.ptr 5 (zt w2_1) 0),(238,vI (zn a120)),(240,.ptr 5 (zt w2_1) 0)],[(o56_71 w2_2 w2_3 w2_4 w2_5),(o56_72 w2_6 w2_8),(o56_74 w2_7),.row false false false false 3 (hole eTapi_Node w2_8 w2_9 (.agg [vI w2_10,.ref 4 0 w2_11.length,.ref 5 0 n124])),oR true 1 eI w2_11,.refs 6 (eF eI (List.set w2_12 (zt w2_1) (List.replicate (zt (zn a120)) (0:Int)))),.fam 1 true (eF eI (List.set w2_12 (zt w2_1) (List.replicate (zt (zn a120)) (0:Int)))),.dead],323⟩) (ls w2_12 (zt w2_1) (List.replicate (zt (zn a120)) (0:Int))))) <| hop 4 (fun _=>Xo (enc:=eTapi_Node) (L:=w2_8) (n:=w2_9) (a:=a118) (A:=.agg [vI w2_10,.ref 4 0 w2_11.length,.ref 5 0 ((List.set w2_12 (zt w2_1) (List.replicate (zt (zn a120)) (0:Int))).length)]) (ob:=3) (w:=3) (c:=2) (ro:=false) (nr:=false) (fl:=false) kr kr q119 gE) <| ?_
    refine hop 1 (fun _=>Qgu (enc:=eI) (ls:=(List.set w2_12 (zt w2_1) (List.replicate (zt (zn a120)) (0:Int)))) (x:=(List.replicate (zt (zn a120)) (0:Int))) (n:=w2_1) (ob:=5) (j:=6) kr kr (lkI_set (List.replicate (zt (zn a120)) (0:Int)) q121) gE) <| hop 0 (fun _=>Qeb (enc:=eI) (ls:=(List.set w2_12 (zt w2_1) (List.replicate (zt (zn a120)) (0:Int)))) (x:=(List.replicate (zt (zn a120)) (0:Int))) (n:=w2_1) (ob:=5) (j:=6) kr kr (lkI_set (List.replicate (zt (zn a120)) (0:Int)) q121) gE) <| hbd fun a125 q126=>hop 2 (fun _=>Qpn (enc:=eI) (ls:=(List.set w2_12 (zt w2_1) (List.replicate (zt (zn a120)) (0:Int)))) (x:=(List.replicate (zt (zn a120)) (0:Int))) (y:=a125) (n:=w2_1) (c:=0) (w:=1) (j:=6) (fl:=true) kr kr (lkI_set (List.replicate (zt (zn a120)) (0:Int)) q121) q126 kr gE) <| hop 0 (fun _=>Qny (enc:=eI) (ls:=(List.set w2_12 (zt w2_1) (List.replicate (zt (zn a120)) (0:Int)))) (x:=(List.replicate (zt (zn a120)) (0:Int))) (y:=a125) (y':=w2_6) (n:=w2_1) (m:=0) (w:=1) (j:=6) (q:=5) (c:=0) (fl:=true) (v:=vI w2_6) kr kr kr (lkI_set (List.replicate (zt (zn a120)) (0:Int)) q121) q126 kr kr kr kr gE) <| hkn 0 (fun n127=>⟨(s56_76 w2_9 w2_1 w2_2)++[(155,vB false),(154,vB false),(168,vB false),(167,vB false),(193,vB false),(192,vB false),(212,vB true),(211,vB true),(213,vI w2_1),(214,vB true),(215,vB true),(216,.ptr 3 (zt w2_9) 0),(217,.ptr 3 (zt w2_9) 0),(218,.ptr 3 (zt w2_9) 2),(219,.ref 5 0 n127),(220,vI w2_1),(221,.ptr 5 (zt w2_1) 0),(223,vI (zn a120)),(224,vB true),(225,vB true),(226,.ptr 3 (zt w2_9) 0),(227,.ptr 3 (zt w2_9) 0),(228,.ptr 3 (zt w2_9) 2),(229,.ref 5 0 n127),(230,vI w2_1),(231,.ptr 3 (zt w2_9) 0),(232,.ptr 3 (zt w2_9) 0),(233,.ptr 3 (zt w2_9) 2),(234,.ref 5 0 n127),(235,vI w2_1),(236,.ptr 5 (zt w2_1) 0),(238,vI (zn a120)),(240,.ptr 5 (zt w2_1) 0),(241,.ptr 3 (zt w2_9) 0),(242,.ptr 3 (zt w2_9) 0),(243,.ptr 3 (zt w2_9) 2),(244,.ref 5 0 n127),(245,vI w2_1),(246,.ptr 5 (zt w2_1) 0),(247,.ref (fid 6 (zt w2_1)) 0 ((List.replicate (zt (zn a120)) (0:Int)).length)),(248,.ptr 1 0 0),(249,vI w2_6),(250,.ptr (fid 6 (zt w2_1)) (zt 0) 0)],[(o56_71 w2_2 w2_3 w2_4 w2_5),(o56_72 w2_6 w2_8),(o56_74 w2_7),.row false false false false 3 (hole eTapi_Node w2_8 w2_9 (.agg [vI w2_10,.ref 4 0 w2_11.length,.ref 5 0 n127])),oR true 1 eI w2_11,.refs 6 (eF eI (List.set (List.set w2_12 (zt w2_1) (List.replicate (zt (zn a120)) (0:Int))) (zt w2_1) (List.set (List.replicate (zt (zn a120)) (0:Int)) (zt 0) w2_6))),.fam 1 true (eF eI (List.set (List.set w2_12 (zt w2_1) (List.replicate (zt (zn a120)) (0:Int))) (zt w2_1) (List.set (List.replicate (zt (zn a120)) (0:Int)) (zt 0) w2_6))),.dead],323⟩) (ls (List.set w2_12 (zt w2_1) (List.replicate (zt (zn a120)) (0:Int))) (zt w2_1) (List.set (List.replicate (zt (zn a120)) (0:Int)) (zt 0) w2_6)) <| hjn 2 (g_ref05_Bend_Of_j3_ok w2_6 w2_8 w2_9 w2_10 w2_11 (List.set (List.set w2_12 (zt w2_1) (List.replicate (zt (zn a120)) (0:Int))) (zt w2_1) (List.set (List.replicate (zt (zn a120)) (0:Int)) (zt 0) w2_6))) (wk_gcH (live:=[4]) (keep:=[2,3,4,5,6]) 3 eTapi_Node w2_8 w2_9 (.agg [vI w2_10,.ref 4 0 w2_11.length,.ref 5 0 ((List.set (List.set w2_12 (zt w2_1) (List.replicate (zt (zn a120)) (0:Int))) (zt w2_1) (List.set (List.replicate (zt (zn a120)) (0:Int)) (zt 0) w2_6)).length)]) 3 (fun f a=>by cases a <;> rfl) kr kr)
   refine hjn 3 (g_ref05_Bend_Of_j3_ok w2_6 w2_8 w2_9 w2_10 w2_11 w2_12) (wk_gcH (live:=[4]) (keep:=[2,3,4,5,6]) 3 eTapi_Node w2_8 w2_9 (.agg [vI w2_10,.ref 4 0 w2_11.length,.ref 5 0 w2_12.length]) 3 (fun f a=>by cases a <;> rfl) kr kr)
  refine hjn 13 (g_ref05_Bend_Of_j3_ok w2_6 w2_8 w2_9 w2_10 w2_11 w2_12) (wk_gcH (live:=[4]) (keep:=[2,3,4,5,6]) 3 eTapi_Node w2_8 w2_9 (.agg [vI w2_10,.ref 4 0 w2_11.length,.ref 5 0 w2_12.length]) 3 (fun f a=>by cases a <;> rfl) kr kr)
 refine hbr 3 [252,251] (?_) ?_
 ·refine hbr 3 [254] (?_) ?_
  ·refine hbd fun a132 q133=>hop 5 (fun _=>Xo (enc:=eTapi_Node) (L:=w2_8) (n:=w2_9) (a:=a132) (A:=.agg [vI w2_10,.ref 4 0 w2_11.length,.ref 5 0 w2_12.length]) (ob:=3) (w:=3) (c:=2) (ro:=false) (nr:=false) (fl:=false) kr kr q133 gE) <| hbd fun a134 q135=>hop 1 (fun _=>Qgu (enc:=eI) (ls:=w2_12) (x:=a134) (n:=w2_1) (ob:=5) (j:=6) kr kr q135 gE) <| hop 0 (fun _=>Qeb (enc:=eI) (ls:=w2_12) (x:=a134) (n:=w2_1) (ob:=5) (j:=6) kr kr q135 gE) <| hlp 4 (fun s136=>⟨[(3,.ptr 0 0 0),(4,.ptr 1 0 0),(10,.ptr 2 (zt w2_9) 0),(11,vI w2_1),(12,vI s136.1),(13,vI s136.2.1)],[oX false false 2 (.agg [vI w2_6,.ref 2 0 w2_8.length]),(o56_74 w2_7),.row false false false false 3 (hole eTapi_Node w2_8 w2_9 (.agg [vI w2_10,.ref 3 0 w2_11.length,.ref 4 0 s136.2.2.length])),oR true 1 eI w2_11,.refs 5 (eF eI s136.2.2),.fam 1 true (eF eI s136.2.2)],323⟩) (fun v=>(.exit 5,⟨[(3,.ptr 0 0 0),(4,.ptr 1 0 0)],[oX false false 2 (.agg [vI w2_6,.ref 2 0 w2_8.length]),(o56_74 w2_7),.row false false false false 3 (hole eTapi_Node w2_8 w2_9 (.agg [vI w2_10,.ref 3 0 w2_11.length,.ref 4 0 v.length])),oR true 1 eI w2_11,.refs 5 (eF eI v),.fam 1 true (eF eI v)],323⟩)) (wk_gcH (live:=[3,4,10,11,12,13]) (keep:=[1,2,3,4,5,6]) 3 eTapi_Node w2_8 w2_9 (.agg [vI w2_10,.ref 4 0 w2_11.length,.ref 5 0 w2_12.length]) 3 (fun f a=>by cases a <;> rfl) kr kr) (fun s136=>?_) fun x150=>?_
   ·refine hbr 3 [266] (?_) ?_
    ·refine hop 4 (fun _=>Xo (enc:=eTapi_Node) (L:=w2_8) (n:=w2_9) (a:=a132) (A:=.agg [vI w2_10,.ref 3 0 w2_11.length,.ref 4 0 s136.2.2.length]) (ob:=2) (w:=3) (c:=2) (ro:=false) (nr:=false) (fl:=false) kr kr q133 gE) <| hbd fun a139 q140=>hop 1 (fun _=>Qgu (enc:=eI) (ls:=s136.2.2) (x:=a139) (n:=w2_1) (ob:=4) (j:=5) kr kr q140 gE) <| hop 0 (fun _=>Qeb (enc:=eI) (ls:=s136.2.2) (x:=a139) (n:=w2_1) (ob:=4) (j:=5) kr kr q140 gE) <| hbd fun a141 q142=>hop 1 (fun _=>Qpn (enc:=eI) (ls:=s136.2.2) (x:=a139) (y:=a141) (n:=w2_1) (c:=s136.1) (w:=1) (j:=5) (fl:=true) kr kr q140 q142 kr gE) <| hop 0 (fun _=>Q04 (enc:=eI) (ls:=s136.2.2) (x:=a139) (y:=a141) (n:=w2_1) (m:=s136.1) (w:=1) (j:=5) (c:=0) (fl:=true) kr kr q140 q142 kr gE) <| hop 5 (fun _=>Xo (enc:=eTapi_Node) (L:=w2_8) (n:=w2_9) (a:=a132) (A:=.agg [vI w2_10,.ref 3 0 w2_11.length,.ref 4 0 s136.2.2.length]) (ob:=2) (w:=3) (c:=2) (ro:=false) (nr:=false) (fl:=false) kr kr q133 gE) <| hop 1 (fun _=>Qgu (enc:=eI) (ls:=s136.2.2) (x:=a139) (n:=w2_1) (ob:=4) (j:=5) kr kr q140 gE) <| ?_
     refine hop 0 (fun _=>Qeb (enc:=eI) (ls:=s136.2.2) (x:=a139) (n:=w2_1) (ob:=4) (j:=5) kr kr q140 gE) <| hop 4 (fun _=>Xo (enc:=eTapi_Node) (L:=w2_8) (n:=w2_9) (a:=a132) (A:=.agg [vI w2_10,.ref 3 0 w2_11.length,.ref 4 0 s136.2.2.length]) (ob:=2) (w:=3) (c:=2) (ro:=false) (nr:=false) (fl:=false) kr kr q133 gE) <| hop 1 (fun _=>Qgu (enc:=eI) (ls:=s136.2.2) (x:=a139) (n:=w2_1) (ob:=4) (j:=5) kr kr q140 gE) <| hop 0 (fun _=>Qeb (enc:=eI) (ls:=s136.2.2) (x:=a139) (n:=w2_1) (ob:=4) (j:=5) kr kr q140 gE) <| hbd fun a143 q144=>hop 1 (fun _=>Qpn (enc:=eI) (ls:=s136.2.2) (x:=a139) (y:=a143) (n:=w2_1) (c:=s136.2.1) (w:=1) (j:=5) (fl:=true) kr kr q140 q144 kr gE) <| hop 0 (fun _=>Q04 (enc:=eI) (ls:=s136.2.2) (x:=a139) (y:=a143) (n:=w2_1) (m:=s136.2.1) (w:=1) (j:=5) (c:=0) (fl:=true) kr kr q140 q144 kr gE) <| hop 0 (fun _=>Qpn (enc:=eI) (ls:=s136.2.2) (x:=a139) (y:=a141) (n:=w2_1) (c:=s136.1) (w:=1) (j:=5) (fl:=true) kr kr q140 q142 kr gE) <| hop 0 (fun _=>Qny (enc:=eI) (ls:=s136.2.2) (x:=a139) (y:=a141) (y':=a143) (n:=w2_1) (m:=s136.1) (w:=1) (j:=5) (q:=4) (c:=0) (fl:=true) (v:=vI a143) kr kr kr q140 q142 kr kr kr kr gE) <| ?_
     refine hkn 0 (fun n148=>⟨(s56_77 (12,vI s136.1) (13,vI s136.2.1) (264,vI s136.1) (265,vI s136.2.1) (272,.ref 4 0 n148) (275,.ref (fid 5 (zt w2_1)) 0 a139.length) (276,vI s136.1) (277,.ptr (fid 5 (zt w2_1)) (zt s136.1) 0) (278,vI a141) (14,vI a141) (282,.ref 4 0 n148) (285,.ref (fid 5 (zt w2_1)) 0 a139.length) (286,vI s136.1) (290,.ref 4 0 n148) (293,.ref (fid 5 (zt w2_1)) 0 a139.length) (294,vI s136.2.1) (295,.ptr (fid 5 (zt w2_1)) (zt s136.2.1) 0) w2_9 w2_1 a143)++[(297,.ptr (fid 5 (zt w2_1)) (zt s136.1) 0)],[oX false false 2 (.agg [vI w2_6,.ref 2 0 w2_8.length]),(o56_74 w2_7),.row false false false false 3 (hole eTapi_Node w2_8 w2_9 (.agg [vI w2_10,.ref 3 0 w2_11.length,.ref 4 0 n148])),oR true 1 eI w2_11,.refs 5 (eF eI (List.set s136.2.2 (zt w2_1) (List.set a139 (zt s136.1) a143))),.fam 1 true (eF eI (List.set s136.2.2 (zt w2_1) (List.set a139 (zt s136.1) a143)))],323⟩) (ls s136.2.2 (zt w2_1) (List.set a139 (zt s136.1) a143)) <| hop 3 (fun _=>Xo (enc:=eTapi_Node) (L:=w2_8) (n:=w2_9) (a:=a132) (A:=.agg [vI w2_10,.ref 3 0 w2_11.length,.ref 4 0 ((List.set s136.2.2 (zt w2_1) (List.set a139 (zt s136.1) a143)).length)]) (ob:=2) (w:=3) (c:=2) (ro:=false) (nr:=false) (fl:=false) kr kr q133 gE) <| hop 1 (fun _=>Qgu (enc:=eI) (ls:=(List.set s136.2.2 (zt w2_1) (List.set a139 (zt s136.1) a143))) (x:=(List.set a139 (zt s136.1) a143)) (n:=w2_1) (ob:=4) (j:=5) kr kr (lkI_set (List.set a139 (zt s136.1) a143) q140) gE) <| hop 0 (fun _=>Qeb (enc:=eI) (ls:=(List.set s136.2.2 (zt w2_1) (List.set a139 (zt s136.1) a143))) (x:=(List.set a139 (zt s136.1) a143)) (n:=w2_1) (ob:=4) (j:=5) kr kr (lkI_set (List.set a139 (zt s136.1) a143) q140) gE) <| hbd fun a145 q146=>hop 2 (fun _=>Qpn (enc:=eI) (ls:=(List.set s136.2.2 (zt w2_1) (List.set a139 (zt s136.1) a143))) (x:=(List.set a139 (zt s136.1) a143)) (y:=a145) (n:=w2_1) (c:=s136.2.1) (w:=1) (j:=5) (fl:=true) kr kr (lkI_set (List.set a139 (zt s136.1) a143) q140) q146 kr gE) <| hop 0 (fun _=>Qny (enc:=eI) (ls:=(List.set s136.2.2 (zt w2_1) (List.set a139 (zt s136.1) a143))) (x:=(List.set a139 (zt s136.1) a143)) (y:=a145) (y':=a141) (n:=w2_1) (m:=s136.2.1) (w:=1) (j:=5) (q:=4) (c:=0) (fl:=true) (v:=vI a141) kr kr kr (lkI_set (List.set a139 (zt s136.1) a143) q140) q146 kr kr kr kr gE) <| hkn 0 (fun n147=>⟨(s56_77 (12,vI s136.1) (13,vI s136.2.1) (264,vI s136.1) (265,vI s136.2.1) (272,.ref 4 0 n147) (275,.ref (fid 5 (zt w2_1)) 0 a139.length) (276,vI s136.1) (277,.ptr (fid 5 (zt w2_1)) (zt s136.1) 0) (278,vI a141) (14,vI a141) (282,.ref 4 0 n147) (285,.ref (fid 5 (zt w2_1)) 0 a139.length) (286,vI s136.1) (290,.ref 4 0 n147) (293,.ref (fid 5 (zt w2_1)) 0 a139.length) (294,vI s136.2.1) (295,.ptr (fid 5 (zt w2_1)) (zt s136.2.1) 0) w2_9 w2_1 a143)++[(297,.ptr (fid 5 (zt w2_1)) (zt s136.1) 0),(298,.ptr 2 (zt w2_9) 0),(299,.ptr 2 (zt w2_9) 0),(300,.ptr 2 (zt w2_9) 2),(301,.ref 4 0 n147),(302,vI w2_1),(303,.ptr 4 (zt w2_1) 0),(304,.ref (fid 5 (zt w2_1)) 0 ((List.set a139 (zt s136.1) a143).length)),(305,vI s136.2.1),(306,vI a141),(307,.ptr (fid 5 (zt w2_1)) (zt s136.2.1) 0)],[oX false false 2 (.agg [vI w2_6,.ref 2 0 w2_8.length]),(o56_74 w2_7),.row false false false false 3 (hole eTapi_Node w2_8 w2_9 (.agg [vI w2_10,.ref 3 0 w2_11.length,.ref 4 0 n147])),oR true 1 eI w2_11,.refs 5 (eF eI (List.set (List.set s136.2.2 (zt w2_1) (List.set a139 (zt s136.1) a143)) (zt w2_1) (List.set (List.set a139 (zt s136.1) a143) (zt s136.2.1) a141))),.fam 1 true (eF eI (List.set (List.set s136.2.2 (zt w2_1) (List.set a139 (zt s136.1) a143)) (zt w2_1) (List.set (List.set a139 (zt s136.1) a143) (zt s136.2.1) a141)))],323⟩) (ls (List.set s136.2.2 (zt w2_1) (List.set a139 (zt s136.1) a143)) (zt w2_1) (List.set (List.set a139 (zt s136.1) a143) (zt s136.2.1) a141)) <| hnx 6 (wk_gcH (live:=[3,4,10,11,12,13]) (keep:=[0,1,2,3,4,5]) 2 eTapi_Node w2_8 w2_9 (.agg [vI w2_10,.ref 3 0 w2_11.length,.ref 4 0 ((List.set (List.set s136.2.2 (zt w2_1) (List.set a139 (zt s136.1) a143)) (zt w2_1) (List.set (List.set a139 (zt s136.1) a143) (zt s136.2.1) a141)).length)]) 3 (fun f a=>by cases a <;> rfl) kr kr)
    refine hdx 1 (wk_gcH (live:=[3,4]) (keep:=[0,1,2,3,4,5]) 2 eTapi_Node w2_8 w2_9 (.agg [vI w2_10,.ref 3 0 w2_11.length,.ref 4 0 s136.2.2.length]) 3 (fun f a=>by cases a <;> rfl) kr kr)
   refine hjn 2 (g_ref05_Bend_Of_j3_ok w2_6 w2_8 w2_9 w2_10 w2_11 x150) (wk_gcH (live:=[4]) (keep:=[1,2,3,4,5]) 2 eTapi_Node w2_8 w2_9 (.agg [vI w2_10,.ref 3 0 w2_11.length,.ref 4 0 x150.length]) 3 (fun f a=>by cases a <;> rfl) kr kr)
  refine hjn 3 (g_ref05_Bend_Of_j3_ok w2_6 w2_8 w2_9 w2_10 w2_11 w2_12) (wk_gcH (live:=[4]) (keep:=[2,3,4,5,6]) 3 eTapi_Node w2_8 w2_9 (.agg [vI w2_10,.ref 4 0 w2_11.length,.ref 5 0 w2_12.length]) 3 (fun f a=>by cases a <;> rfl) kr kr)
 refine hbr 3 [311,310] (?_) ?_
 ·refine hop 5 (fun _=>sgL false [] [] true gE) <| hop 0 (fun _=>sg true 1 _ gE rfl) <| hbs 1 [.keep,.lst true,.lst false] false [] <| hbd fun a153 q154=>hoh 0 (fun _ _ h k=>Q3b (enc:=eTapi_Node) (L:=w2_8) (m:=([(Tapi_Node.mk 1 [] [[w2_6]])]:(List Tapi_Node))) (n:=w2_9) (a:=a153) (A0:=.agg [vI w2_10,.ref 4 0 w2_11.length,.ref 5 0 w2_12.length]) (b:=.ref 9 0 1) (w:=3) (bytes:=56) (ob:=3) (fl:=false) (nr':=true) (fl':=false) (rds:=[9]) kr kr q154 kr gE kr h k) <| hjn 4 (g_ref05_Bend_Of_j3_ok w2_6 (w2_8++([(Tapi_Node.mk 1 [] [[w2_6]])]:(List Tapi_Node))) w2_9 w2_10 w2_11 w2_12) (wk_gcH (live:=[4]) (keep:=[2,10,4,5,6]) 10 eTapi_Node (w2_8++([(Tapi_Node.mk 1 [] [[w2_6]])]:(List Tapi_Node))) w2_9 (.agg [vI w2_10,.ref 4 0 w2_11.length,.ref 5 0 w2_12.length]) 3 (fun f a=>by cases a <;> rfl) kr kr)
 refine hbd fun a155 q156=>hwk 1 (Qd2 5 6 (w:=1) (fl:=true) (enc:=eI) (ls:=w2_12) kr kr rfl) <| hwk 0 (wcl 3 [F eI w2_11,F z1 w2_12] (enc:=eTapi_Node) (L:=w2_8) (n:=w2_9) (A:=.agg [vI w2_10,.ref 4 0 w2_11.length,.ref 5 0 w2_12.length]) (bx:=false) (ro:=false) (nr:=false) (fl:=false) (w:=3) q156) <| hkn 0 (fun z157=>⟨(s56_76 w2_9 w2_1 w2_2)++[(155,vB false),(154,vB false),(168,vB false),(167,vB false),(193,vB false),(192,vB false),(212,vB false),(211,vB false),(252,vB false),(251,vB false),(311,vB false),(310,vB false)],[(o56_71 w2_2 w2_3 w2_4 w2_5),(o56_72 w2_6 w2_8),(o56_74 w2_7),.row false false false false 3 z157,(o56_73 w2_11),.row false true true false 1 (List.map z1 w2_12),.dead],323⟩) (show ((hole eTapi_Node w2_8 w2_9 (.agg [vI w2_10,.ref 4 0 w2_11.length,.ref 5 0 w2_12.length])).set (zt w2_9) (.agg [vI w2_10,z1 w2_11,z2 w2_12]))=List.map eTapi_Node (List.set w2_8 (zt w2_9) (Tapi_Node.mk w2_10 w2_11 w2_12)) from Qcl (enc:=eTapi_Node) (L:=w2_8) (n:=w2_9) (A:=.agg [vI w2_10,.ref 4 0 w2_11.length,.ref 5 0 w2_12.length]) (b:=(Tapi_Node.mk w2_10 w2_11 w2_12))) <| hwk 0 (wk_rowT 3 (enc:=eTapi_Node) (L:=(List.set w2_8 (zt w2_9) (Tapi_Node.mk w2_10 w2_11 w2_12))) (bx:=false) (ro:=false) (nr:=false) (fl:=false) (w:=3) (fun a=>by cases a <;> rfl) kr rfl) <| hkn 0 (fun n158=>⟨(s56_76 w2_9 w2_1 w2_2)++[(155,vB false),(154,vB false),(168,vB false),(167,vB false),(193,vB false),(192,vB false),(212,vB false),(211,vB false),(252,vB false),(251,vB false),(311,vB false),(310,vB false)],[(o56_71 w2_2 w2_3 w2_4 w2_5),oX false false 2 (.agg [vI w2_6,.ref 3 0 n158]),(o56_74 w2_7),oR false 3 eTapi_Node (List.set w2_8 (zt w2_9) (Tapi_Node.mk w2_10 w2_11 w2_12)),(o56_73 w2_11),.row false true true false 1 (List.map z1 w2_12),.dead],323⟩) (ls w2_8 (zt w2_9) (Tapi_Node.mk w2_10 w2_11 w2_12)) <| hoq 6 (fun _ _ h k=>Zz (enc:=eTapi_Node) (l:=(List.set w2_8 (zt w2_9) (Tapi_Node.mk w2_10 w2_11 w2_12))) (ob:=3) (ro:=false) (nr:=true) (fl:=false) (lo:=none) (hi:=(some (vI (zw ((((List.set w2_8 (zt w2_9) (Tapi_Node.mk w2_10 w2_11 w2_12)).length):Int) - 1))))) (a:=0) (b:=zw ((((List.set w2_8 (zt w2_9) (Tapi_Node.mk w2_10 w2_11 w2_12)).length):Int) - 1)) (w:=3) kr kr kr kr gE h k) fun q159=>hwk 4 (wl [4] [2,3]) <| hwk 0 (won 0 0 [Fp eTapi_Node (List.set w2_8 (zt w2_9) (Tapi_Node.mk w2_10 w2_11 w2_12)) (a:=0) (b:=zw ((((List.set w2_8 (zt w2_9) (Tapi_Node.mk w2_10 w2_11 w2_12)).length):Int) - 1)) q159]) <| ?_
 refine hrt 1
noncomputable abbrev Qaw (p0:Q8):AObj:=oX true true 4 (.agg [.int .u8 p0.What,.int .u8 p0.At,.int .u8 p0.Row,vI p0.N])
noncomputable abbrev Qb2 (p1:Qd):AObj:=oX true false 2 (.agg [vI p1.Grain,eL false eTapi_Node p1.Nodes])
noncomputable abbrev Qas:AObj:=oX true false 2 (.agg [vI 0,.nils])
noncomputable abbrev Qay:List (Nat×AV):=[(2,.ptr 0 0 0),(3,.ptr 1 0 0),(4,.ptr 2 0 0)]
theorem g_ref05_Bend_Of_ok (p0:Q8) (p1:Qd):Ct Tryd.prog 14 [.agg [.int .u8 p0.What,.int .u8 p0.At,.int .u8 p0.Row,vI p0.N],.agg [vI p1.Grain,eL false eTapi_Node p1.Nodes]] (J5 p0 p1) (fun x=>.agg [vI x.Grain,eL false eTapi_Node x.Nodes]) (fun x=>[]):=by
 refine hfn [[.keep,.lst false]] Tryd.func14 <| hop 1 (fun _=>sgL false [] [] false gE) <| hop 0 (fun _=>sgL false [] [] false gE) <| hst 2 (fun s1=>⟨Qay++[(5,.ref 3 0 s1.2.length),(6,vI s1.1)],[(Qaw p0),(Qb2 p1),Qas,oR false 3 eTapi_Node s1.2],323⟩) (fun v=>(.exit 0,⟨Qay++[(5,.ref 3 0 v.length)],[(Qaw p0),(Qb2 p1),Qas,oR false 3 eTapi_Node v],323⟩)) (wk_trans (wk_gc (live:=[2,3,4,5,6]) (keep:=[0,1,2]) gE) (wk_trans (Yp 5 3 true false gE) (wk_gc (live:=[2,3,4,5,6]) (keep:=[0,1,2,3]) kr))) (fun s1=>?_) (fun y17=>?_) fun x14=>?_
 ·refine hop 3 (fun _=>Ql (enc:=eTapi_Node) (l:=p1.Nodes) (fl:=false) kr gE) <| hbr 1 [19] (?_) ?_
  ·refine hbd fun a4 q5=>hop 4 (fun _=>Qg (enc:=eTapi_Node) (l:=p1.Nodes) (n:=s1.1) (fl:=false) (w:=3) (a:=a4) kr kr gE q5) <| hop 3 (fun _=>sgL false [] [] false gE) <| hop 7 (fun _=>Qg (enc:=eTapi_Node) (l:=p1.Nodes) (n:=s1.1) (fl:=false) (w:=3) (a:=a4) kr kr gE q5) <| hoh 2 (fun _ _ h k=>Kk (enc:=eI) (m:=a4.Parents) (w:=1) (bytes:=8) (nr':=true) (fl':=true) (a:=.nils) (b:=z1 a4.Parents) (rds:=[]) false kr (.inl rfl) (V8 (fun _=>rfl)) kr gE kr h k) <| hlp 3 (fun s6=>⟨Qay++[(5,.ref 3 0 s1.2.length),(6,vI s1.1),(7,.ptr 4 0 0),(8,vI s6.1)],[(Qaw p0),(Qb2 p1),Qas,oR false 3 eTapi_Node s1.2,oX false false 3 (.agg [vI a4.Card,.ref 5 0 a4.Parents.length,.ref 6 0 s6.2.length]),oR true 1 eI a4.Parents,.refs 7 (eF eI s6.2),.fam 1 true (eF eI s6.2)],323⟩) (fun v=>(.exit 2,⟨Qay++[(5,.ref 3 0 s1.2.length),(6,vI s1.1),(7,.ptr 4 0 0)],[(Qaw p0),(Qb2 p1),Qas,oR false 3 eTapi_Node s1.2,oX false false 3 (.agg [vI a4.Card,.ref 5 0 a4.Parents.length,.ref 6 0 v.length]),oR true 1 eI a4.Parents,.refs 7 (eF eI v),.fam 1 true (eF eI v)],323⟩)) (wk_trans (wk_gc (live:=[2,3,4,5,6,7,8]) (keep:=[0,1,2,3,4,5]) gE) (wk_trans (Q3 4 0 2 1 true true gE) (wk_trans (Qsr 6 1 true (nr0:=true) (fl0:=true) (x0:=([]:List Int)) (n:=0) (enc1:=fun _=>AV.nils) eI kr kr kr rfl) (wk_gc (live:=[2,3,4,5,6,7,8]) (keep:=[0,1,2,3,4,5,6,7]) kr)))) (fun s6=>?_) fun x12=>?_
   ·refine hop 4 (fun _=>Qg (enc:=eTapi_Node) (l:=p1.Nodes) (n:=s1.1) (fl:=false) (w:=3) (a:=a4) kr kr gE q5) <| hop 2 (fun _=>Ql (enc:=z1) (l:=a4.Rows) (fl:=false) kr gE) <| hbr 1 [47] (?_) ?_
    ·refine hop 9 (fun _=>Qg (enc:=eTapi_Node) (l:=p1.Nodes) (n:=s1.1) (fl:=false) (w:=3) (a:=a4) kr kr gE q5) <| hbd fun a9 q10=>hop 3 (fun _=>Qg (enc:=z1) (l:=a4.Rows) (n:=s6.1) (fl:=false) (w:=1) (a:=a9) kr kr gE q10) <| hoh 1 (fun _ _ h k=>Kk (enc:=eI) (m:=a9) (w:=1) (bytes:=8) (nr':=true) (fl':=true) (a:=.nils) (b:=z1 a9) (rds:=[]) false kr (.inl rfl) (V8 (fun _=>rfl)) kr gE kr h k) <| hop 0 (fun _=>sg true 1 _ gE rfl) <| hoh 0 (fun _ _ h k=>Qws (enc:=eI) (ls:=s6.2) (q:=a9) (bytes:=24) (ob:=6) (j:=7) (tm:=9) (m:=8) kr kr kr kr gE kr h k) <| hwk 2 (wk_trans (wk_dead 9 gE) (wk_adoptA 10 7 8 (w:=1) (fl:=true) (enc:=eI) (ls:=s6.2) (b:=a9) [2,3,4,5,6,7,8,39,40,41,42,43,44,45,46,47,9,50,51,52,53,54,55,56,57,58,59,60,61,63,64,65] kr kr kr kr rfl)) <| hnx 3 (wz [0,1,2,3,4,5,10,7])
    refine hdx 1 (wz [0,1,2,3,4,5,6,7])
   refine hwk 0 (Qd2 6 7 (w:=1) (fl:=true) (enc:=eI) (ls:=x12) kr kr rfl) <| hbs 2 [.keep,.lst true,.lst false] false [F eI a4.Parents,F z1 x12] <| hoh 0 (fun _ _ h k=>Zk (enc:=eTapi_Node) (l:=s1.2) (m:=([(Tapi_Node.mk a4.Card a4.Parents x12)]:(List Tapi_Node))) (w:=3) (bytes:=56) (ob:=3) (nr:=true) (fl:=false) (nr':=true) (fl':=false) (b:=.ref 8 0 1) (rds:=[8]) false kr kr kr kr gE kr h k) <| hnx 4 (wz [0,1,2,9])
  refine hdx 1 (wz [0,1,2,3])
 ·refine hop 3 (fun _=>Ql (enc:=eTapi_Node) (l:=p1.Nodes) (fl:=false) kr gE) <| hbr 1 [19] (?_) ?_
  ·refine hbd fun a20 q21=>hop 4 (fun _=>Qg (enc:=eTapi_Node) (l:=p1.Nodes) (n:=y17.1) (fl:=false) (w:=3) (a:=a20) kr kr gE q21) <| hop 3 (fun _=>sgL false [] [] false gE) <| hop 7 (fun _=>Qg (enc:=eTapi_Node) (l:=p1.Nodes) (n:=y17.1) (fl:=false) (w:=3) (a:=a20) kr kr gE q21) <| hoh 2 (fun _ _ h k=>Kk (enc:=eI) (m:=a20.Parents) (w:=1) (bytes:=8) (nr':=true) (fl':=true) (a:=.nils) (b:=z1 a20.Parents) (rds:=[]) false kr (.inl rfl) (V8 (fun _=>rfl)) kr gE kr h k) <| hlp 3 (fun s22=>⟨Qay++[(5,.ref 3 0 y17.2.length),(6,vI y17.1),(7,.ptr 4 0 0),(8,vI s22.1)],[(Qaw p0),(Qb2 p1),Qas,oR false 3 eTapi_Node y17.2,oX false false 3 (.agg [vI a20.Card,.ref 5 0 a20.Parents.length,.ref 6 0 s22.2.length]),oR true 1 eI a20.Parents,.refs 7 (eF eI s22.2),.fam 1 true (eF eI s22.2)],323⟩) (fun v=>(.exit 2,⟨Qay++[(5,.ref 3 0 y17.2.length),(6,vI y17.1),(7,.ptr 4 0 0)],[(Qaw p0),(Qb2 p1),Qas,oR false 3 eTapi_Node y17.2,oX false false 3 (.agg [vI a20.Card,.ref 5 0 a20.Parents.length,.ref 6 0 v.length]),oR true 1 eI a20.Parents,.refs 7 (eF eI v),.fam 1 true (eF eI v)],323⟩)) (wk_trans (wk_gc (live:=[2,3,4,5,6,7,8]) (keep:=[0,1,2,3,4,5]) gE) (wk_trans (Q3 4 0 2 1 true true gE) (wk_trans (Qsr 6 1 true (nr0:=true) (fl0:=true) (x0:=([]:List Int)) (n:=0) (enc1:=fun _=>AV.nils) eI kr kr kr rfl) (wk_gc (live:=[2,3,4,5,6,7,8]) (keep:=[0,1,2,3,4,5,6,7]) kr)))) (fun s22=>?_) fun x28=>?_
   ·refine hop 4 (fun _=>Qg (enc:=eTapi_Node) (l:=p1.Nodes) (n:=y17.1) (fl:=false) (w:=3) (a:=a20) kr kr gE q21) <| hop 2 (fun _=>Ql (enc:=z1) (l:=a20.Rows) (fl:=false) kr gE) <| hbr 1 [47] (?_) ?_
    ·refine hop 9 (fun _=>Qg (enc:=eTapi_Node) (l:=p1.Nodes) (n:=y17.1) (fl:=false) (w:=3) (a:=a20) kr kr gE q21) <| hbd fun a25 q26=>hop 3 (fun _=>Qg (enc:=z1) (l:=a20.Rows) (n:=s22.1) (fl:=false) (w:=1) (a:=a25) kr kr gE q26) <| hoh 1 (fun _ _ h k=>Kk (enc:=eI) (m:=a25) (w:=1) (bytes:=8) (nr':=true) (fl':=true) (a:=.nils) (b:=z1 a25) (rds:=[]) false kr (.inl rfl) (V8 (fun _=>rfl)) kr gE kr h k) <| hop 0 (fun _=>sg true 1 _ gE rfl) <| hoh 0 (fun _ _ h k=>Qws (enc:=eI) (ls:=s22.2) (q:=a25) (bytes:=24) (ob:=6) (j:=7) (tm:=9) (m:=8) kr kr kr kr gE kr h k) <| hwk 2 (wk_trans (wk_dead 9 gE) (wk_adoptA 10 7 8 (w:=1) (fl:=true) (enc:=eI) (ls:=s22.2) (b:=a25) [2,3,4,5,6,7,8,39,40,41,42,43,44,45,46,47,9,50,51,52,53,54,55,56,57,58,59,60,61,63,64,65] kr kr kr kr rfl)) <| hnx 3 (wz [0,1,2,3,4,5,10,7])
    refine hdx 1 (wz [0,1,2,3,4,5,6,7])
   refine hop 2 (fun _=>sg true 1 _ gE rfl) <| hoh 0 (fun _ _ h k=>Q4l (enc:=eTapi_Node) (L:=y17.2) (e:=(default:Tapi_Node)) (w:=3) (bytes:=56) (ob:=3) (tm:=8) (nr:=true) (fl:=false) (nr':=false) (fl':=false) (A0:=.agg [vI a20.Card,.ref 5 0 a20.Parents.length,.ref 6 0 x28.length]) kr kr kr gE kr h k) <| hlq 4 (fun s29=>⟨Qay++[(5,.ref 3 0 s29.2.length),(6,vI s29.1)],[(Qaw p0),(Qb2 p1),Qas,.row false false false false 3 (hole eTapi_Node s29.2 (zn y17.2) (.agg [vI a20.Card,.ref 4 0 a20.Parents.length,.ref 5 0 x28.length])),oR true 1 eI a20.Parents,.refs 6 (eF eI x28),.fam 1 true (eF eI x28)],323⟩) (fun v=>(.exit 0,⟨Qay++[(5,.ref 3 0 v.length)],[(Qaw p0),(Qb2 p1),Qas,.row false false false false 3 (hole eTapi_Node v (zn y17.2) (.agg [vI a20.Card,.ref 4 0 a20.Parents.length,.ref 5 0 x28.length])),oR true 1 eI a20.Parents,.refs 6 (eF eI x28),.fam 1 true (eF eI x28)],323⟩)) (wk_gcH (live:=[2,3,4,5,6]) (keep:=[0,1,2,9,5,6,7]) 9 eTapi_Node (y17.2++[(default:Tapi_Node)]) (zn y17.2) (.agg [vI a20.Card,.ref 5 0 a20.Parents.length,.ref 6 0 x28.length]) 3 (fun f a=>by cases a <;> rfl) kr kr) (fun s29=>?_) fun x44=>?_
   ·refine hop 3 (fun _=>Ql (enc:=eTapi_Node) (l:=p1.Nodes) (fl:=false) kr gE) <| hbr 1 [19] (?_) ?_
    ·refine hbd fun a32 q33=>hop 4 (fun _=>Qg (enc:=eTapi_Node) (l:=p1.Nodes) (n:=s29.1) (fl:=false) (w:=3) (a:=a32) kr kr gE q33) <| hop 3 (fun _=>sgL false [] [] false gE) <| hop 7 (fun _=>Qg (enc:=eTapi_Node) (l:=p1.Nodes) (n:=s29.1) (fl:=false) (w:=3) (a:=a32) kr kr gE q33) <| hoh 2 (fun _ _ h k=>Kk (enc:=eI) (m:=a32.Parents) (w:=1) (bytes:=8) (nr':=true) (fl':=true) (a:=.nils) (b:=z1 a32.Parents) (rds:=[]) false kr (.inl rfl) (V8 (fun _=>rfl)) kr gE kr h k) <| hlp 3 (fun s34=>⟨Qay++[(5,.ref 3 0 s29.2.length),(6,vI s29.1),(7,.ptr 4 0 0),(8,vI s34.1)],[(Qaw p0),(Qb2 p1),Qas,.row false false false false 3 (hole eTapi_Node s29.2 (zn y17.2) (.agg [vI a20.Card,.ref 5 0 a20.Parents.length,.ref 6 0 x28.length])),oX false false 3 (.agg [vI a32.Card,.ref 7 0 a32.Parents.length,.ref 8 0 s34.2.length]),oR true 1 eI a20.Parents,.refs 9 (eF eI x28),oR true 1 eI a32.Parents,.refs 10 (eF eI s34.2),.fam 1 true (eF eI x28),.fam 1 true (eF eI s34.2)],323⟩) (fun v=>(.exit 2,⟨Qay++[(5,.ref 3 0 s29.2.length),(6,vI s29.1),(7,.ptr 4 0 0)],[(Qaw p0),(Qb2 p1),Qas,.row false false false false 3 (hole eTapi_Node s29.2 (zn y17.2) (.agg [vI a20.Card,.ref 5 0 a20.Parents.length,.ref 6 0 x28.length])),oX false false 3 (.agg [vI a32.Card,.ref 7 0 a32.Parents.length,.ref 8 0 v.length]),oR true 1 eI a20.Parents,.refs 9 (eF eI x28),oR true 1 eI a32.Parents,.refs 10 (eF eI v),.fam 1 true (eF eI x28),.fam 1 true (eF eI v)],323⟩)) (wk_trans (wk_gcH (live:=[2,3,4,5,6,7,8]) (keep:=[0,1,2,3,7,4,5,8,6]) 3 eTapi_Node s29.2 (zn y17.2) (.agg [vI a20.Card,.ref 4 0 a20.Parents.length,.ref 5 0 x28.length]) 3 (fun f a=>by cases a <;> rfl) kr gE) (wk_trans (Q3 4 0 2 1 true true gE) (wk_trans (Qsr 9 1 true (nr0:=true) (fl0:=true) (x0:=([]:List Int)) (n:=0) (enc1:=fun _=>AV.nils) eI kr kr kr rfl) (wk_gcH (live:=[2,3,4,5,6,7,8]) (keep:=[0,1,2,3,4,5,6,7,9,8,10]) 3 eTapi_Node s29.2 (zn y17.2) (.agg [vI a20.Card,.ref 5 0 a20.Parents.length,.ref 6 0 x28.length]) 3 (fun f a=>by cases a <;> rfl) kr kr)))) (fun s34=>?_) fun x40=>?_
     ·refine hop 4 (fun _=>Qg (enc:=eTapi_Node) (l:=p1.Nodes) (n:=s29.1) (fl:=false) (w:=3) (a:=a32) kr kr gE q33) <| hop 2 (fun _=>Ql (enc:=z1) (l:=a32.Rows) (fl:=false) kr gE) <| hbr 1 [47] (?_) ?_
      ·refine hop 9 (fun _=>Qg (enc:=eTapi_Node) (l:=p1.Nodes) (n:=s29.1) (fl:=false) (w:=3) (a:=a32) kr kr gE q33) <| hbd fun a37 q38=>hop 3 (fun _=>Qg (enc:=z1) (l:=a32.Rows) (n:=s34.1) (fl:=false) (w:=1) (a:=a37) kr kr gE q38) <| hoh 1 (fun _ _ h k=>Kk (enc:=eI) (m:=a37) (w:=1) (bytes:=8) (nr':=true) (fl':=true) (a:=.nils) (b:=z1 a37) (rds:=[]) false kr (.inl rfl) (V8 (fun _=>rfl)) kr gE kr h k) <| hop 0 (fun _=>sg true 1 _ gE rfl) <| hoh 0 (fun _ _ h k=>Qws (enc:=eI) (ls:=s34.2) (q:=a37) (bytes:=24) (ob:=8) (j:=10) (tm:=12) (m:=11) kr kr kr kr gE kr h k) <| hwk 2 (wk_trans (wk_dead 12 gE) (wk_adoptA 13 10 11 (w:=1) (fl:=true) (enc:=eI) (ls:=s34.2) (b:=a37) [2,3,4,5,6,7,8,39,40,41,42,43,44,45,46,47,9,50,51,52,53,54,55,56,57,58,59,60,61,63,64,65] kr kr kr (and2 (safeAll_hole 3 3 eTapi_Node s29.2 (zn y17.2) (.agg [vI a20.Card,.ref 5 0 a20.Parents.length,.ref 6 0 x28.length]) (fun a=>rfl) kr kr) kr) rfl)) <| hnx 3 (wk_gcH (live:=[2,3,4,5,6,7,8]) (keep:=[0,1,2,3,4,5,6,7,13,9,10]) 3 eTapi_Node s29.2 (zn y17.2) (.agg [vI a20.Card,.ref 5 0 a20.Parents.length,.ref 6 0 x28.length]) 3 (fun f a=>by cases a <;> rfl) kr kr)
      refine hdx 1 (wk_gcH (live:=[2,3,4,5,6,7]) (keep:=[0,1,2,3,4,5,6,7,8,9,10]) 3 eTapi_Node s29.2 (zn y17.2) (.agg [vI a20.Card,.ref 5 0 a20.Parents.length,.ref 6 0 x28.length]) 3 (fun f a=>by cases a <;> rfl) kr kr)
     refine hwk 0 (Qd2 8 10 (w:=1) (fl:=true) (enc:=eI) (ls:=x40) kr kr rfl) <| hbs 2 [.keep,.lst true,.lst false] false [F eI a32.Parents,F z1 x40] <| hbd fun a41 q42=>hoh 0 (fun _ _ h k=>Q3b (enc:=eTapi_Node) (L:=s29.2) (m:=([(Tapi_Node.mk a32.Card a32.Parents x40)]:(List Tapi_Node))) (n:=(zn y17.2)) (a:=a41) (A0:=.agg [vI a20.Card,.ref 5 0 a20.Parents.length,.ref 6 0 x28.length]) (b:=.ref 11 0 1) (w:=3) (bytes:=56) (ob:=3) (fl:=false) (nr':=true) (fl':=false) (rds:=[11]) kr kr q42 kr gE kr h k) <| hnx 4 (wk_gcH (live:=[2,3,4,5,6]) (keep:=[0,1,2,12,5,6,9]) 12 eTapi_Node (s29.2++([(Tapi_Node.mk a32.Card a32.Parents x40)]:(List Tapi_Node))) (zn y17.2) (.agg [vI a20.Card,.ref 5 0 a20.Parents.length,.ref 6 0 x28.length]) 3 (fun f a=>by cases a <;> rfl) kr kr)
    refine hdx 1 (wk_gcH (live:=[2,3,4,5]) (keep:=[0,1,2,3,4,5,6]) 3 eTapi_Node s29.2 (zn y17.2) (.agg [vI a20.Card,.ref 4 0 a20.Parents.length,.ref 5 0 x28.length]) 3 (fun f a=>by cases a <;> rfl) kr kr)
   refine hbr 6 [74] (?_) ?_
   ·refine hjn 3 (Qiq p1.Grain x44 (zn y17.2) a20.Card a20.Parents x28) (wk_gcH (live:=[4]) (keep:=[2,3,4,5,6]) 3 eTapi_Node x44 (zn y17.2) (.agg [vI a20.Card,.ref 4 0 a20.Parents.length,.ref 5 0 x28.length]) 3 (fun f a=>by cases a <;> rfl) kr kr)
   refine hoh 7 (fun _ _ h k=>Qag (k:=.i64) (a:=zw (p0.At)) (b:=(zn x44)) kr gE h k) <| hbd fun a51 q52=>hqe 0 (fun n53=>⟨Qay++[(5,.ref 3 0 x44.length),(70,.ref 3 0 x44.length),(71,.ptr 1 0 1),(72,.ref 3 0 x44.length),(73,vI (zn x44)),(74,vB false),(76,.ref 3 0 x44.length),(77,.ptr 0 0 1),(78,.int .u8 p0.At),(79,vI (zw (p0.At))),(80,.ref 3 0 x44.length),(81,vI (zn x44)),(82,vI n53)],[(Qaw p0),oX false false 2 (.agg [vI p1.Grain,.ref 3 0 x44.length]),Qas,.row false false false false 3 (hole eTapi_Node x44 (zn y17.2) (.agg [vI a20.Card,.ref 4 0 a20.Parents.length,.ref 5 0 x28.length])),oR true 1 eI a20.Parents,.refs 6 (eF eI x28),.fam 1 true (eF eI x28)],323⟩) <| hop 0 (fun _=>Qci (enc:=eTapi_Node) (L:=x44) (n:=(zn y17.2)) (a:=a51) (A:=.agg [vI a20.Card,.ref 4 0 a20.Parents.length,.ref 5 0 x28.length]) (ob:=3) (w:=3) (ro:=false) (nr:=false) (fl:=false) kr kr q52 gE) <| hop 5 (fun _=>Xo (enc:=eTapi_Node) (L:=x44) (n:=(zn y17.2)) (a:=a51) (A:=.agg [vI a20.Card,.ref 4 0 a20.Parents.length,.ref 5 0 x28.length]) (ob:=3) (w:=3) (c:=2) (ro:=false) (nr:=false) (fl:=false) kr kr q52 gE) <| hbr 2 [89] (?_) ?_
   ·refine hop 8 (fun _=>Xo (enc:=eTapi_Node) (L:=x44) (n:=(zn y17.2)) (a:=a51) (A:=.agg [vI a20.Card,.ref 4 0 a20.Parents.length,.ref 5 0 x28.length]) (ob:=3) (w:=3) (c:=2) (ro:=false) (nr:=false) (fl:=false) kr kr q52 gE) <| hoh 1 (fun _ _ h k=>Qag (k:=.i64) (a:=zw (p0.Row)) (b:=(zn x28)) kr gE h k) <| hjn 1 (g_ref05_Bend_Of_j2_ok (zt (zn y17.2)) (Int.tmod (zw (p0.Row)) (zn x28)) p0.What p0.At p0.Row p0.N p1.Grain 0 x44 (zn y17.2) a20.Card a20.Parents x28) (wk_gcH (live:=[2,3,4,10,11]) (keep:=[0,1,2,3,4,5,6]) 3 eTapi_Node x44 (zn y17.2) (.agg [vI a20.Card,.ref 4 0 a20.Parents.length,.ref 5 0 x28.length]) 3 (fun f a=>by cases a <;> rfl) kr kr)
   refine hjn 1 (g_ref05_Bend_Of_j2_ok (zt (zn y17.2)) (-1) p0.What p0.At p0.Row p0.N p1.Grain 0 x44 (zn y17.2) a20.Card a20.Parents x28) (wk_gcH (live:=[2,3,4,10,11]) (keep:=[0,1,2,3,4,5,6]) 3 eTapi_Node x44 (zn y17.2) (.agg [vI a20.Card,.ref 4 0 a20.Parents.length,.ref 5 0 x28.length]) 3 (fun f a=>by cases a <;> rfl) kr kr)
  refine hwk 1 (wl [2,3,4,5] [0,1,2,3]) <| hnn
 refine hbr 6 [74] (hjn 3 (Qik p1.Grain x14) (wz [2,3])) <| ?_
 refine hnn
end
section
attribute [local irreducible] RW WP
theorem Qpu (p0:Qc):Ct Tryd.prog 16 [.agg [eL true (AV.int .u64) p0.Cliques,z1 p0.Up,z1 p0.Home]] (Qee p0) (fun x=>.agg [eL true (AV.int .u64) x.Cliques,z1 x.Up,z1 x.Home]) (fun x=>[]):=by
 refine hfn [[.lst true,.lst true,.lst true]] Tryd.func16 <| hop 0 (fun _=>sgL false [] [] false gE) <| hop 0 (fun _=>sgL false [] [] false gE) <| hop 5 (fun _=>Ql (enc:=(AV.int .u64)) (l:=p0.Cliques) (fl:=true) kr gE) <| hoh 1 (fun _ _ h k=>Qrx (enc:=(AV.int .u64)) (l:=p0.Cliques) (fl:=true) (lo:=none) (hi:=(some (vI (if 10 < (zn p0.Cliques) then 10 else (zn p0.Cliques))))) (a:=0) (b:=(if 10 < (zn p0.Cliques) then 10 else (zn p0.Cliques))) (w:=1) kr (fun _=>rfl) kr kr gE h k) <| hop 4 (fun _=>Ql (enc:=eI) (l:=p0.Up) (fl:=true) kr gE) <| hoh 1 (fun _ _ h k=>Qrx (enc:=eI) (l:=p0.Up) (fl:=true) (lo:=none) (hi:=(some (vI (if 10 < (zn p0.Up) then 10 else (zn p0.Up))))) (a:=0) (b:=(if 10 < (zn p0.Up) then 10 else (zn p0.Up))) (w:=1) kr (fun _=>rfl) kr kr gE h k) <| hop 4 (fun _=>Ql (enc:=eI) (l:=p0.Home) (fl:=true) kr gE) <| hoh 1 (fun _ _ h k=>Qrx (enc:=eI) (l:=p0.Home) (fl:=true) (lo:=none) (hi:=(some (vI (if 10 < (zn p0.Home) then 10 else (zn p0.Home))))) (a:=0) (b:=(if 10 < (zn p0.Home) then 10 else (zn p0.Home))) (w:=1) kr (fun _=>rfl) kr kr gE h k) <| ?_
 refine hrt 3
theorem g_ref02_Places_ok (p0:(List Int)) (p1:Int):Ct Tryd.prog 45 [z1 p0,vI p1] (Ki p0 p1) (fun x=>vB x) (fun x=>[]):=by
 refine hfn [] Tryd.func45 <| hlp 2 (fun s1=>⟨[(0,z1 p0),(1,vI p1),(5,vI s1)],[],41⟩) (fun x=>match x with | .inl v=>(.ret,⟨[(4,vB false)],[],41⟩) | .inr v=>(.exit 0,⟨[],[],41⟩)) (wz []) (fun s1=>?_) (hsm (fun x17=>?_) (fun x18=>?_))
 ·refine hop 2 (fun _=>Ql (enc:=eI) (l:=p0) (fl:=true) kr gE) <| hbr 1 [9] (?_) ?_
  ·refine hbd fun a4 q5=>hop 4 (fun _=>Qg (enc:=eI) (l:=p0) (n:=s1) (fl:=true) (w:=1) (a:=a4) kr kr gE q5) <| hbr 3 [16,17] (hdx 25 (wz [])) <| ?_
   refine hop 2 (fun _=>Qg (enc:=eI) (l:=p0) (n:=s1) (fl:=true) (w:=1) (a:=a4) kr kr gE q5) <| hbr 5 [23,24,25] (hdx 17 (wz [])) <| ?_
   refine hbr 3 [27,28] (?_) ?_
   ·refine hop 2 (fun _=>Qg (enc:=eI) (l:=p0) (n:=s1) (fl:=true) (w:=1) (a:=a4) kr kr gE q5) <| hbd fun a12 q13=>hop 4 (fun _=>Qg (enc:=eI) (l:=p0) (n:=zw (s1 - 1)) (fl:=true) (w:=1) (a:=a12) kr kr gE q13) <| hbr 4 [38,39,40] (hdx 2 (wz [])) <| ?_
    refine hnx 4 (wz [])
   refine hnx 16 (wz [])
  refine hdx 1 (wz [])
 ·refine hrt 0
 refine hrt 2
theorem g_ref05_Up_ok (p0:(List Int)) (p1:Int):Ct Tryd.prog 70 [eL true (AV.int .u64) p0,.int .u64 p1] (Qff p0 p1) (fun x=>.int .u64 x) (fun x=>[]):=by
 refine hfn [] Tryd.func70 <| hlp 2 (fun s1=>⟨[(0,eL true (AV.int .u64) p0),(1,.int .u64 s1.1),(5,vI s1.2)],[],29⟩) (fun v=>(.exit 0,⟨[(1,.int .u64 v)],[],29⟩)) (wz []) (fun s1=>?_) fun x16=>?_
 ·refine hop 2 (fun _=>Ql (enc:=(AV.int .u64)) (l:=p0) (fl:=true) kr gE) <| hbr 1 [10] (?_) ?_
  ·refine hlp 2 (fun s4=>⟨[(0,eL true (AV.int .u64) p0),(1,.int .u64 s4.1),(5,vI s1.2),(6,vI s4.2)],[],29⟩) (fun v=>(.exit 2,⟨[(0,eL true (AV.int .u64) p0),(1,.int .u64 v),(5,vI s1.2)],[],29⟩)) (wz []) (fun s4=>?_) fun x14=>?_
   ·refine hop 2 (fun _=>Ql (enc:=(AV.int .u64)) (l:=p0) (fl:=true) kr gE) <| hbr 1 [16] (?_) ?_
    ·refine hcl 3 [] (g_ref05_In_ok s4.1 s4.2) fun x7 _=>hbr 0 [21] (hbd fun a11 q12=>hop 4 (fun _=>Qg (enc:=(AV.int .u64)) (l:=p0) (n:=s4.2) (fl:=true) (w:=1) (a:=a11) kr kr gE q12) <| hnx 6 (wz [])) <| ?_
     refine hnx 4 (wz [])
    refine hdx 1 (wz [])
   refine hnx 3 (wz [])
  refine hdx 1 (wz [])
 refine hrt 3
theorem Qlz (p0:(List Int)):Ct Tryd.prog 46 [eL true (AV.int .u64) p0] (Js p0) (fun x=>vB x) (fun x=>[]):=by
 refine hfn [] Tryd.func46 <| hlp 2 (fun s1=>⟨[(0,eL true (AV.int .u64) p0),(3,vI s1)],[],18⟩) (fun x=>match x with | .inl v=>(.ret,⟨[(2,vB false)],[],18⟩) | .inr v=>(.exit 0,⟨[],[],18⟩)) (wz []) (fun s1=>?_) (hsm (fun x13=>?_) (fun x14=>?_))
 ·refine hop 2 (fun _=>Ql (enc:=(AV.int .u64)) (l:=p0) (fl:=true) kr gE) <| hbr 1 [7] (?_) ?_
  ·refine hbd fun a4 q5=>hop 4 (fun _=>Qg (enc:=(AV.int .u64)) (l:=p0) (n:=s1) (fl:=true) (w:=1) (a:=a4) kr kr gE q5) <| hcl 1 [] (g_ref05_Up_ok p0 a4) fun x6 _=>hcl 1 [] (g_ref05_In_ok x6 s1) fun x8 _=>hbr 0 [17] (hdx 2 (wz [])) <| ?_
   refine hnx 4 (wz [])
  refine hdx 1 (wz [])
 ·refine hrt 0
 refine hrt 2
noncomputable abbrev o62_82 (p0:Qd):AObj:=oX true false 2 (.agg [vI p0.Grain,eL false eTapi_Node p0.Nodes])
noncomputable abbrev o62_83 (a36:Tapi_Node):AObj:=oX true false 3 (.agg [vI a36.Card,z1 a36.Parents,z2 a36.Rows])
theorem g_ref05_Right_ok (p0:Qd):Ct Tryd.prog 23 [.agg [vI p0.Grain,eL false eTapi_Node p0.Nodes]] (K3 p0) (fun x=>vB x) (fun x=>[]):=by
 refine hfn [] Tryd.func23 <| hop 0 (fun _=>sgL false [] [] false gE) <| hbr 5 [13,14] (hrt 19) <| ?_
 refine hbr 5 [17,18,19] (hrt 14) <| ?_
 refine hop 2 (fun _=>Ql (enc:=eTapi_Node) (l:=p0.Nodes) (fl:=false) kr gE) <| hbr 3 [23,24,25] (hrt 8) <| ?_
 refine hop 2 (fun _=>Ql (enc:=eTapi_Node) (l:=p0.Nodes) (fl:=false) kr gE) <| hbr 2 [29,30] (hrt 3) <| ?_
 refine hlp 3 (fun s9=>⟨[(1,.ptr 0 0 0),(3,vI s9.1),(4,vI s9.2)],[(o62_82 p0)],154⟩) (fun x=>match x with | .inl v=>(.ret,⟨[(2,vB false)],[],154⟩) | .inr v=>(.exit 0,⟨[(1,.ptr 0 0 0),(3,vI v)],[(o62_82 p0)],154⟩)) (wz [0]) (fun s9=>?_) (hsm (fun x23=>?_) (fun x24=>?_))
 ·refine hop 3 (fun _=>Ql (enc:=eTapi_Node) (l:=p0.Nodes) (fl:=false) kr gE) <| hbr 1 [35] (?_) ?_
  ·refine hbd fun a12 q13=>hop 4 (fun _=>Qg (enc:=eTapi_Node) (l:=p0.Nodes) (n:=s9.2) (fl:=false) (w:=3) (a:=a12) kr kr gE q13) <| hop 1 (fun _=>sgL false [] [] false gE) <| hbr 5 [45,46] (hdx 15 (wz [])) <| ?_
   refine hbr 5 [49,50,51] (hdx 10 (wz [])) <| ?_
   refine hop 4 (fun _=>Ql (enc:=eTapi_Node) (l:=p0.Nodes) (fl:=false) kr gE) <| hcl 0 [] (g_ref02_Places_ok a12.Parents (zn p0.Nodes)) fun x18 _=>hbr 2 [58,59] (hdx 2 (wz [])) <| ?_
   refine hnx 9 (wz [0])
  refine hdx 1 (wz [0])
 ·refine hrt 0
 refine hbr 3 [65,66] (hrt 8) <| ?_
 refine hcl 1 [] (g_ref05_ParentSets_ok p0) fun x27 _=>hcl 0 [F (AV.int .u64) x27] (Qlz x27) fun x29 _=>hbr 2 [70,71] (hrt 3) <| ?_
 refine hlp 2 (fun s33=>⟨[(1,.ptr 0 0 0),(6,vI s33)],[(o62_82 p0)],154⟩) (fun x=>match x with | .inl v=>(.ret,⟨[(2,vB false)],[],154⟩) | .inr v=>(.exit 2,⟨[],[],154⟩)) (wz [0]) (fun s33=>?_) (hsm (fun x69=>?_) (fun x70=>?_))
 ·refine hop 3 (fun _=>Ql (enc:=eTapi_Node) (l:=p0.Nodes) (fl:=false) kr gE) <| hbr 1 [76] (?_) ?_
  ·refine hbd fun a36 q37=>hop 4 (fun _=>Qg (enc:=eTapi_Node) (l:=p0.Nodes) (n:=s33) (fl:=false) (w:=3) (a:=a36) kr kr gE q37) <| hop 1 (fun _=>sgL false [] [] false gE) <| hop 4 (fun _=>Ql (enc:=z1) (l:=a36.Rows) (fl:=false) kr gE) <| hcl 2 [] (us:=[.agg [vI p0.Grain,eL false eTapi_Node p0.Nodes],vI s33]) (rv:=fun x38=>z1 x38) (ro:=fun x38=>[]) (fun x38 q39=>Qy.froz (Kc p0 s33 x38 q39) (Zl (w:=1) (bx:=false) (ro:=false) (enc:=eI) (l:=x38) (fl:=true) rfl)) fun x38 _=>hcl 0 [] (Qc5 x38) fun x40 _=>hbr 1 [91] (hdx 2 (wz [])) <| ?_
   refine hlp 2 (fun s44=>⟨[(1,.ptr 0 0 0),(6,vI s33),(7,.ptr 1 0 0),(8,vI s44)],[(o62_82 p0),(o62_83 a36)],154⟩) (fun x=>match x with | .inl v=>(.ret,⟨[(2,vB false)],[],154⟩) | .inr v=>(.exit 4,⟨[(1,.ptr 0 0 0),(6,vI s33)],[(o62_82 p0)],154⟩)) (wz [0,1]) (fun s44=>?_) (hsm (fun x66=>?_) (fun x67=>?_))
   ·refine hop 3 (fun _=>Ql (enc:=z1) (l:=a36.Rows) (fl:=false) kr gE) <| hbr 1 [96] (?_) ?_
    ·refine hbd fun a47 q48=>hop 5 (fun _=>Qg (enc:=z1) (l:=a36.Rows) (n:=s44) (fl:=false) (w:=1) (a:=a47) kr kr gE q48) <| hop 1 (fun _=>Ql (enc:=eI) (l:=a47) (fl:=true) kr gE) <| hbr 3 [107] (hdx 2 (wz [])) <| ?_
     refine hlp 3 (fun s51=>⟨[(1,.ptr 0 0 0),(6,vI s33),(7,.ptr 1 0 0),(8,vI s44),(9,vI s51.1),(10,vI s51.2)],[(o62_82 p0),(o62_83 a36)],154⟩) (fun x=>match x with | .inl v=>(.ret,⟨[(2,vB false)],[],154⟩) | .inr v=>(.exit 6,⟨[(1,.ptr 0 0 0),(6,vI s33),(7,.ptr 1 0 0),(8,vI s44),(9,vI v)],[(o62_82 p0),(o62_83 a36)],154⟩)) (wz [0,1]) (fun s51=>?_) (hsm (fun x61=>?_) (fun x62=>?_))
     ·refine hop 4 (fun _=>Qg (enc:=z1) (l:=a36.Rows) (n:=s44) (fl:=false) (w:=1) (a:=a47) kr kr gE q48) <| hop 1 (fun _=>Ql (enc:=eI) (l:=a47) (fl:=true) kr gE) <| hbr 1 [115] (?_) ?_
      ·refine hop 5 (fun _=>Qg (enc:=z1) (l:=a36.Rows) (n:=s44) (fl:=false) (w:=1) (a:=a47) kr kr gE q48) <| hbd fun a54 q55=>hop 2 (fun _=>Qg (enc:=eI) (l:=a47) (n:=s51.2) (fl:=true) (w:=1) (a:=a54) kr kr gE q55) <| hbr 3 [126,127] (hdx 14 (wz [])) <| ?_
       refine hop 3 (fun _=>Qg (enc:=z1) (l:=a36.Rows) (n:=s44) (fl:=false) (w:=1) (a:=a47) kr kr gE q48) <| hop 2 (fun _=>Qg (enc:=eI) (l:=a47) (n:=s51.2) (fl:=true) (w:=1) (a:=a54) kr kr gE q55) <| hbr 5 [138,139] (hdx 2 (wz [])) <| ?_
       refine hop 5 (fun _=>Qg (enc:=z1) (l:=a36.Rows) (n:=s44) (fl:=false) (w:=1) (a:=a47) kr kr gE q48) <| hop 2 (fun _=>Qg (enc:=eI) (l:=a47) (n:=s51.2) (fl:=true) (w:=1) (a:=a54) kr kr gE q55) <| hnx 6 (wz [0,1])
      refine hdx 1 (wz [0,1])
     ·refine hdn 0
     refine hbr 4 [153] (hdx 2 (wz [])) <| ?_
     refine hnx 4 (wz [0,1])
    refine hdx 1 (wz [0])
   ·refine hdn 0
   refine hnx 3 (wz [0])
  refine hdx 1 (wz [])
 ·refine hrt 0
 refine hrt 2
noncomputable abbrev o63_84 (p0:Qd):AObj:=oX true false 2 (.agg [vI p0.Grain,eL false eTapi_Node p0.Nodes])
noncomputable abbrev o63_85 (p1:Qc):AObj:=oX true false 3 (.agg [eL true (AV.int .u64) p1.Cliques,z1 p1.Up,z1 p1.Home])
noncomputable abbrev s63_86 (p1:Qc):List (Nat×AV):=[(2,.ptr 0 0 0),(3,.ptr 1 0 0),(5,vI (zn p1.Cliques))]
theorem Qnj (p0:Qd) (p1:Qc):Ct Tryd.prog 29 [.agg [vI p0.Grain,eL false eTapi_Node p0.Nodes],.agg [eL true (AV.int .u64) p1.Cliques,z1 p1.Up,z1 p1.Home]] (K5 p0 p1) (fun x=>vB x) (fun x=>[]):=by
 refine hfn [] Tryd.func29 <| hop 0 (fun _=>sgL false [] [] false gE) <| hop 0 (fun _=>sgL false [] [] false gE) <| hop 3 (fun _=>Ql (enc:=(AV.int .u64)) (l:=p1.Cliques) (fl:=true) kr gE) <| hbr 4 [13,14] (hrt 29) <| ?_
 refine hbr 4 [16,17,18] (hrt 25) <| ?_
 refine hop 2 (fun _=>Ql (enc:=eI) (l:=p1.Up) (fl:=true) kr gE) <| hbr 4 [23,24,25] (hrt 18) <| ?_
 refine hop 2 (fun _=>Ql (enc:=eI) (l:=p1.Home) (fl:=true) kr gE) <| hop 2 (fun _=>Ql (enc:=eTapi_Node) (l:=p0.Nodes) (fl:=false) kr gE) <| hbr 3 [32,33,34] (hrt 9) <| ?_
 refine hbd fun a9 q10=>hop 2 (fun _=>Qg (enc:=eI) (l:=p1.Up) (n:=0) (fl:=true) (w:=1) (a:=a9) kr kr gE q10) <| hbr 3 [39,40] (hrt 3) <| ?_
 refine hlp 2 (fun s13=>⟨(s63_86 p1)++[(6,vI s13)],[(o63_84 p0),(o63_85 p1)],149⟩) (fun x=>match x with | .inl v=>(.ret,⟨[(4,vB false)],[],149⟩) | .inr v=>(.exit 0,⟨(s63_86 p1),[(o63_84 p0),(o63_85 p1)],149⟩)) (wz [0,1]) (fun s13=>?_) (hsm (fun x57=>?_) (fun x58=>?_))
 ·refine hbr 3 [43] (?_) ?_
  ·refine hbd fun a16 q17=>hop 5 (fun _=>Qg (enc:=(AV.int .u64)) (l:=p1.Cliques) (n:=s13) (fl:=true) (w:=1) (a:=a16) kr kr gE q17) <| hbr 3 [51,52] (hdx 14 (wz [])) <| ?_
   refine hop 3 (fun _=>Qg (enc:=(AV.int .u64)) (l:=p1.Cliques) (n:=s13) (fl:=true) (w:=1) (a:=a16) kr kr gE q17) <| hop 3 (fun _=>Ql (enc:=eTapi_Node) (l:=p0.Nodes) (fl:=false) kr gE) <| hoh 1 (fun _ _ h k=>Yx (k:=.u64) (k':=.u64) (a:=1) (b:=zv ((zn p0.Nodes))) kr gE h k) <| hbr 2 [63,64] (hdx 2 (wz [])) <| ?_
   refine hbr 4 [66,67] (?_) ?_
   ·refine hbd fun a24 q25=>hop 3 (fun _=>Qg (enc:=eI) (l:=p1.Up) (n:=s13) (fl:=true) (w:=1) (a:=a24) kr kr gE q25) <| hbr 3 [73,74] (hdx 11 (wz [])) <| ?_
    refine hop 3 (fun _=>Qg (enc:=eI) (l:=p1.Up) (n:=s13) (fl:=true) (w:=1) (a:=a24) kr kr gE q25) <| hbr 5 [81,82,83] (hdx 2 (wz [])) <| ?_
    refine hlp 2 (fun s30=>⟨(s63_86 p1)++[(6,vI s13),(7,vI s30)],[(o63_84 p0),(o63_85 p1)],149⟩) (fun x=>match x with | .inl v=>(.ret,⟨[(4,vB false)],[],149⟩) | .inr v=>(.exit 2,⟨(s63_86 p1)++[(6,vI s13)],[(o63_84 p0),(o63_85 p1)],149⟩)) (wz [0,1]) (fun s30=>?_) (hsm (fun x40=>?_) (fun x41=>?_))
    ·refine hbr 3 [86] (?_) ?_
     ·refine hop 5 (fun _=>Qg (enc:=(AV.int .u64)) (l:=p1.Cliques) (n:=s13) (fl:=true) (w:=1) (a:=a16) kr kr gE q17) <| hbd fun a33 q34=>hop 4 (fun _=>Qg (enc:=(AV.int .u64)) (l:=p1.Cliques) (n:=s30) (fl:=true) (w:=1) (a:=a33) kr kr gE q34) <| hop 7 (fun _=>Qg (enc:=eI) (l:=p1.Up) (n:=s13) (fl:=true) (w:=1) (a:=a24) kr kr gE q25) <| hbd fun a35 q36=>hop 1 (fun _=>Qg (enc:=(AV.int .u64)) (l:=p1.Cliques) (n:=a24) (fl:=true) (w:=1) (a:=a35) kr kr gE q36) <| hbr 3 [110] (hdx 2 (wz [])) <| ?_
      refine hnx 4 (wz [0,1])
     refine hdx 1 (wz [0,1])
    ·refine hdn 0
    refine hnx 3 (wz [0,1])
   refine hlp 18 (fun s42=>⟨(s63_86 p1)++[(6,vI s13),(7,vI s42)],[(o63_84 p0),(o63_85 p1)],149⟩) (fun x=>match x with | .inl v=>(.ret,⟨[(4,vB false)],[],149⟩) | .inr v=>(.exit 2,⟨(s63_86 p1)++[(6,vI s13)],[(o63_84 p0),(o63_85 p1)],149⟩)) (wz [0,1]) (fun s42=>?_) (hsm (fun x54=>?_) (fun x55=>?_))
   ·refine hbr 3 [86] (?_) ?_
    ·refine hop 5 (fun _=>Qg (enc:=(AV.int .u64)) (l:=p1.Cliques) (n:=s13) (fl:=true) (w:=1) (a:=a16) kr kr gE q17) <| hbd fun a45 q46=>hop 4 (fun _=>Qg (enc:=(AV.int .u64)) (l:=p1.Cliques) (n:=s42) (fl:=true) (w:=1) (a:=a45) kr kr gE q46) <| hbd fun a47 q48=>hop 7 (fun _=>Qg (enc:=eI) (l:=p1.Up) (n:=s13) (fl:=true) (w:=1) (a:=a47) kr kr gE q48) <| hbd fun a49 q50=>hop 1 (fun _=>Qg (enc:=(AV.int .u64)) (l:=p1.Cliques) (n:=a47) (fl:=true) (w:=1) (a:=a49) kr kr gE q50) <| hbr 3 [110] (hdx 2 (wz [])) <| ?_
     refine hnx 4 (wz [0,1])
    refine hdx 1 (wz [0,1])
   ·refine hdn 0
   refine hnx 3 (wz [0,1])
  refine hdx 1 (wz [0,1])
 ·refine hrt 0
 refine hlp 1 (fun s59=>⟨(s63_86 p1)++[(8,vI s59)],[(o63_84 p0),(o63_85 p1)],149⟩) (fun x=>match x with | .inl v=>(.ret,⟨[(4,vB false)],[],149⟩) | .inr v=>(.exit 4,⟨[],[],149⟩)) (wz [0,1]) (fun s59=>?_) (hsm (fun x75=>?_) (fun x76=>?_))
 ·refine hop 3 (fun _=>Ql (enc:=eTapi_Node) (l:=p0.Nodes) (fl:=false) kr gE) <| hbr 1 [115] (?_) ?_
  ·refine hbd fun a62 q63=>hop 5 (fun _=>Qg (enc:=eI) (l:=p1.Home) (n:=s59) (fl:=true) (w:=1) (a:=a62) kr kr gE q63) <| hbr 3 [123,124] (hdx 26 (wz [])) <| ?_
   refine hop 3 (fun _=>Qg (enc:=eI) (l:=p1.Home) (n:=s59) (fl:=true) (w:=1) (a:=a62) kr kr gE q63) <| hbr 5 [131,132,133] (hdx 17 (wz [])) <| ?_
   refine hcl 2 [] (Qfc p0 s59) fun x68 _=>hop 5 (fun _=>Qg (enc:=eI) (l:=p1.Home) (n:=s59) (fl:=true) (w:=1) (a:=a62) kr kr gE q63) <| hbd fun a70 q71=>hop 1 (fun _=>Qg (enc:=(AV.int .u64)) (l:=p1.Cliques) (n:=a62) (fl:=true) (w:=1) (a:=a70) kr kr gE q71) <| hbr 4 [147,148] (hdx 2 (wz [])) <| ?_
   refine hnx 4 (wz [0,1])
  refine hdx 1 (wz [])
 ·refine hrt 0
 refine hrt 2
theorem g_ref10_Check_ok (p0:Qd) (p1:Qc):Ct Tryd.prog 17 [.agg [vI p0.Grain,eL false eTapi_Node p0.Nodes],.agg [eL true (AV.int .u64) p1.Cliques,z1 p1.Up,z1 p1.Home]] (Jp p0 p1) (fun x=>vI x) (fun x=>[]):=by
 refine hfn [] Tryd.func17 <| hop 0 (fun _=>sgL false [] [] false gE) <| hop 0 (fun _=>sgL false [] [] false gE) <| hcl 2 [] (g_ref05_Right_ok p0) fun x1 _=>hbr 1 [7] (hrt 3) <| ?_
 refine hcl 3 [] (Qnj p0 p1) fun x5 _=>hbr 1 [11] (hrt 3) <| ?_
 refine hrt 3
theorem g_ref10_Width_ok (p0:Qc):Ct Tryd.prog 20 [.agg [eL true (AV.int .u64) p0.Cliques,z1 p0.Up,z1 p0.Home]] (Qca p0) (fun x=>vI x) (fun x=>[]):=by
 refine hfn [] Tryd.func20 <| hop 0 (fun _=>sgL false [] [] false gE) <| hlp 3 (fun s1=>⟨[(1,.ptr 0 0 0),(3,vI s1.1),(4,vI s1.2)],[oX true false 3 (.agg [eL true (AV.int .u64) p0.Cliques,z1 p0.Up,z1 p0.Home])],22⟩) (fun v=>(.exit 0,⟨[(3,vI v)],[],22⟩)) (wz [0]) (fun s1=>?_) fun x9=>?_
 ·refine hop 3 (fun _=>Ql (enc:=(AV.int .u64)) (l:=p0.Cliques) (fl:=true) kr gE) <| hbr 1 [9] (?_) ?_
  ·refine hbd fun a4 q5=>hop 5 (fun _=>Qg (enc:=(AV.int .u64)) (l:=p0.Cliques) (n:=s1.2) (fl:=true) (w:=1) (a:=a4) kr kr gE q5) <| hcl 1 [] (g_ref10_Size_ok a4) fun x6 _=>hnx 6 (wz [0])
  refine hdx 1 (wz [])
 refine hrt 3
noncomputable abbrev o66_87 (p3:(Tharuspexref10_Bend × Tharuspexref10_Bend)):AObj:=oX true true 8 (.agg [.int .u8 p3.1.What,.int .u8 p3.1.At,vI p3.1.N,.int .u64 p3.1.S,.int .u8 p3.2.What,.int .u8 p3.2.At,vI p3.2.N,.int .u64 p3.2.S])
noncomputable abbrev o66_88 (p4:Qc):AObj:=oX true false 3 (.agg [eL true (AV.int .u64) p4.Cliques,z1 p4.Up,z1 p4.Home])
noncomputable abbrev o66_89 (x9:Qc):AObj:=oX true false 3 (.agg [eL true (AV.int .u64) x9.Cliques,z1 x9.Up,z1 x9.Home])
noncomputable abbrev o66_90 (a16:Qd):AObj:=oX true false 2 (.agg [vI a16.Grain,eL false eTapi_Node a16.Nodes])
noncomputable abbrev e66_91 (x5 x11:Qd):Nat×AV:=(43,.agg [vI x5.Grain,eL false eTapi_Node x5.Nodes,vI x11.Grain,eL false eTapi_Node x11.Nodes])
noncomputable abbrev e66_92 (x9 x18 x22 x24:Qc):Nat×AV:=(61,.agg [eL true (AV.int .u64) x9.Cliques,z1 x9.Up,z1 x9.Home,eL true (AV.int .u64) x18.Cliques,z1 x18.Up,z1 x18.Home,eL true (AV.int .u64) x22.Cliques,z1 x22.Up,z1 x22.Home,eL true (AV.int .u64) x24.Cliques,z1 x24.Up,z1 x24.Home])
noncomputable abbrev s66_93 (p5:Int):List (Nat×AV):=[(5,vI p5),(9,.ptr 0 0 0),(10,.ptr 1 0 0),(14,.ptr 2 0 0)]
theorem g_law10_TreeChecks_ok (p0:Qf) (p1:Q8) (p2:(Int × Int × Int × Int × Int × Int × Int × Int)) (p3:(Tharuspexref10_Bend × Tharuspexref10_Bend)) (p4:Qc) (p5:Int):Ct Tryd.prog 3 [.agg [.int .u8 p0.Grain,eL false eTharuspexref05_Piece p0.Nodes,eL true (AV.int .u8) p0.Order],.agg [.int .u8 p1.What,.int .u8 p1.At,.int .u8 p1.Row,vI p1.N],.agg [.int .u8 p2.1,.int .u8 p2.2.1,.int .u8 p2.2.2.1,.int .u8 p2.2.2.2.1,.int .u8 p2.2.2.2.2.1,.int .u8 p2.2.2.2.2.2.1,.int .u8 p2.2.2.2.2.2.2.1,.int .u8 p2.2.2.2.2.2.2.2],.agg [.int .u8 p3.1.What,.int .u8 p3.1.At,vI p3.1.N,.int .u64 p3.1.S,.int .u8 p3.2.What,.int .u8 p3.2.At,vI p3.2.N,.int .u64 p3.2.S],.agg [eL true (AV.int .u64) p4.Cliques,z1 p4.Up,z1 p4.Home],vI p5] (Qa2 p0 p1 p2 p3 p4 p5) (fun x=>vB x) (fun x=>[]):=by
 refine hfn [] Tryd.func3 <| hop 0 (fun _=>sgL false [] [] false gE) <| hop 3 (fun _=>sgL false [] [] false gE) <| hcl 1 [] (g_law10_wakes_ok ) fun x1 _=>hbr 1 [29] (hrt 3) <| ?_
 refine hcl 2 [] (Qj0 p0) fun x5 _=>hop 0 (fun _=>sgL false [] [] false gE) <| hcl 7 [] (us:=[vI (zn x5.Nodes),vI (-1),.agg [.int .u8 p2.1,.int .u8 p2.2.1,.int .u8 p2.2.2.1,.int .u8 p2.2.2.2.1,.int .u8 p2.2.2.2.2.1,.int .u8 p2.2.2.2.2.2.1,.int .u8 p2.2.2.2.2.2.2.1,.int .u8 p2.2.2.2.2.2.2.2]]) (rv:=fun x7=>z1 x7) (ro:=fun x7=>[]) (fun x7 q8=>Qy.froz (Qmm (zn x5.Nodes) (-1) (p2.1,p2.2.1,p2.2.2.1,p2.2.2.2.1,p2.2.2.2.2.1,p2.2.2.2.2.2.1,p2.2.2.2.2.2.2.1,p2.2.2.2.2.2.2.2) x7 q8) (Zl (w:=1) (bx:=false) (ro:=false) (enc:=eI) (l:=x7) (fl:=true) rfl)) fun x7 _=>hcl 0 [F eTapi_Node x5.Nodes] (us:=[.agg [vI x5.Grain,eL false eTapi_Node x5.Nodes],z1 x7]) (rv:=fun x9=>.agg [eL true (AV.int .u64) x9.Cliques,z1 x9.Up,z1 x9.Home]) (ro:=fun x9=>[]) (fun x9 q10=>Qy.froz (Qoc x5 x7 x9 q10) (Qaq (Q1 (Zl (w:=1) (bx:=false) (ro:=false) (enc:=(AV.int .u64)) (l:=x9.Cliques) (fl:=true) rfl) (Q1 (Zl (w:=1) (bx:=false) (ro:=false) (enc:=eI) (l:=x9.Up) (fl:=true) rfl) (Q1 (Zl (w:=1) (bx:=false) (ro:=false) (enc:=eI) (l:=x9.Home) (fl:=true) rfl) V6 (by rfl)) (by rfl)) (by rfl)))) fun x9 _=>hop 0 (fun _=>sgL false [] [] false gE) <| hcl 5 [F eTapi_Node x5.Nodes] (g_ref05_Bend_Of_ok p1 x5) fun x11 _=>hlp 2 (fun s13=>⟨(s66_93 p5)++[(e66_91 x5 x11),(44,vI s13)],[(o66_87 p3),(o66_88 p4),(o66_89 x9)],162⟩) (fun x=>match x with | .inl v=>(.ret,⟨[(12,vB false)],[],162⟩) | .inr v=>(.exit 0,⟨[],[],162⟩)) (wk_trans (wk_gc (live:=[5,9,10,14,43,44]) (keep:=[3,4,7,5]) gE) (wk_trans (wsn 43 [F eTapi_Node x5.Nodes]) (wk_gc (live:=[5,9,10,14,43,44]) (keep:=[0,1,2]) kr))) (fun s13=>?_) (hsm (fun x105=>?_) (fun x106=>?_))
 ·refine hbr 1 [45] (?_) ?_
  ·refine hbd fun a16 q17=>hop 1 (fun _=>Qvr (enc:=Qyi) (l:=([x5,x11]:(List Qd))) (n:=s13) (a:=a16) (w:=2) (g:=true) (v:=.agg [vI a16.Grain,eL false eTapi_Node a16.Nodes]) kr (fun _=>rfl) kr q17 kr gE) <| hop 0 (fun _=>sgL false [] [] false gE) <| hcl 6 [] (g_ref10_Bend_Of_ok p3.1 x9) fun x18 _=>hcl 5 [] (g_ref10_Bend_Of_ok p3.1 x9) fun x20 _=>hcl 0 [] (g_ref10_Bend_Of_ok p3.2 x20) fun x22 _=>hcl 1 [] (Qpu p4) fun x24 _=>hlp 2 (fun s26=>⟨(s66_93 p5)++[(16,.ptr 3 0 0),(e66_91 x5 x11),(44,vI s13),(e66_92 x9 x18 x22 x24),(62,vI s26)],[(o66_87 p3),(o66_88 p4),(o66_89 x9),(o66_90 a16)],162⟩) (fun x=>match x with | .inl v=>(.ret,⟨[(12,vB false)],[],162⟩) | .inr v=>(.exit 2,⟨(s66_93 p5)++[(e66_91 x5 x11),(44,vI s13)],[(o66_87 p3),(o66_88 p4),(o66_89 x9)],162⟩)) (wz [0,1,2,3]) (fun s26=>?_) (hsm (fun x102=>?_) (fun x103=>?_))
   ·refine hbr 1 [63] (?_) ?_
    ·refine hbd fun a29 q30=>hop 1 (fun _=>Qvr (enc:=eTapi_Tree) (l:=([x9,x18,x22,x24]:(List Qc))) (n:=s26) (a:=a29) (w:=3) (g:=true) (v:=.agg [eL true (AV.int .u64) a29.Cliques,z1 a29.Up,z1 a29.Home]) kr (fun _=>rfl) kr q30 kr gE) <| hop 0 (fun _=>sgL false [] [] false gE) <| hcl 3 [] (g_ref10_Check_ok a16 a29) fun x31 _=>hcl 3 [] (g_tree_Width_ok a16 a29) fun x33 _=>hcl 7 [] (g_tree_Check_ok a16 a29) fun x35 _=>hbr 3 [78,79] (hdx 24 (wz [])) <| ?_
     refine hbr 5 [82,83,84] (hdx 19 (wz [])) <| ?_
     refine hbq 3 [86,87] (fun q42=>?_) (fun q42=>?_)
     ·refine hbr 5 [89,90,91,92] (hdx 11 (wz [])) <| ?_
      refine hkb 3 [94,95] (ne_eq q42) <| hop 10 (fun _=>Ql (enc:=(AV.int .u64)) (l:=a29.Cliques) (fl:=true) kr gE) <| hlp 3 (fun s46=>⟨(s66_93 p5)++[(16,.ptr 3 0 0),(18,.ptr 4 0 0),(19,vI x31),(e66_91 x5 x11),(44,vI s13),(e66_92 x9 x18 x22 x24),(62,vI s26),(107,.agg [vI p5,vI 1,vI (zw ((zn a29.Cliques) - 1))]),(108,vI s46)],[(o66_87 p3),(o66_88 p4),(o66_89 x9),(o66_90 a16),oX true false 3 (.agg [eL true (AV.int .u64) a29.Cliques,z1 a29.Up,z1 a29.Home])],162⟩) (fun x=>match x with | .inl v=>(.ret,⟨[(12,vB false)],[],162⟩) | .inr v=>(.exit 4,⟨(s66_93 p5)++[(16,.ptr 3 0 0),(e66_91 x5 x11),(44,vI s13),(e66_92 x9 x18 x22 x24),(62,vI s26)],[(o66_87 p3),(o66_88 p4),(o66_89 x9),(o66_90 a16)],162⟩)) (wz [0,1,2,3,4]) (fun s46=>?_) (hsm (fun x60=>?_) (fun x61=>?_))
      ·refine hbr 1 [109] (?_) ?_
       ·refine hbd fun a49 q50=>hop 1 (fun _=>Qvr (enc:=eI) (l:=([p5,1,zw ((zn a29.Cliques) - 1)]:(List Int))) (n:=s46) (a:=a49) (w:=1) (g:=false) (v:=vI a49) kr (fun _=>rfl) kr q50 kr gE) <| hcl 4 [] (g_tree_Separator_ok a16 a29 a49) fun x51 _=>hkb 11 [121,122] (ne_eq q42) <| hkb 15 [135,133] (ne_eq q42) <| hbr 5 [153,154] (hdx 6 (wz [])) <| ?_
        refine hbr 4 [157,158] (hdx 2 (wz [])) <| ?_
        refine hnx 3 (wz [0,1,2,3,4])
       refine hdx 1 (wz [0,1,2,3])
      ·refine hdn 0
      refine hnx 2 (wz [0,1,2,3])
     refine hkb 8 [94,95] (ne_eq q42) <| hcl 2 [] (g_ref10_Width_ok a29) fun x63 _=>hbr 3 [99,100,101] (hdx 2 (wz [])) <| ?_
     refine hop 4 (fun _=>Ql (enc:=(AV.int .u64)) (l:=a29.Cliques) (fl:=true) kr gE) <| hlp 3 (fun s67=>⟨(s66_93 p5)++[(16,.ptr 3 0 0),(18,.ptr 4 0 0),(19,vI x31),(e66_91 x5 x11),(44,vI s13),(e66_92 x9 x18 x22 x24),(62,vI s26),(107,.agg [vI p5,vI 1,vI (zw ((zn a29.Cliques) - 1))]),(108,vI s67)],[(o66_87 p3),(o66_88 p4),(o66_89 x9),(o66_90 a16),oX true false 3 (.agg [eL true (AV.int .u64) a29.Cliques,z1 a29.Up,z1 a29.Home])],162⟩) (fun x=>match x with | .inl v=>(.ret,⟨[(12,vB false)],[],162⟩) | .inr v=>(.exit 4,⟨(s66_93 p5)++[(16,.ptr 3 0 0),(e66_91 x5 x11),(44,vI s13),(e66_92 x9 x18 x22 x24),(62,vI s26)],[(o66_87 p3),(o66_88 p4),(o66_89 x9),(o66_90 a16)],162⟩)) (wz [0,1,2,3,4]) (fun s67=>?_) (hsm (fun x99=>?_) (fun x100=>?_))
     ·refine hbr 1 [109] (?_) ?_
      ·refine hbd fun a70 q71=>hop 1 (fun _=>Qvr (enc:=eI) (l:=([p5,1,zw ((zn a29.Cliques) - 1)]:(List Int))) (n:=s67) (a:=a70) (w:=1) (g:=false) (v:=vI a70) kr (fun _=>rfl) kr q71 kr gE) <| hcl 4 [] (g_tree_Separator_ok a16 a29 a70) fun x72 _=>hkb 11 [121,122] (ne_eq q42) <| hbr 3 [124,125] (?_) ?_
       ·refine hbr 14 [153,154] (hdx 6 (wz [])) <| ?_
        refine hbr 4 [157,158] (hdx 2 (wz [])) <| ?_
        refine hnx 3 (wz [0,1,2,3,4])
       refine hop 3 (fun _=>Ql (enc:=(AV.int .u64)) (l:=a29.Cliques) (fl:=true) kr gE) <| hbr 4 [130,131,132,119] (?_) ?_
       ·refine hbr 6 [153,154] (hdx 6 (wz [])) <| ?_
        refine hbr 4 [157,158] (hdx 2 (wz [])) <| ?_
        refine hnx 3 (wz [0,1,2,3,4])
       refine hkb 4 [135,133] (ne_eq q42) <| hbd fun a88 q89=>hop 5 (fun _=>Qg (enc:=(AV.int .u64)) (l:=a29.Cliques) (n:=a70) (fl:=true) (w:=1) (a:=a88) kr kr gE q89) <| hbd fun a90 q91=>hop 6 (fun _=>Qg (enc:=eI) (l:=a29.Up) (n:=a70) (fl:=true) (w:=1) (a:=a90) kr kr gE q91) <| hbd fun a92 q93=>hop 1 (fun _=>Qg (enc:=(AV.int .u64)) (l:=a29.Cliques) (n:=a90) (fl:=true) (w:=1) (a:=a92) kr kr gE q93) <| hbr 7 [153,154] (hdx 6 (wz [])) <| ?_
       refine hbr 4 [157,158] (hdx 2 (wz [])) <| ?_
       refine hnx 3 (wz [0,1,2,3,4])
      refine hdx 1 (wz [0,1,2,3])
     ·refine hdn 0
     refine hnx 2 (wz [0,1,2,3])
    refine hdx 1 (wz [0,1,2])
   ·refine hdn 0
   refine hnx 2 (wz [0,1,2])
  refine hdx 1 (wz [])
 ·refine hrt 0
 refine hrt 2
end
end Go.Ab
namespace Go.Ab
open Go
theorem Qmp {σ ρ:Type} {body:σ→Option (Qi σ ρ)} (I:σ→Prop) (m:σ→Nat) (Q:ρ→Prop)
  (step:∀s,I s→(∃s',body s=some (.next s')∧I s'∧m s' < m s)∨(∃r,body s=some (.done r)∧Q r)) :
  ∀(n:Nat) (s:σ),I s→m s < n→∃r,Qa n body s=some r∧Q r
 | 0,s,_,h=>by omega
 | n+1,s,hI,h=>by
  unfold Qa
  rcases step s hI with ⟨s',h1,h2,h3⟩ | ⟨r,h1,h2⟩
  ·rw [h1]
   exact Qmp I m Q step n s' h2 (by omega)
  ·rw [h1]
   exact ⟨r,rfl,h2⟩
theorem Vm {σ ρ:Type} {body:σ→Option (Qi σ ρ)} (I:σ→Prop) (m:σ→Nat) (Q:ρ→Prop)
  (step:∀s,I s→(∃s',body s=some (.next s')∧I s'∧m s' < m s)∨(∃r,body s=some (.done r)∧Q r)) (s:σ) (hI:I s) (hm:m s < 1152921504606846976):∃r,Qa fuel body s=some r∧Q r :=
 Qmp I m Q step fuel s hI hm
theorem Qsu {σ ρ:Type} {body:σ→Option (Qi σ ρ)} (f:Nat → σ) (n:Nat) (r:ρ) (step:∀k,k < n→body (f k)=some (.next (f (k+1)))) (done:body (f n)=some (.done r)) (hn:n < 1152921504606846976) :
  Qa fuel body (f 0)=some r:=by
 have key:∀(j N k:Nat),k+j=n→j < N→Qa N body (f k)=some r:=by
  intro j
  induction j with
  | zero =>
   intro N k hk hN
   obtain ⟨N,rfl⟩:∃M,N=M+1:=⟨N - 1,by omega⟩
   have:k=n:=by omega
   subst this
   simp [Qa,done]
  | succ j ih =>
   intro N k hk hN
   obtain ⟨N,rfl⟩:∃M,N=M+1:=⟨N - 1,by omega⟩
   simp only [Qa,step k (by omega)]
   exact ih N (k+1) (by omega) (by omega)
 exact key n fuel 0 (by omega) hn
theorem Qbp {σ ρ:Type} {body:σ→Option (Qi σ ρ)} {s0:σ} (f:Nat → σ) (n:Nat) (r:ρ) (h0:f 0=s0) (step:∀k,k < n→body (f k)=some (.next (f (k+1)))) (done:body (f n)=some (.done r)) (hn:n < 1152921504606846976) :
  Qa fuel body s0=some r:=by rw [←h0]; exact Qsu f n r step done hn
theorem w64 {n:Int} (h:-9223372036854775808≤n∧n≤9223372036854775807):zw n=n:=by show IntKind.wrap .i64 n=n; rw [IntKind.wrap_i64]; omega
theorem Q2o {α:Type} {l:List α} {n:Int} (h:0≤n) (h2:n < l.length):lkI l n=some (l[n.toNat]'(by omega)):=by
 unfold lkI
 rw [if_neg (by omega),List.getElem?_eq_getElem]
theorem lkI_nat {α:Type} {l:List α} {k:Nat} (h:k < l.length):lkI l (k:Int)=some l[k]:=by
 unfold lkI
 rw [if_neg (by omega),Int.toNat_natCast,List.getElem?_eq_getElem h]
theorem Qy2 {a b:Int} (h:0≤a):Int.tdiv a b=a / b:=Int.tdiv_eq_ediv_of_nonneg h
theorem Kb {a b:Int} (h:0≤a):Int.tmod a b=a % b:=Int.tmod_eq_emod_of_nonneg h
end Go.Ab
namespace Go.Ab
open Go
set_option maxRecDepth 100000
set_option maxHeartbeats 400000
def msk:Nat → (Nat → Bool)→Nat
 | 0,_=>0
 | n+1,p=>msk n p ||| (if p n then 2^n else 0)
theorem Qfr (n:Nat) (p:Nat → Bool) (i:Nat):(msk n p).testBit i=(decide (i < n) && p i):=by
 induction n with
 | zero=>simp [msk]
 | succ n ih =>
  unfold msk
  rw [Nat.testBit_or,ih]
  by_cases h:i=n
  ·subst h
   cases hp:p i <;> simp [hp]
  ·have e:decide (i < n+1)=decide (i < n):=by by_cases h2:i < n <;> simp [h2] <;> omega
   rw [e]
   cases hp:p n
   ·simp
   ·simp only [if_true,Nat.testBit_two_pow]
    have e2:¬ n=i:=fun e=>h e.symm
    simp [e2]
theorem Qbz (n:Nat) (p:Nat → Bool):msk n p < 2^n:=by
 induction n with
 | zero=>simp [msk]
 | succ n ih =>
  unfold msk
  refine Nat.or_lt_two_pow (Nat.lt_of_lt_of_le ih (Nat.pow_le_pow_right (by omega) (by omega))) ?_
  split
  ·exact Nat.pow_lt_pow_right (by omega) (by omega)
  ·exact Nat.two_pow_pos _
theorem Qgg {n:Nat} {p:Nat → Bool} {a:Nat} (ha:a < 2^n) (h:∀i,i < n→a.testBit i=p i):a=msk n p:=by
 apply Nat.eq_of_testBit_eq
 intro i
 rw [Qfr]
 by_cases hi:i < n
 ·simp [hi,h i hi]
 ·rw [Nat.testBit_lt_two_pow (Nat.lt_of_lt_of_le ha (Nat.pow_le_pow_right (by omega) (by omega)))]; simp [hi]
theorem Qej {n:Nat} {p q:Nat → Bool} (h:∀i,i < n→p i=q i):msk n p=msk n q :=
 Qgg (Qbz n p) fun i hi=>by rw [Qfr,h i hi]; simp [hi]
theorem Qyc {n a:Nat} (hn:n≤10) (ha:a < 2^n):a < 1024:=Nat.lt_of_lt_of_le ha (Nat.pow_le_pow_right (n:=2) (by omega) hn)
theorem Q4t {n a:Nat} (hn:n≤10) (ha:a < 2^n):a < 18446744073709551616:=by have:=Qyc hn ha; omega
theorem X4 {n:Nat} (h:n < 18446744073709551616):zv (n:Int)=(n:Int):=by
 simp [IntKind.wrap,IntKind.bits,IntKind.signed]; omega
theorem Kf {a:Nat} (h:a < 18446744073709551616):(zb (a:Int)).toNat = a:=by
 show (BitVec.ofInt IntKind.u64.bits (a:Int)).toNat = a
 rw [BitVec.ofInt_natCast,BitVec.toNat_ofNat]
 exact Nat.mod_eq_of_lt h
theorem Qsh {a k:Nat}:Int.fdiv (a:Int) ((2:Int)^k)=((a / 2^k:Nat):Int):=by
 rw [Int.fdiv_eq_ediv_of_nonneg _ (by exact_mod_cast Nat.zero_le (2^k))]
 simp
theorem Qya {a j:Nat} (h:a < 18446744073709551616):(zb (a:Int)).getLsbD j=a.testBit j:=by unfold BitVec.getLsbD; rw [Kf h]
theorem Q3c {v:Nat} (hv:v < 64):zv (1*2^min (Int.toNat (v:Int)) (IntKind.bits .u64))=((2^v:Nat):Int):=by
 have hb:IntKind.bits .u64=64:=rfl
 have e0:min (Int.toNat (v:Int)) (IntKind.bits .u64)=v:=by rw [hb,Int.toNat_natCast]; omega
 have hp:2^v < 18446744073709551616:=Nat.pow_lt_pow_right (n:=64) (by omega) hv
 rw [e0,show (1:Int)*2^v=((2^v:Nat):Int) by simp,X4 hp]
theorem Q2j {n:Nat} {p q:Nat → Bool} {a b:Nat} (hn:n≤64) (ha:a < 2^n) (hb:b < 18446744073709551616) (hp:∀i,i < n→a.testBit i=p i) (hq:∀i,i < n→b.testBit i=q i) :
  zv (zb (a:Int) &&& ~~~ zb (b:Int)).toNat = ((msk n fun i=>p i && !q i:Nat):Int):=by
 have ha':a < 18446744073709551616:=Nat.lt_of_lt_of_le ha (Nat.pow_le_pow_right (n:=2) (by omega) hn)
 have h1:(zb (a:Int) &&& ~~~ zb (b:Int)).toNat < 18446744073709551616:=BitVec.isLt _
 rw [X4 h1]
 congr 1
 refine Qgg ?_ fun i hi=>?_
 ·refine Nat.lt_of_le_of_lt ?_ ha
  rw [BitVec.toNat_and,Kf ha']
  exact Nat.and_le_left
 ·have:i < 64:=by omega
  have e:(zb (a:Int) &&& ~~~ zb (b:Int)).toNat.testBit i=(zb (a:Int) &&& ~~~ zb (b:Int)).getLsbD i:=rfl
  rw [e,BitVec.getLsbD_and,BitVec.getLsbD_not,Qya ha',Qya hb,hp i hi,hq i hi]
  have h64:i < IntKind.bits .u64:=this
  simp [h64]
theorem Q4m {n:Nat} {p q:Nat → Bool} {a b:Nat} (hn:n≤64) (ha:a < 2^n) (hb:b < 2^n) (hp:∀i,i < n→a.testBit i=p i) (hq:∀i,i < n→b.testBit i=q i) :
  zv (zb (a:Int) ||| zb (b:Int)).toNat = ((msk n fun i=>p i || q i:Nat):Int):=by
 have h64:2^n≤2^64:=Nat.pow_le_pow_right (n:=2) (by omega) hn
 have ha':a < 18446744073709551616:=Nat.lt_of_lt_of_le ha h64
 have hb':b < 18446744073709551616:=Nat.lt_of_lt_of_le hb h64
 rw [BitVec.toNat_or,Kf ha',Kf hb',X4 (Nat.or_lt_two_pow (n:=64) ha' hb')]
 congr 1
 exact Qgg (Nat.or_lt_two_pow ha hb) fun i hi=>by rw [Nat.testBit_or,hp i hi,hq i hi]
theorem Q2b (v i:Nat):(2^v).testBit i=decide (v=i):=Nat.testBit_two_pow
theorem Qs8 {n:Nat} {p:Nat → Bool}:∀i,i < n→(msk n p).testBit i=p i:=fun i hi=>by rw [Qfr]; simp [hi]
theorem Qjy {n v:Nat} {p:Nat → Bool} (hn:n≤10) (hv:v < n):zv (zb ((msk n p:Nat):Int) ||| zb (zv (1*2^min (Int.toNat (v:Int)) (IntKind.bits .u64)))).toNat = ((msk n fun i=>p i || decide (v=i):Nat):Int):=by
 rw [Q3c (by omega)]
 exact Q4m (by omega) (Qbz n p) (Nat.pow_lt_pow_right (by omega) hv) Qs8 fun i _=>Q2b v i
theorem Qvu {a k:Nat} (ha:a < 18446744073709551616) (hk:k < 64) :
  zv (zb (Int.fdiv (a:Int) (2^min (Int.toNat (k:Int)) (IntKind.bits .u64))) &&& zb 1).toNat = ((a.testBit k).toNat : Int):=by
 have hb:IntKind.bits .u64=64:=rfl
 have e0:min (Int.toNat (k:Int)) (IntKind.bits .u64)=k:=by rw [hb,Int.toNat_natCast]; omega
 rw [e0,Qsh]
 have h1:a / 2^k < 18446744073709551616:=Nat.lt_of_le_of_lt (Nat.div_le_self _ _) ha
 have e1:(zb ((a / 2^k:Nat):Int) &&& zb 1).toNat = (a / 2^k) % 2:=by
  rw [BitVec.toNat_and,Kf h1,show (zb 1).toNat = 1 from rfl,Nat.and_one_is_mod]
 rw [e1,X4 (by omega)]
 have e2:a.testBit k=((a / 2^k) % 2==1):=by rw [Nat.testBit_eq_decide_div_mod_eq]; rfl
 rw [e2]
 rcases Nat.mod_two_eq_zero_or_one (a / 2^k) with h | h <;> rw [h] <;> rfl
def cnt:Nat → (Nat → Bool)→Nat
 | 0,_=>0
 | n+1,p=>cnt n p+(p n).toNat
def isS (x:Option Int) (y:Int):Bool:=match x with | some z=>z==y | none=>false
theorem Qxi {x:Option Int} {y:Int} (h:isS x y=true):x=some y:=by
 cases x with
 | none=>cases h
 | some z=>simp only [isS,beq_iff_eq] at h; rw [h]
theorem Qyb {p:Nat → Bool} {n:Nat} (h:(List.range n).all p=true) {k:Nat} (hk:k < n):p k=true:=List.all_eq_true.1 h k (List.mem_range.2 hk)
theorem Q31:((List.range 1024).all fun R=>isS (Zq (R:Int)) (cnt 10 R.testBit:Int))=true:=by kernel_rfl
theorem Qqn {n:Nat} {p q:Nat → Bool} (h:∀i,i < n→p i=q i):cnt n p=cnt n q:=by
 induction n with
 | zero=>rfl
 | succ n ih=>simp only [cnt]; rw [ih fun i hi=>h i (by omega),h n (by omega)]
theorem Qun {n m:Nat} {p:Nat → Bool} (hm:n≤m) (h:∀i,n≤i→i < m→p i=false):cnt m p=cnt n p:=by
 induction m with
 | zero =>
  have:n=0:=by omega
  subst this; rfl
 | succ m ih =>
  by_cases e:n=m+1
  ·subst e; rfl
  ·simp only [cnt]; rw [h m (by omega) (by omega),ih (by omega) fun i h1 h2=>h i h1 (by omega)]; rfl
theorem Q3o {n:Nat} (hn:n≤10) (p:Nat → Bool):Zq ((msk n p:Nat):Int)=some (cnt n p:Int):=by
 have h:=Qxi (Qyb Q31 (Qyc hn (Qbz n p)))
 rw [h]
 congr 2
 rw [Qun hn fun i h1 h2=>by rw [Qfr]; simp; omega]
 exact Qqn Qs8
theorem Qsj (n:Nat) (p:Nat → Bool):cnt n p≤n:=by
 induction n with
 | zero=>exact Nat.le_refl _
 | succ n ih =>
  simp only [cnt]; have:(p n).toNat ≤ 1:=by cases p n <;> decide
  omega
theorem Qz8 {n:Nat} {p q:Nat → Bool} (h:∀i,i < n→p i=true→q i=true):cnt n p≤cnt n q:=by
 induction n with
 | zero=>exact Nat.le_refl _
 | succ n ih =>
  simp only [cnt]
  have h1:=ih fun i hi=>h i (by omega)
  have h2:=h n (by omega)
  cases hp:p n with
  | false =>
   have:false.toNat = 0:=rfl
   omega
  | true=>rw [h2 hp]; omega
theorem Qut {n:Nat} {p:Nat → Bool} {i:Nat} (hi:i < n) (h:p i=true):0 < cnt n p:=by
 induction n with
 | zero=>omega
 | succ n ih =>
  simp only [cnt]
  by_cases e:i=n
  ·subst e; rw [h]; show 0 < _+1; omega
  ·have:=ih (by omega); omega
theorem Q2c {n v:Nat} {p:Nat → Bool} (hv:v < n) (h:p v=true):cnt n (fun i=>p i && !decide (v=i))+1=cnt n p:=by
 induction n with
 | zero=>omega
 | succ n ih =>
  simp only [cnt]
  by_cases e:v=n
  ·subst e
   rw [Qqn (n:=v) (q:=p) fun i hi=>by simp; intro _; omega,h]
   simp
  ·have:=ih (by omega)
   have e2:(p n && !decide (v=n))=p n:=by simp; intro _; exact e
   rw [e2]; omega
abbrev Gr:=Nat → Nat → Bool
def gl (n:Nat) (A:Gr):List Int:=(List.range n).map fun v=>((msk n (A v):Nat):Int)
theorem X2 (n:Nat) (A:Gr):(gl n A).length=n:=by simp [gl]
theorem Qiy {n:Nat} {A:Gr} {v:Nat} (hv:v < n):(gl n A)[v]?=some ((msk n (A v):Nat):Int):=by simp [gl,hv]
theorem Qc4 {n:Nat} {A:Gr} {v:Nat} (hv:v < n):lkI (gl n A) (v:Int)=some ((msk n (A v):Nat):Int):=by
 unfold lkI
 rw [if_neg (by omega),Int.toNat_natCast,Qiy hv]
theorem gl_congr {n:Nat} {A B:Gr} (h:∀u w,u < n→w < n→A u w=B u w):gl n A=gl n B:=by
 apply List.ext_getElem?
 intro v
 by_cases hv:v < n
 ·rw [Qiy hv,Qiy hv,Qej fun w hw=>h v w hv hw]
 ·rw [List.getElem?_eq_none (by rw [X2]; omega),List.getElem?_eq_none (by rw [X2]; omega)]
def upd (A:Gr) (v:Nat) (q:Nat → Bool):Gr:=fun u w=>if u=v then q w else A u w
theorem Q2w {A:Gr} {v u:Nat} {q:Nat → Bool} (h:¬ u=v):upd A v q u=A u:=funext fun w=>if_neg h
theorem Q27 {A:Gr} {v:Nat} {q:Nat → Bool}:upd A v q v=q:=funext fun w=>if_pos rfl
theorem Qn7 {n:Nat} {A:Gr} {v:Nat} (q:Nat → Bool):(gl n A).set (Int.toNat (v:Int)) ((msk n q:Nat):Int)=gl n (upd A v q):=by
 apply List.ext_getElem?
 intro u
 rw [Int.toNat_natCast,List.getElem?_set,X2]
 by_cases hu:u < n
 ·rw [Qiy hu,Qiy hu]
  by_cases e:v=u
  ·subst e; simp [hu,Q27]
  ·rw [if_neg e,Q2w fun h=>e h.symm]
 ·rw [List.getElem?_eq_none (by rw [X2]; omega),List.getElem?_eq_none (by rw [X2]; omega)]
  simp [hu]
  intro e; omega
structure Qjv (n:Nat) (A:Gr):Prop where
 sym:∀u w,A u w=A w u
 irr:∀u,A u u=false
 lt:∀u w,A u w=true→u < n
def elim (A:Gr) (v:Nat):Gr:=fun u w=>(A u w || (A v u && A v w && !decide (u=w))) && !decide (u=v) && !decide (w=v)
theorem Qqh {n:Nat} {A:Gr} (h:Qjv n A) (v:Nat):Qjv n (elim A v):=by
 refine ⟨fun u w=>?_,fun u=>?_,fun u w h1=>?_⟩
 ·unfold elim
  rw [h.sym u w]
  by_cases e:u=w
  ·subst e; rfl
  ·have e2:¬ w=u:=fun h=>e h.symm
   simp only [decide_eq_false e,decide_eq_false e2]
   cases A v u <;> cases A v w <;> cases A w u <;> cases (decide (u=v)) <;> cases (decide (w=v)) <;> rfl
 ·unfold elim; rw [h.irr]; simp
 ·unfold elim at h1
  simp only [Bool.and_eq_true,Bool.or_eq_true] at h1
  rcases h1.1.1 with h2 | h2
  ·exact h.lt _ _ h2
  ·exact h.lt _ v (by rw [h.sym]; exact h2.1.1)
theorem J1 (k:Nat):(0:Int)≤(k:Int):=Int.natCast_nonneg k
theorem Qoa {k:Nat} (h:k < 9223372036854775807):zw ((k:Int)+1)=((k+1:Nat):Int):=by rw [w64 (by omega)]; omega
theorem Qcp {τ ρ σ:Type} {n k0:Nat} (hk:k0≤n) (hn:n < 1152921504606846976) (mkS:Int→τ→σ) {body:σ→Option (Qi σ ρ)} (I:Nat → τ→Prop) (Q:ρ→Prop)
  (step:∀(k:Nat) (t:τ),k0≤k→k < n→I k t→(∃t',body (mkS (k:Int) t)=some (.next (mkS (zw ((k:Int)+1)) t'))∧I (k+1) t')∨(∃r,body (mkS (k:Int) t)=some (.done r)∧Q r))
  (done:∀t,I n t→∃r,body (mkS (n:Int) t)=some (.done r)∧Q r) (t0:τ) (h0:I k0 t0):∃r,Qa fuel body (mkS (k0:Int) t0)=some r∧Q r:=by
 have key:∀(j N k:Nat) (t:τ),k+j=n→k0≤k→j < N→I k t→∃r,Qa N body (mkS (k:Int) t)=some r∧Q r:=by
  intro j
  induction j with
  | zero =>
   intro N k t e hk hN hI
   obtain ⟨N,rfl⟩:∃M,N=M+1:=⟨N - 1,by omega⟩
   have:k=n:=by omega
   subst this
   obtain ⟨r,b1,b2⟩:=done t hI
   simp only [Qa,b1]
   exact ⟨r,rfl,b2⟩
  | succ j ih =>
   intro N k t e hk hN hI
   obtain ⟨N,rfl⟩:∃M,N=M+1:=⟨N - 1,by omega⟩
   rcases step k t hk (by omega) hI with ⟨t',b1,b2⟩ | ⟨r,b1,b2⟩
   ·rw [Qoa (by omega)] at b1
    simp only [Qa,b1]
    exact ih N (k+1) t' (by omega) (by omega) (by omega) b2
   ·simp only [Qa,b1]
    exact ⟨r,rfl,b2⟩
 exact key (n - k0) fuel k0 t0 (by omega) (Nat.le_refl _) (by show n - k0 < 1152921504606846976; omega) h0
theorem Zx {τ ρ σ:Type} {n k0:Nat} (hk:k0≤n) (hn:n < 1152921504606846976) (mkS:Int→τ→σ) {body:σ→Option (Qi σ ρ)} (T:Nat → τ) (r:ρ)
  (step:∀(k:Nat),k0≤k→k < n→body (mkS (k:Int) (T k))=some (.next (mkS (zw ((k:Int)+1)) (T (k+1)))))
  (done:body (mkS (n:Int) (T n))=some (.done r)):Qa fuel body (mkS (k0:Int) (T k0))=some r:=by
 obtain ⟨r',h1,h2⟩:=Qcp hk hn mkS (body:=body) (fun k t=>t=T k) (fun x=>x=r) (fun k t a b c=>.inl ⟨T (k+1),by rw [c]; exact step k a b,rfl⟩) (fun t h=>⟨r,by rw [h]; exact done,rfl⟩) (T k0) rfl
 rw [h1,h2]
theorem dlt {k n:Nat} (h:k < n):decide ((k:Int) < (n:Int))=true:=decide_eq_true (by omega)
theorem nlt (n:Nat):¬ (decide ((n:Int) < (n:Int))=true):=by simp
def nI (l:List Nat):List Int:=l.map fun (k:Nat)=>(k:Int)
theorem Q5 (l:List Nat):(nI l).length=l.length:=by simp [nI]
theorem Qdm {l:List Nat} {k:Nat} (h:k < l.length):lkI (nI l) (k:Int)=some (l[k]:Int):=by rw [lkI_nat (by rwa [Q5])]; simp [nI]
def seqA (A:Gr) (o:List Nat):Gr:=o.foldl elim A
theorem Qw4 (A:Gr) (o:List Nat) (v:Nat):seqA A (o++[v])=elim (seqA A o) v:=by simp [seqA]
theorem Qqi {n:Nat}:∀{o:List Nat} {A:Gr},Qjv n A→Qjv n (seqA A o)
 | [],A,h=>h
 | v::o,A,h=>Qqi (o:=o) (Qqh h v)
theorem Qzg {A:Gr} {v u w:Nat} (h:elim A v u w=true):¬ u=v∧¬ w=v:=by unfold elim at h; simp at h; exact ⟨h.1.2,h.2⟩
theorem Qx9 {A:Gr} {v x:Nat} (hs:∀w,A x w=false) (u:Nat) (hA:∀u w,A u w=A w u):elim A v x u=false:=by
 unfold elim
 rw [hs,hA v x,hs]; simp
theorem Qsw {n:Nat}:∀{o:List Nat} {A:Gr} {x:Nat},Qjv n A→(x∈o∨∀w,A x w=false)→∀w,seqA A o x w=false
 | [],A,x,h,hx,w=>by rcases hx with hx | hx; cases hx; exact hx w
 | v::o,A,x,h,hx,w=>by
  refine Qsw (o:=o) (Qqh h v) ?_ w
  rcases hx with hx | hx
  ·rcases List.mem_cons.1 hx with e | hx
   ·subst e
    right
    intro w
    rw [Bool.eq_false_iff]
    intro h1
    exact (Qzg h1).1 rfl
   ·exact .inl hx
  ·right
   intro w
   exact Qx9 hx w h.sym
theorem Q3n (a b:Nat):(if (a:Int) > (b:Int) then (a:Int) else (b:Int))=((max b a:Nat):Int):=by split <;> omega
structure Ord (n:Nat) (o:List Nat):Prop where
 len:o.length=n
 lt:∀v∈o,v < n
 nodup:o.Nodup
theorem Q1r (n:Nat):List.replicate n (0:Int)=gl n fun _ _=>false:=by
 apply List.ext_getElem?
 intro v
 by_cases hv:v < n
 ·rw [Qiy hv]
  have:msk n (fun _=>false)=0:=(Qgg (by have:=Nat.two_pow_pos n; omega) fun i _=>by simp).symm
  rw [this]; simp [hv]
 ·rw [List.getElem?_eq_none (by simp; omega),List.getElem?_eq_none (by rw [X2]; omega)]
inductive Via (A:Gr) (R:Nat → Bool):Nat → Nat → Prop
 | one {v u:Nat} (h:A v u=true):Via A R v u
 | step {v x u:Nat} (h:A v x=true) (hx:R x=true) (k:Via A R x u):Via A R v u
theorem Via.trans {A:Gr} {R:Nat → Bool} {u v w:Nat} (h:Via A R u v) (hv:R v=true) (k:Via A R v w):Via A R u w:=by
 induction h with
 | one h=>exact .step h hv k
 | step h hx _ ih=>exact .step h hx (ih hv k)
theorem Via.symm {n:Nat} {A:Gr} {R:Nat → Bool} {u v:Nat} (hG:Qjv n A) (h:Via A R u v):Via A R v u:=by
 induction h with
 | one h=>exact .one (by rw [hG.sym]; exact h)
 | step h hx _ ih=>exact ih.trans hx (.one (by rw [hG.sym]; exact h))
theorem Via.mono {A:Gr} {R R':Nat → Bool} {u v:Nat} (h:Via A R u v) (hR:∀x,R x=true→(∃y,A x y=true)→R' x=true):Via A R' u v:=by
 induction h with
 | one h=>exact .one h
 | step h hx k ih =>
  refine .step h (hR _ hx ?_) ih
  cases k with
  | one h=>exact ⟨_,h⟩
  | step h _ _=>exact ⟨_,h⟩
theorem Via.lt {n:Nat} {A:Gr} {R:Nat → Bool} {u v:Nat} (hG:Qjv n A) (h:Via A R u v):u < n∧v < n:=by
 induction h with
 | one h=>exact ⟨hG.lt _ _ h,hG.lt _ _ (by rw [hG.sym]; exact h)⟩
 | step h _ _ ih=>exact ⟨hG.lt _ _ h,ih.2⟩
end Go.Ab
