/- What functions compute. No conditions. -/
import Derived.Test.YtcbhkobklhkiiaaDoorProg
import Derived.Test.YtcbhkobklhkiiaaDoorW10
import Derived.KernelRfl
import Derived.Test.YtcbhkobklhkiiaaDoorW11
import Derived.Test.YtcbhkobklhkiiaaDoorW12
import Derived.Test.YtcbhkobklhkiiaaDoorEng8
import Derived.IntWalk
set_option linter.all false
namespace Go.Ab
open Go Go.Proofs
set_option maxRecDepth 100000
set_option maxHeartbeats 4000000
section
attribute [local irreducible] RW WP
theorem Qiy (w0_0:Int) (w0_1:(List Tapi_Node)):Hl Tryd.prog (fun x out=>Jl Tryd.prog Tryd.f14 [[.keep,.lst false]] out=some (.agg [vI x.Grain,eL false eTapi_Node x.Nodes],[])) (atW Tryd.prog Tryd.f14 [true,true,true,true,false,true,false,true] ⟨[(4,.ptr 0 0 0)],[oX false false 2 (.agg [vI w0_0,.ref 1 0 w0_1.length]),oR false 3 eTapi_Node w0_1],323⟩) (Qfo w0_0 w0_1):=by
 refine hwk 0 (wl [4] [0,1]) <| hwk 0 (won 0 0 [F eTapi_Node w0_1]) <| hrt 1
theorem Qiv (w1_0:Int) (w1_1:(List Tapi_Node)) (w1_2:Int) (w1_3:Int) (w1_4:(List Int)) (w1_5:(List (List Int))):Hl Tryd.prog (fun x out=>Jl Tryd.prog Tryd.f14 [[.keep,.lst false]] out=some (.agg [vI x.Grain,eL false eTapi_Node x.Nodes],[])) (atW Tryd.prog Tryd.f14 [true,true,true,true,false,true,false,true] ⟨[(4,.ptr 0 0 0)],[oX false false 2 (.agg [vI w1_0,.ref 1 0 w1_1.length]),.row false false false false 3 (hole eTapi_Node w1_1 w1_2 (.agg [vI w1_3,.ref 2 0 w1_4.length,.ref 3 0 w1_5.length])),oR true 1 eI w1_4,.refs 4 (eF eI w1_5),.fam 1 true (eF eI w1_5)],323⟩) (Qfg w1_0 w1_1 w1_2 w1_3 w1_4 w1_5):=by
 refine hbd fun a47 q48=>hwk 0 (Qew 3 4 (w:=1) (fl:=true) (enc:=eI) (ls:=w1_5) kr kr rfl) <| hwk 0 (wcl 1 [F eI w1_4,F z1 w1_5] (enc:=eTapi_Node) (L:=w1_1) (n:=w1_2) (A:=.agg [vI w1_3,.ref 2 0 w1_4.length,.ref 3 0 w1_5.length]) (bx:=false) (ro:=false) (nr:=false) (fl:=false) (w:=3) q48) <| hkn 0 (fun z49=>⟨[(4,.ptr 0 0 0)],[oX false false 2 (.agg [vI w1_0,.ref 1 0 w1_1.length]),.row false false false false 3 z49,.row false true true true 1 (List.map eI w1_4),.row false true true false 1 (List.map z1 w1_5),.dead],323⟩) (show ((hole eTapi_Node w1_1 w1_2 (.agg [vI w1_3,.ref 2 0 w1_4.length,.ref 3 0 w1_5.length])).set (zt w1_2) (.agg [vI w1_3,z1 w1_4,z2 w1_5]))=List.map eTapi_Node (List.set w1_1 (zt w1_2) (Tapi_Node.mk w1_3 w1_4 w1_5)) from Qdj (enc:=eTapi_Node) (L:=w1_1) (n:=w1_2) (A:=.agg [vI w1_3,.ref 2 0 w1_4.length,.ref 3 0 w1_5.length]) (b:=(Tapi_Node.mk w1_3 w1_4 w1_5))) <| hwk 0 (wk_rowT 1 (enc:=eTapi_Node) (L:=(List.set w1_1 (zt w1_2) (Tapi_Node.mk w1_3 w1_4 w1_5))) (bx:=false) (ro:=false) (nr:=false) (fl:=false) (w:=3) (fun a=>by cases a <;> rfl) kr rfl) <| hkn 0 (fun n50=>⟨[(4,.ptr 0 0 0)],[oX false false 2 (.agg [vI w1_0,.ref 1 0 n50]),oR false 3 eTapi_Node (List.set w1_1 (zt w1_2) (Tapi_Node.mk w1_3 w1_4 w1_5)),.row false true true true 1 (List.map eI w1_4),.row false true true false 1 (List.map z1 w1_5),.dead],323⟩) (ls w1_1 (zt w1_2) (Tapi_Node.mk w1_3 w1_4 w1_5)) <| hwk 0 (wl [4] [0,1]) <| hwk 0 (won 0 0 [F eTapi_Node (List.set w1_1 (zt w1_2) (Tapi_Node.mk w1_3 w1_4 w1_5))]) <| hrt 1
theorem g_ref05_Bend_Of_j3_ok (w3_0:Int) (w3_1:(List Tapi_Node)) (w3_2:Int) (w3_3:Int) (w3_4:(List Int)) (w3_5:(List (List Int))):Hl Tryd.prog (fun x out=>Jl Tryd.prog Tryd.f14 [[.keep,.lst false]] out=some (.agg [vI x.Grain,eL false eTapi_Node x.Nodes],[])) (atW Tryd.prog Tryd.f14 [true,true,true,true,true,true,true,true,true,true] ⟨[(4,.ptr 0 0 0)],[oX false false 2 (.agg [vI w3_0,.ref 1 0 w3_1.length]),.row false false false false 3 (hole eTapi_Node w3_1 w3_2 (.agg [vI w3_3,.ref 2 0 w3_4.length,.ref 3 0 w3_5.length])),oR true 1 eI w3_4,.refs 4 (eF eI w3_5),.fam 1 true (eF eI w3_5)],323⟩) (Qn w3_0 w3_1 w3_2 w3_3 w3_4 w3_5):=by
 refine hbd fun a58 q59=>hwk 0 (Qew 3 4 (w:=1) (fl:=true) (enc:=eI) (ls:=w3_5) kr kr rfl) <| hwk 0 (wcl 1 [F eI w3_4,F z1 w3_5] (enc:=eTapi_Node) (L:=w3_1) (n:=w3_2) (A:=.agg [vI w3_3,.ref 2 0 w3_4.length,.ref 3 0 w3_5.length]) (bx:=false) (ro:=false) (nr:=false) (fl:=false) (w:=3) q59) <| hkn 0 (fun z60=>⟨[(4,.ptr 0 0 0)],[oX false false 2 (.agg [vI w3_0,.ref 1 0 w3_1.length]),.row false false false false 3 z60,.row false true true true 1 (List.map eI w3_4),.row false true true false 1 (List.map z1 w3_5),.dead],323⟩) (show ((hole eTapi_Node w3_1 w3_2 (.agg [vI w3_3,.ref 2 0 w3_4.length,.ref 3 0 w3_5.length])).set (zt w3_2) (.agg [vI w3_3,z1 w3_4,z2 w3_5]))=List.map eTapi_Node (List.set w3_1 (zt w3_2) (Tapi_Node.mk w3_3 w3_4 w3_5)) from Qdj (enc:=eTapi_Node) (L:=w3_1) (n:=w3_2) (A:=.agg [vI w3_3,.ref 2 0 w3_4.length,.ref 3 0 w3_5.length]) (b:=(Tapi_Node.mk w3_3 w3_4 w3_5))) <| hwk 0 (wk_rowT 1 (enc:=eTapi_Node) (L:=(List.set w3_1 (zt w3_2) (Tapi_Node.mk w3_3 w3_4 w3_5))) (bx:=false) (ro:=false) (nr:=false) (fl:=false) (w:=3) (fun a=>by cases a <;> rfl) kr rfl) <| hkn 0 (fun n61=>⟨[(4,.ptr 0 0 0)],[oX false false 2 (.agg [vI w3_0,.ref 1 0 n61]),oR false 3 eTapi_Node (List.set w3_1 (zt w3_2) (Tapi_Node.mk w3_3 w3_4 w3_5)),.row false true true true 1 (List.map eI w3_4),.row false true true false 1 (List.map z1 w3_5),.dead],323⟩) (ls w3_1 (zt w3_2) (Tapi_Node.mk w3_3 w3_4 w3_5)) <| hwk 0 (wl [4] [0,1]) <| hwk 0 (won 0 0 [F eTapi_Node (List.set w3_1 (zt w3_2) (Tapi_Node.mk w3_3 w3_4 w3_5))]) <| hrt 1
theorem g_ref05_Bend_Of_j4_ok (w4_0:Int) (w4_1:(List Tapi_Node)) (w4_2:Int) (w4_3:Int) (w4_4:(List (List Int))):Hl Tryd.prog (fun x out=>Jl Tryd.prog Tryd.f14 [[.keep,.lst false]] out=some (.agg [vI x.Grain,eL false eTapi_Node x.Nodes],[])) (atW Tryd.prog Tryd.f14 [true,true,true,true,true,true,true,true,true,true] ⟨[(4,.ptr 0 0 0)],[oX false false 2 (.agg [vI w4_0,.ref 1 0 w4_1.length]),.row false false false false 3 (hole eTapi_Node w4_1 w4_2 (.agg [vI w4_3,.nils,.ref 2 0 w4_4.length])),.refs 3 (eF eI w4_4),.fam 1 true (eF eI w4_4)],323⟩) (Qbn w4_0 w4_1 w4_2 w4_3 w4_4):=by
 refine hbd fun a74 q75=>hwk 0 (Qew 2 3 (w:=1) (fl:=true) (enc:=eI) (ls:=w4_4) kr kr rfl) <| hwk 0 (Qji 1 1 1 true true (enc:=eTapi_Node) (L:=w4_1) (n:=w4_2) (a:=a74) (A:=.agg [vI w4_3,.nils,.ref 2 0 w4_4.length]) (A':=.agg [vI w4_3,.ref 4 0 0,.ref 2 0 w4_4.length]) (y:=.nils) (bx:=false) (nr0:=false) (fl0:=false) (w0:=3) q75 kr kr kr kr rfl) <| hwk 0 (wcl 1 [none,F z1 w4_4] (enc:=eTapi_Node) (L:=w4_1) (n:=w4_2) (A:=.agg [vI w4_3,.ref 4 0 0,.ref 2 0 w4_4.length]) (bx:=false) (ro:=false) (nr:=false) (fl:=false) (w:=3) q75) <| hkn 0 (fun z76=>⟨[(4,.ptr 0 0 0)],[oX false false 2 (.agg [vI w4_0,.ref 1 0 w4_1.length]),.row false false false false 3 z76,.row false true true false 1 (List.map z1 w4_4),.dead,.row false true true true 1 []],323⟩) (show ((hole eTapi_Node w4_1 w4_2 (.agg [vI w4_3,.ref 4 0 0,.ref 2 0 w4_4.length])).set (zt w4_2) (.agg [vI w4_3,.lst true [],z2 w4_4]))=List.map eTapi_Node (List.set w4_1 (zt w4_2) (Tapi_Node.mk w4_3 [] w4_4)) from Qdj (enc:=eTapi_Node) (L:=w4_1) (n:=w4_2) (A:=.agg [vI w4_3,.ref 4 0 0,.ref 2 0 w4_4.length]) (b:=(Tapi_Node.mk w4_3 [] w4_4))) <| hwk 0 (wk_rowT 1 (enc:=eTapi_Node) (L:=(List.set w4_1 (zt w4_2) (Tapi_Node.mk w4_3 [] w4_4))) (bx:=false) (ro:=false) (nr:=false) (fl:=false) (w:=3) (fun a=>by cases a <;> rfl) kr rfl) <| hkn 0 (fun n77=>⟨[(4,.ptr 0 0 0)],[oX false false 2 (.agg [vI w4_0,.ref 1 0 n77]),oR false 3 eTapi_Node (List.set w4_1 (zt w4_2) (Tapi_Node.mk w4_3 [] w4_4)),.row false true true false 1 (List.map z1 w4_4),.dead,.row false true true true 1 []],323⟩) (ls w4_1 (zt w4_2) (Tapi_Node.mk w4_3 [] w4_4)) <| hwk 0 (wl [4] [0,1]) <| hwk 0 (won 0 0 [F eTapi_Node (List.set w4_1 (zt w4_2) (Tapi_Node.mk w4_3 [] w4_4))]) <| ?_
 refine hrt 1
theorem Qi5 (w5_0:Int) (w5_1:(List Tapi_Node)):Hl Tryd.prog (fun x out=>Jl Tryd.prog Tryd.f14 [[.keep,.lst false]] out=some (.agg [vI x.Grain,eL false eTapi_Node x.Nodes],[])) (atW Tryd.prog Tryd.f14 [true,true,true,true,true,true,true,true,true,true] ⟨[(4,.ptr 0 0 0)],[oX false false 2 (.agg [vI w5_0,.ref 1 0 w5_1.length]),oR false 3 eTapi_Node w5_1],323⟩) (Qbe w5_0 w5_1):=by
 refine hwk 0 (wl [4] [0,1]) <| hwk 0 (won 0 0 [F eTapi_Node w5_1]) <| hrt 1
noncomputable abbrev o54_63 (w2_2 w2_3 w2_4 w2_5:Int):AObj:=oX true true 4 (.agg [.int .u8 w2_2,.int .u8 w2_3,.int .u8 w2_4,vI w2_5])
noncomputable abbrev o54_64 (w2_6:Int) (w2_8:(List Tapi_Node)):AObj:=oX false false 2 (.agg [vI w2_6,.ref 3 0 w2_8.length])
noncomputable abbrev o54_65 (w2_11:(List Int)):AObj:=.row false true true true 1 (List.map eI w2_11)
noncomputable abbrev o54_66 (w2_7:Int):AObj:=oX true false 2 (.agg [vI w2_7,.nils])
noncomputable abbrev Q4c (w2_2:Int):Nat×AV:=(101,.int .u8 (Int.tmod w2_2 12))
noncomputable abbrev s54_68 (w2_9 w2_1 w2_2:Int):List (Nat×AV):=[(2,.ptr 0 0 0),(3,.ptr 1 0 0),(4,.ptr 2 0 0),(10,.ptr 3 (zt w2_9) 0),(11,vI w2_1),(99,.ptr 0 0 0),(100,.int .u8 w2_2),(Q4c w2_2),(111,vB false),(110,vB false),(116,vB false),(115,vB false),(123,vB false),(122,vB false),(136,vB false),(135,vB false),(141,vB false),(140,vB false)]
noncomputable abbrev s54_69 (a0 a1 a2 a3 a4 a5 a6 a7 a8 a9 a10 a11 a12 a13 a14 a15 a16:Nat×AV) (w2_9 w2_1 a143:Int):List (Nat×AV):=[(3,.ptr 0 0 0),(4,.ptr 1 0 0),(10,.ptr 2 (zt w2_9) 0),(11,vI w2_1),a0,a1,a2,a3,(266,vB true),(269,.ptr 2 (zt w2_9) 0),(270,.ptr 2 (zt w2_9) 0),(271,.ptr 2 (zt w2_9) 2),a4,(273,vI w2_1),(274,.ptr 4 (zt w2_1) 0),a5,a6,a7,a8,a9,(279,.ptr 2 (zt w2_9) 0),(280,.ptr 2 (zt w2_9) 0),(281,.ptr 2 (zt w2_9) 2),a10,(283,vI w2_1),(284,.ptr 4 (zt w2_1) 0),a11,a12,(287,.ptr 2 (zt w2_9) 0),(288,.ptr 2 (zt w2_9) 0),(289,.ptr 2 (zt w2_9) 2),a13,(291,vI w2_1),(292,.ptr 4 (zt w2_1) 0),a14,a15,a16,(296,vI a143)]
theorem g_ref05_Bend_Of_j2_ok (w2_0:Nat) (w2_1:Int) (w2_2:Int) (w2_3:Int) (w2_4:Int) (w2_5:Int) (w2_6:Int) (w2_7:Int) (w2_8:(List Tapi_Node)) (w2_9:Int) (w2_10:Int) (w2_11:(List Int)) (w2_12:(List (List Int))):Hl Tryd.prog (fun x out=>Jl Tryd.prog Tryd.f14 [[.keep,.lst false]] out=some (.agg [vI x.Grain,eL false eTapi_Node x.Nodes],[])) (atW Tryd.prog Tryd.f14 [true,true,true,true,true,true,true,true] ⟨[(2,.ptr 0 0 0),(3,.ptr 1 0 0),(4,.ptr 2 0 0),(10,.ptr 3 (zt w2_9) 0),(11,vI w2_1)],[oX true true 4 (.agg [.int .u8 w2_2,.int .u8 w2_3,.int .u8 w2_4,vI w2_5]),oX false false 2 (.agg [vI w2_6,.ref 3 0 w2_8.length]),oX true false 2 (.agg [vI w2_7,.nils]),.row false false false false 3 (hole eTapi_Node w2_8 w2_9 (.agg [vI w2_10,.ref 4 0 w2_11.length,.ref 5 0 w2_12.length])),oR true 1 eI w2_11,.refs 6 (eF eI w2_12),.fam 1 true (eF eI w2_12)],323⟩) (Vw w2_0 w2_1 w2_2 w2_3 w2_4 w2_5 w2_6 w2_7 w2_8 w2_9 w2_10 w2_11 w2_12):=by
 refine hbr 5 [111,110] (?_) ?_
 ·refine hjn 7 (g_ref05_Bend_Of_j3_ok w2_5 w2_8 w2_9 w2_10 w2_11 w2_12) (wk_gcH (live:=[4]) (keep:=[2,3,4,5,6]) 3 eTapi_Node w2_8 w2_9 (.agg [vI w2_10,.ref 4 0 w2_11.length,.ref 5 0 w2_12.length]) 3 (fun f a=>by cases a <;> rfl) kr kr)
 refine hbr 3 [116,115] (?_) ?_
 ·refine hbd fun a64 q65=>hop 6 (fun _=>Qei (enc:=eTapi_Node) (L:=w2_8) (n:=w2_9) (a:=a64) (A:=.agg [vI w2_10,.ref 4 0 w2_11.length,.ref 5 0 w2_12.length]) (ob:=3) (w:=3) (A':=.agg [vI w2_5,.ref 4 0 w2_11.length,.ref 5 0 w2_12.length]) (v:=vI w2_5) (c:=0) kr kr q65 kr kr gE kr) <| hjn 2 (g_ref05_Bend_Of_j3_ok w2_6 w2_8 w2_9 w2_5 w2_11 w2_12) (wk_gcH (live:=[4]) (keep:=[2,3,4,5,6]) 3 eTapi_Node w2_8 w2_9 (.agg [vI w2_5,.ref 4 0 w2_11.length,.ref 5 0 w2_12.length]) 3 (fun f a=>by cases a <;> rfl) kr kr)
 refine hbr 3 [123,122] (?_) ?_
 ·refine hbd fun a68 q69=>hop 6 (fun _=>Xr (enc:=eTapi_Node) (L:=w2_8) (n:=w2_9) (a:=a68) (A:=.agg [vI w2_10,.ref 4 0 w2_11.length,.ref 5 0 w2_12.length]) (ob:=3) (w:=3) (c:=1) (ro:=false) (nr:=false) (fl:=false) kr kr q69 gE) <| hop 2 (fun _=>sgL false [] [] true gE) <| hoh 0 (fun _ _ h k=>Yz (enc:=eI) (l:=w2_11) (m:=([w2_5]:(List Int))) (w:=1) (bytes:=8) (ob:=4) (nr:=true) (fl:=true) (nr':=true) (fl':=true) (b:=.ref 7 0 1) (rds:=[7]) false kr kr kr kr gE kr h k) <| hop 2 (fun _=>Qei (enc:=eTapi_Node) (L:=w2_8) (n:=w2_9) (a:=a68) (A:=.agg [vI w2_10,.ref 4 0 w2_11.length,.ref 5 0 w2_12.length]) (ob:=3) (w:=3) (A':=.agg [vI w2_10,.ref 8 0 ((w2_11++([w2_5]:(List Int))).length),.ref 5 0 w2_12.length]) (v:=.ref 8 0 ((w2_11++([w2_5]:(List Int))).length)) (c:=1) kr kr q69 kr kr gE kr) <| hjn 2 (g_ref05_Bend_Of_j3_ok w2_6 w2_8 w2_9 w2_10 (w2_11++([w2_5]:(List Int))) w2_12) (wk_gcH (live:=[4]) (keep:=[2,3,8,5,6]) 3 eTapi_Node w2_8 w2_9 (.agg [vI w2_10,.ref 8 0 ((w2_11++([w2_5]:(List Int))).length),.ref 5 0 w2_12.length]) 3 (fun f a=>by cases a <;> rfl) kr kr)
 refine hbr 3 [136,135] (?_) ?_
 ·refine hbd fun a72 q73=>hop 4 (fun _=>Qei (enc:=eTapi_Node) (L:=w2_8) (n:=w2_9) (a:=a72) (A:=.agg [vI w2_10,.ref 4 0 w2_11.length,.ref 5 0 w2_12.length]) (ob:=3) (w:=3) (A':=.agg [vI w2_10,.nils,.ref 5 0 w2_12.length]) (v:=.nils) (c:=1) kr kr q73 kr kr gE kr) <| hjn 2 (g_ref05_Bend_Of_j4_ok w2_6 w2_8 w2_9 w2_10 w2_12) (wk_gcH (live:=[4]) (keep:=[2,3,5,6]) 3 eTapi_Node w2_8 w2_9 (.agg [vI w2_10,.nils,.ref 5 0 w2_12.length]) 3 (fun f a=>by cases a <;> rfl) kr kr)
 refine hbr 3 [141,140] (?_) ?_
 ·refine hbd fun a80 q81=>hop 6 (fun _=>Xr (enc:=eTapi_Node) (L:=w2_8) (n:=w2_9) (a:=a80) (A:=.agg [vI w2_10,.ref 4 0 w2_11.length,.ref 5 0 w2_12.length]) (ob:=3) (w:=3) (c:=2) (ro:=false) (nr:=false) (fl:=false) kr kr q81 gE) <| hop 2 (fun _=>sgL false [] [] true gE) <| hop 0 (fun _=>sg true 1 _ gE rfl) <| hoh 0 (fun _ _ h k=>Qw2 (enc:=eI) (ls:=w2_12) (q:=([w2_5]:(List Int))) (bytes:=24) (ob:=5) (j:=6) (tm:=8) (m:=7) kr kr kr kr gE kr h k) <| hop 2 (fun _=>Qei (enc:=eTapi_Node) (L:=w2_8) (n:=w2_9) (a:=a80) (A:=.agg [vI w2_10,.ref 4 0 w2_11.length,.ref 5 0 w2_12.length]) (ob:=3) (w:=3) (A':=.agg [vI w2_10,.ref 4 0 w2_11.length,.ref 9 0 ((w2_12++[([w2_5]:(List Int))]).length)]) (v:=.ref 9 0 ((w2_12++[([w2_5]:(List Int))]).length)) (c:=2) kr kr q81 kr kr gE kr) <| hwk 0 (wk_trans (wk_dead 8 gE) (wk_adoptA 9 6 7 (w:=1) (fl:=true) (enc:=eI) (ls:=w2_12) (b:=([w2_5]:(List Int))) [2,3,4,10,11,99,100,101,111,110,116,115,123,122,136,135,141,140,142,143,144,145,146,147,148,150,151,152,153] kr kr kr (and2 (safeAll_hole 3 3 eTapi_Node w2_8 w2_9 (.agg [vI w2_10,.ref 4 0 w2_11.length,.ref 9 0 ((w2_12++[([w2_5]:(List Int))]).length)]) (fun a=>rfl) kr kr) kr) rfl)) <| hjn 2 (g_ref05_Bend_Of_j3_ok w2_6 w2_8 w2_9 w2_10 w2_11 (w2_12++[([w2_5]:(List Int))])) (wk_gcH (live:=[4]) (keep:=[2,3,4,9,6]) 3 eTapi_Node w2_8 w2_9 (.agg [vI w2_10,.ref 4 0 w2_11.length,.ref 9 0 ((w2_12++[([w2_5]:(List Int))]).length)]) 3 (fun f a=>by cases a <;> rfl) kr kr)
 refine hbr 3 [155,154] (?_) ?_
 ·refine hbr 3 [157] (?_) ?_
  ·refine hwk 1 (Qew 5 6 (w:=1) (fl:=true) (enc:=eI) (ls:=w2_12) kr kr rfl) <| hbd fun a86 q87=>hop 4 (fun _=>Xr (enc:=eTapi_Node) (L:=w2_8) (n:=w2_9) (a:=a86) (A:=.agg [vI w2_10,.ref 4 0 w2_11.length,.ref 5 0 w2_12.length]) (ob:=3) (w:=3) (c:=2) (ro:=false) (nr:=false) (fl:=false) kr kr q87 gE) <| hoq 1 (fun _ _ h k=>Qbx (enc:=z1) (l:=w2_12) (ob:=5) (ro:=false) (nr:=true) (fl:=false) (lo:=none) (hi:=(some (vI w2_1))) (a:=0) (b:=w2_1) (w:=1) kr kr kr kr gE h k) fun q88=>hop 2 (fun _=>Qei (enc:=eTapi_Node) (L:=w2_8) (n:=w2_9) (a:=a86) (A:=.agg [vI w2_10,.ref 4 0 w2_11.length,.ref 5 0 w2_12.length]) (ob:=3) (w:=3) (A':=.agg [vI w2_10,.ref 4 0 w2_11.length,.ref 5 0 (zt w2_1 - zt (0:Int))]) (v:=.ref 5 0 (zt w2_1 - zt (0:Int))) (c:=2) kr kr q87 kr kr gE kr) <| hwk 2 (wcl 3 [F eI w2_11,Fp z1 w2_12 (a:=0) (b:=w2_1) q88] (enc:=eTapi_Node) (L:=w2_8) (n:=w2_9) (A:=.agg [vI w2_10,.ref 4 0 w2_11.length,.ref 5 0 (zt w2_1 - zt (0:Int))]) (bx:=false) (ro:=false) (nr:=false) (fl:=false) (w:=3) q87) <| hkn 0 (fun z89=>⟨(s54_68 w2_9 w2_1 w2_2)++[(155,vB true),(154,vB true),(156,vI w2_1),(157,vB true),(158,.ptr 3 (zt w2_9) 0),(159,.ptr 3 (zt w2_9) 0),(160,.ptr 3 (zt w2_9) 0),(161,.ptr 3 (zt w2_9) 2),(162,.ref 5 0 w2_12.length),(163,vI w2_1),(164,.ref 5 0 (zt w2_1 - zt (0:Int))),(165,.ptr 3 (zt w2_9) 0),(166,.ptr 3 (zt w2_9) 2),(322,.agg [vI w2_6,.ref 3 0 w2_8.length])],[(o54_63 w2_2 w2_3 w2_4 w2_5),(o54_64 w2_6 w2_8),(o54_64 w2_6 w2_8),.row false false false false 3 z89,(o54_65 w2_11),.row false true true false 1 (List.map z1 w2_12),.dead],323⟩) (show ((hole eTapi_Node w2_8 w2_9 (.agg [vI w2_10,.ref 4 0 w2_11.length,.ref 5 0 (zt w2_1 - zt (0:Int))])).set (zt w2_9) (.agg [vI w2_10,z1 w2_11,z2 (sub w2_12 0 w2_1)]))=List.map eTapi_Node (List.set w2_8 (zt w2_9) (Tapi_Node.mk w2_10 w2_11 (sub w2_12 0 w2_1))) from Qdj (enc:=eTapi_Node) (L:=w2_8) (n:=w2_9) (A:=.agg [vI w2_10,.ref 4 0 w2_11.length,.ref 5 0 (zt w2_1 - zt (0:Int))]) (b:=(Tapi_Node.mk w2_10 w2_11 (sub w2_12 0 w2_1)))) <| hwk 0 (wk_rowT 3 (enc:=eTapi_Node) (L:=(List.set w2_8 (zt w2_9) (Tapi_Node.mk w2_10 w2_11 (sub w2_12 0 w2_1)))) (bx:=false) (ro:=false) (nr:=false) (fl:=false) (w:=3) (fun a=>by cases a <;> rfl) kr rfl) <| hkn 0 (fun n90=>⟨(s54_68 w2_9 w2_1 w2_2)++[(155,vB true),(154,vB true),(156,vI w2_1),(157,vB true),(158,.ptr 3 (zt w2_9) 0),(159,.ptr 3 (zt w2_9) 0),(160,.ptr 3 (zt w2_9) 0),(161,.ptr 3 (zt w2_9) 2),(162,.ref 5 0 w2_12.length),(163,vI w2_1),(164,.ref 5 0 (zt w2_1 - zt (0:Int))),(165,.ptr 3 (zt w2_9) 0),(166,.ptr 3 (zt w2_9) 2),(322,.agg [vI w2_6,.ref 3 0 n90])],[(o54_63 w2_2 w2_3 w2_4 w2_5),oX false false 2 (.agg [vI w2_6,.ref 3 0 n90]),oX false false 2 (.agg [vI w2_6,.ref 3 0 n90]),oR false 3 eTapi_Node (List.set w2_8 (zt w2_9) (Tapi_Node.mk w2_10 w2_11 (sub w2_12 0 w2_1))),(o54_65 w2_11),.row false true true false 1 (List.map z1 w2_12),.dead],323⟩) (ls w2_8 (zt w2_9) (Tapi_Node.mk w2_10 w2_11 (sub w2_12 0 w2_1))) <| ?_
   refine hjn 0 (Qi5 w2_6 (List.set w2_8 (zt w2_9) (Tapi_Node.mk w2_10 w2_11 (sub w2_12 0 w2_1)))) (wz [2,3])
  refine hjn 3 (g_ref05_Bend_Of_j3_ok w2_6 w2_8 w2_9 w2_10 w2_11 w2_12) (wk_gcH (live:=[4]) (keep:=[2,3,4,5,6]) 3 eTapi_Node w2_8 w2_9 (.agg [vI w2_10,.ref 4 0 w2_11.length,.ref 5 0 w2_12.length]) 3 (fun f a=>by cases a <;> rfl) kr kr)
 refine hbr 3 [168,167] (?_) ?_
 ·refine hbr 4 [170,171] (?_) ?_
  ·refine hbd fun a95 q96=>hop 3 (fun _=>Xr (enc:=eTapi_Node) (L:=w2_8) (n:=w2_9) (a:=a95) (A:=.agg [vI w2_10,.ref 4 0 w2_11.length,.ref 5 0 w2_12.length]) (ob:=3) (w:=3) (c:=2) (ro:=false) (nr:=false) (fl:=false) kr kr q96 gE) <| hbd fun a97 q98=>hop 1 (fun _=>Qhm (enc:=eI) (ls:=w2_12) (x:=a97) (n:=w2_1) (ob:=5) (j:=6) kr kr q98 gE) <| hop 0 (fun _=>Qe8 (enc:=eI) (ls:=w2_12) (x:=a97) (n:=w2_1) (ob:=5) (j:=6) kr kr q98 gE) <| hbr 3 [180,181] (?_) ?_
   ·refine hop 5 (fun _=>Xr (enc:=eTapi_Node) (L:=w2_8) (n:=w2_9) (a:=a95) (A:=.agg [vI w2_10,.ref 4 0 w2_11.length,.ref 5 0 w2_12.length]) (ob:=3) (w:=3) (c:=2) (ro:=false) (nr:=false) (fl:=false) kr kr q96 gE) <| hop 1 (fun _=>Qhm (enc:=eI) (ls:=w2_12) (x:=a97) (n:=w2_1) (ob:=5) (j:=6) kr kr q98 gE) <| hop 0 (fun _=>Qe8 (enc:=eI) (ls:=w2_12) (x:=a97) (n:=w2_1) (ob:=5) (j:=6) kr kr q98 gE) <| hbd fun a101 q102=>hop 2 (fun _=>Qqf (enc:=eI) (ls:=w2_12) (x:=a97) (y:=a101) (n:=w2_1) (c:=0) (w:=1) (j:=6) (fl:=true) kr kr q98 q102 kr gE) <| hop 0 (fun _=>Qo8 (enc:=eI) (ls:=w2_12) (x:=a97) (y:=a101) (y':=w2_5) (n:=w2_1) (m:=0) (w:=1) (j:=6) (q:=5) (c:=0) (fl:=true) (v:=vI w2_5) kr kr kr q98 q102 kr kr kr kr gE) <| hkn 0 (fun n103=>⟨(s54_68 w2_9 w2_1 w2_2)++[(155,vB false),(154,vB false),(168,vB true),(167,vB true),(169,vI w2_1),(170,vB true),(171,vB true),(172,.ptr 3 (zt w2_9) 0),(173,.ptr 3 (zt w2_9) 0),(174,.ptr 3 (zt w2_9) 2),(175,.ref 5 0 n103),(176,vI w2_1),(177,.ptr 5 (zt w2_1) 0),(178,.ref (fid 6 (zt w2_1)) 0 a97.length),(179,vI (zn a97)),(180,vB true),(181,vB true),(182,.ptr 3 (zt w2_9) 0),(183,.ptr 3 (zt w2_9) 0),(184,.ptr 3 (zt w2_9) 2),(185,.ref 5 0 n103),(186,vI w2_1),(187,.ptr 5 (zt w2_1) 0),(188,.ref (fid 6 (zt w2_1)) 0 a97.length),(189,.ptr 0 0 3),(190,vI w2_5),(191,.ptr (fid 6 (zt w2_1)) (zt 0) 0)],[(o54_63 w2_2 w2_3 w2_4 w2_5),(o54_64 w2_6 w2_8),(o54_66 w2_7),.row false false false false 3 (hole eTapi_Node w2_8 w2_9 (.agg [vI w2_10,.ref 4 0 w2_11.length,.ref 5 0 n103])),oR true 1 eI w2_11,.refs 6 (eF eI (List.set w2_12 (zt w2_1) (List.set a97 (zt 0) w2_5))),.fam 1 true (eF eI (List.set w2_12 (zt w2_1) (List.set a97 (zt 0) w2_5)))],323⟩) (ls w2_12 (zt w2_1) (List.set a97 (zt 0) w2_5)) <| hjn 2 (g_ref05_Bend_Of_j3_ok w2_6 w2_8 w2_9 w2_10 w2_11 (List.set w2_12 (zt w2_1) (List.set a97 (zt 0) w2_5))) (wk_gcH (live:=[4]) (keep:=[2,3,4,5,6]) 3 eTapi_Node w2_8 w2_9 (.agg [vI w2_10,.ref 4 0 w2_11.length,.ref 5 0 ((List.set w2_12 (zt w2_1) (List.set a97 (zt 0) w2_5)).length)]) 3 (fun f a=>by cases a <;> rfl) kr kr)
   refine hjn 3 (g_ref05_Bend_Of_j3_ok w2_6 w2_8 w2_9 w2_10 w2_11 w2_12) (wk_gcH (live:=[4]) (keep:=[2,3,4,5,6]) 3 eTapi_Node w2_8 w2_9 (.agg [vI w2_10,.ref 4 0 w2_11.length,.ref 5 0 w2_12.length]) 3 (fun f a=>by cases a <;> rfl) kr kr)
  refine hjn 13 (g_ref05_Bend_Of_j3_ok w2_6 w2_8 w2_9 w2_10 w2_11 w2_12) (wk_gcH (live:=[4]) (keep:=[2,3,4,5,6]) 3 eTapi_Node w2_8 w2_9 (.agg [vI w2_10,.ref 4 0 w2_11.length,.ref 5 0 w2_12.length]) 3 (fun f a=>by cases a <;> rfl) kr kr)
 refine hbr 3 [193,192] (?_) ?_
 ·refine hbr 3 [195] (?_) ?_
  ·refine hbd fun a108 q109=>hwk 1 (Q0c 5 6 (w:=1) (fl:=true) (enc:=eI) (ls:=w2_12) (x:=a108) (n:=w2_1) [2,3,4,10,11,99,100,101,111,110,116,115,123,122,136,135,141,140,155,154,168,167,193,192,194,195] kr kr q109 (Q5i (safeAll_hole 3 3 eTapi_Node w2_8 w2_9 (.agg [vI w2_10,.ref 4 0 w2_11.length,.ref 5 0 w2_12.length]) (fun a=>rfl) kr kr) kr) rfl) <| hkn 0 (fun n110=>⟨(s54_68 w2_9 w2_1 w2_2)++[(155,vB false),(154,vB false),(168,vB false),(167,vB false),(193,vB true),(192,vB true),(194,vI w2_1),(195,vB true)],[(o54_63 w2_2 w2_3 w2_4 w2_5),(o54_64 w2_6 w2_8),(o54_66 w2_7),.row false false false false 3 (hole eTapi_Node w2_8 w2_9 (.agg [vI w2_10,.ref 4 0 w2_11.length,.ref 5 0 n110])),oR true 1 eI w2_11,.row false false false false 1 ((Q3 6 0 (eF eI (List.set w2_12 (zt w2_1) ([]:List Int)))).set (zt w2_1) (.ref 7 0 a108.length)),.fam 1 true (eF eI (List.set w2_12 (zt w2_1) ([]:List Int))),oR true 1 eI a108],323⟩) (ls w2_12 (zt w2_1) ([]:List Int)) <| hbd fun a111 q112=>hop 4 (fun _=>Xr (enc:=eTapi_Node) (L:=w2_8) (n:=w2_9) (a:=a111) (A:=.agg [vI w2_10,.ref 4 0 w2_11.length,.ref 5 0 ((List.set w2_12 (zt w2_1) ([]:List Int)).length)]) (ob:=3) (w:=3) (c:=2) (ro:=false) (nr:=false) (fl:=false) kr kr q112 gE) <| hop 4 (fun _=>Xr (enc:=eTapi_Node) (L:=w2_8) (n:=w2_9) (a:=a111) (A:=.agg [vI w2_10,.ref 4 0 w2_11.length,.ref 5 0 ((List.set w2_12 (zt w2_1) ([]:List Int)).length)]) (ob:=3) (w:=3) (c:=2) (ro:=false) (nr:=false) (fl:=false) kr kr q112 gE) <| hop 1 (fun _=>Q31 (enc:=eI) (ls:=(List.set w2_12 (zt w2_1) ([]:List Int))) (x:=([]:List Int)) (n:=w2_1) (ob:=5) (j:=6) (m:=7) (q:=a108.length) kr kr (lkI_set ([]:List Int) q109) gE) <| hop 0 (fun _=>Q48 (enc:=eI) (ls:=(List.set w2_12 (zt w2_1) ([]:List Int))) (x:=([]:List Int)) (n:=w2_1) (ob:=5) (j:=6) (m:=7) (q:=a108.length) kr kr (lkI_set ([]:List Int) q109) gE) <| hop 0 (fun _=>sgL false [] [] true gE) <| ?_
   refine hoh 0 (fun _ _ h k=>Yz (enc:=eI) (l:=a108) (m:=([0]:(List Int))) (w:=1) (bytes:=8) (ob:=7) (nr:=true) (fl:=true) (nr':=true) (fl':=true) (b:=.ref 8 0 1) (rds:=[8]) false kr kr kr kr gE kr h k) <| hop 0 (fun _=>Q31 (enc:=eI) (ls:=(List.set w2_12 (zt w2_1) ([]:List Int))) (x:=([]:List Int)) (n:=w2_1) (ob:=5) (j:=6) (m:=7) (q:=a108.length) kr kr (lkI_set ([]:List Int) q109) gE) <| hop 0 (fun _=>Q2i (enc:=eI) (ls:=(List.set w2_12 (zt w2_1) ([]:List Int))) (x:=([]:List Int)) (n:=w2_1) (ob:=5) (j:=6) (m0:=7) (q0:=a108.length) (m:=9) (q:=(a108++([0]:(List Int))).length) kr kr (lkI_set ([]:List Int) q109) kr gE kr) <| hwk 0 (wk_trans (wk_adopt 5 6 9 (w:=1) (fl:=true) (enc:=eI) (ls:=(List.set w2_12 (zt w2_1) ([]:List Int))) (x:=([]:List Int)) (b:=(a108++([0]:(List Int)))) (n:=w2_1) [2,3,4,10,11,99,100,101,111,110,116,115,123,122,136,135,141,140,155,154,168,167,193,192,194,195,196,197,198,199,200,201,202,203,204,205,206,207,208,210] kr kr kr (lkI_set ([]:List Int) q109) (and2 (safeAll_hole 3 3 eTapi_Node w2_8 w2_9 (.agg [vI w2_10,.ref 4 0 w2_11.length,.ref 5 0 ((List.set w2_12 (zt w2_1) ([]:List Int)).length)]) (fun a=>rfl) kr kr) kr) rfl) (wkv (fun n113=>⟨(s54_68 w2_9 w2_1 w2_2)++[(155,vB false),(154,vB false),(168,vB false),(167,vB false),(193,vB true),(192,vB true),(194,vI w2_1),(195,vB true),(196,.ptr 3 (zt w2_9) 0),(197,.ptr 3 (zt w2_9) 0),(198,.ptr 3 (zt w2_9) 2),(199,.ref 5 0 n113),(200,vI w2_1),(201,.ptr 3 (zt w2_9) 0),(202,.ptr 3 (zt w2_9) 0),(203,.ptr 3 (zt w2_9) 2),(204,.ref 5 0 n113),(205,vI w2_1),(206,.ptr 5 (zt w2_1) 0),(207,.ref 7 0 a108.length),(208,.ref 8 0 1),(210,.ptr 5 (zt w2_1) 0)],[(o54_63 w2_2 w2_3 w2_4 w2_5),(o54_64 w2_6 w2_8),(o54_66 w2_7),.row false false false false 3 (hole eTapi_Node w2_8 w2_9 (.agg [vI w2_10,.ref 4 0 w2_11.length,.ref 5 0 n113])),oR true 1 eI w2_11,.refs 6 (eF eI (List.set (List.set w2_12 (zt w2_1) ([]:List Int)) (zt w2_1) (a108++([0]:(List Int))))),.fam 1 true (eF eI (List.set (List.set w2_12 (zt w2_1) ([]:List Int)) (zt w2_1) (a108++([0]:(List Int))))),.dead,.row false false true true 1 [vI 0],.dead],323⟩) (ls (List.set w2_12 (zt w2_1) ([]:List Int)) (zt w2_1) (a108++([0]:(List Int)))))) <| hjn 2 (g_ref05_Bend_Of_j3_ok w2_6 w2_8 w2_9 w2_10 w2_11 (List.set (List.set w2_12 (zt w2_1) ([]:List Int)) (zt w2_1) (a108++([0]:(List Int))))) (wk_gcH (live:=[4]) (keep:=[2,3,4,5,6]) 3 eTapi_Node w2_8 w2_9 (.agg [vI w2_10,.ref 4 0 w2_11.length,.ref 5 0 ((List.set (List.set w2_12 (zt w2_1) ([]:List Int)) (zt w2_1) (a108++([0]:(List Int)))).length)]) 3 (fun f a=>by cases a <;> rfl) kr kr)
  refine hjn 3 (g_ref05_Bend_Of_j3_ok w2_6 w2_8 w2_9 w2_10 w2_11 w2_12) (wk_gcH (live:=[4]) (keep:=[2,3,4,5,6]) 3 eTapi_Node w2_8 w2_9 (.agg [vI w2_10,.ref 4 0 w2_11.length,.ref 5 0 w2_12.length]) 3 (fun f a=>by cases a <;> rfl) kr kr)
 refine hbr 3 [212,211] (?_) ?_
 ·refine hbr 4 [214,215] (?_) ?_
  ·refine hbd fun a118 q119=>hop 3 (fun _=>Xr (enc:=eTapi_Node) (L:=w2_8) (n:=w2_9) (a:=a118) (A:=.agg [vI w2_10,.ref 4 0 w2_11.length,.ref 5 0 w2_12.length]) (ob:=3) (w:=3) (c:=2) (ro:=false) (nr:=false) (fl:=false) kr kr q119 gE) <| hbd fun a120 q121=>hop 1 (fun _=>Qhm (enc:=eI) (ls:=w2_12) (x:=a120) (n:=w2_1) (ob:=5) (j:=6) kr kr q121 gE) <| hop 0 (fun _=>Qe8 (enc:=eI) (ls:=w2_12) (x:=a120) (n:=w2_1) (ob:=5) (j:=6) kr kr q121 gE) <| hbr 3 [224,225] (?_) ?_
   ·refine hop 5 (fun _=>Xr (enc:=eTapi_Node) (L:=w2_8) (n:=w2_9) (a:=a118) (A:=.agg [vI w2_10,.ref 4 0 w2_11.length,.ref 5 0 w2_12.length]) (ob:=3) (w:=3) (c:=2) (ro:=false) (nr:=false) (fl:=false) kr kr q119 gE) <| hop 4 (fun _=>Xr (enc:=eTapi_Node) (L:=w2_8) (n:=w2_9) (a:=a118) (A:=.agg [vI w2_10,.ref 4 0 w2_11.length,.ref 5 0 w2_12.length]) (ob:=3) (w:=3) (c:=2) (ro:=false) (nr:=false) (fl:=false) kr kr q119 gE) <| hop 1 (fun _=>Qhm (enc:=eI) (ls:=w2_12) (x:=a120) (n:=w2_1) (ob:=5) (j:=6) kr kr q121 gE) <| hop 0 (fun _=>Qe8 (enc:=eI) (ls:=w2_12) (x:=a120) (n:=w2_1) (ob:=5) (j:=6) kr kr q121 gE) <| hoh 1 (fun _ _ h k=>mkL (enc:=eI) (z:=(0:Int)) (z0:=vI 0) (n:=(zn a120)) (m:=(zn a120)) (w:=1) (bytes:=8) [] true kr kr gE kr h k) <| hop 0 (fun _=>Qhm (enc:=eI) (ls:=w2_12) (x:=a120) (n:=w2_1) (ob:=5) (j:=6) kr kr q121 gE) <| hop 0 (fun _=>Q3l (enc:=eI) (ls:=w2_12) (x:=a120) (n:=w2_1) (ob:=5) (j:=6) (m:=7) (q:=(List.replicate (zt (zn a120)) (0:Int)).length) kr kr q121 kr gE kr) <| hwk 0 (wk_trans (wk_adopt 5 6 7 (w:=1) (fl:=true) (enc:=eI) (ls:=w2_12) (x:=a120) (b:=(List.replicate (zt (zn a120)) (0:Int))) (n:=w2_1) [2,3,4,10,11,99,100,101,111,110,116,115,123,122,136,135,141,140,155,154,168,167,193,192,212,211,213,214,215,216,217,218,219,220,221,223,224,225,226,227,228,229,230,231,232,233,234,235,236,238,240] kr kr kr q121 (and2 (safeAll_hole 3 3 eTapi_Node w2_8 w2_9 (.agg [vI w2_10,.ref 4 0 w2_11.length,.ref 5 0 w2_12.length]) (fun a=>rfl) kr kr) kr) rfl) (wkv (fun n124=>⟨(s54_68 w2_9 w2_1 w2_2)++[(155,vB false),(154,vB false),(168,vB false),(167,vB false),(193,vB false),(192,vB false),(212,vB true),(211,vB true),(213,vI w2_1),(214,vB true),(215,vB true),(216,.ptr 3 (zt w2_9) 0),(217,.ptr 3 (zt w2_9) 0),(218,.ptr 3 (zt w2_9) 2),(219,.ref 5 0 n124),(220,vI w2_1),(221,.ptr 5 (zt w2_1) 0),(223,vI (zn a120)),(224,vB true),(225,vB true),(226,.ptr 3 (zt w2_9) 0),(227,.ptr 3 (zt w2_9) 0),(228,.ptr 3 (zt w2_9) 2),(229,.ref 5 0 n124),(230,vI w2_1),(231,.ptr 3 (zt w2_9) 0),(232,.ptr 3 (zt w2_9) 0),(233,.ptr 3 (zt w2_9) 2),(234,.ref 5 0 n124),(235,vI w2_1),(236,.ptr 5 (zt w2_1) 0),(238,vI (zn a120)),(240,.ptr 5 (zt w2_1) 0)],[(o54_63 w2_2 w2_3 w2_4 w2_5),(o54_64 w2_6 w2_8),(o54_66 w2_7),.row false false false false 3 (hole eTapi_Node w2_8 w2_9 (.agg [vI w2_10,.ref 4 0 w2_11.length,.ref 5 0 n124])),oR true 1 eI w2_11,.refs 6 (eF eI (List.set w2_12 (zt w2_1) (List.replicate (zt (zn a120)) (0:Int)))),.fam 1 true (eF eI (List.set w2_12 (zt w2_1) (List.replicate (zt (zn a120)) (0:Int)))),.dead],323⟩) (ls w2_12 (zt w2_1) (List.replicate (zt (zn a120)) (0:Int))))) <| hop 4 (fun _=>Xr (enc:=eTapi_Node) (L:=w2_8) (n:=w2_9) (a:=a118) (A:=.agg [vI w2_10,.ref 4 0 w2_11.length,.ref 5 0 ((List.set w2_12 (zt w2_1) (List.replicate (zt (zn a120)) (0:Int))).length)]) (ob:=3) (w:=3) (c:=2) (ro:=false) (nr:=false) (fl:=false) kr kr q119 gE) <| ?_
    refine hop 1 (fun _=>Qhm (enc:=eI) (ls:=(List.set w2_12 (zt w2_1) (List.replicate (zt (zn a120)) (0:Int)))) (x:=(List.replicate (zt (zn a120)) (0:Int))) (n:=w2_1) (ob:=5) (j:=6) kr kr (lkI_set (List.replicate (zt (zn a120)) (0:Int)) q121) gE) <| hop 0 (fun _=>Qe8 (enc:=eI) (ls:=(List.set w2_12 (zt w2_1) (List.replicate (zt (zn a120)) (0:Int)))) (x:=(List.replicate (zt (zn a120)) (0:Int))) (n:=w2_1) (ob:=5) (j:=6) kr kr (lkI_set (List.replicate (zt (zn a120)) (0:Int)) q121) gE) <| hbd fun a125 q126=>hop 2 (fun _=>Qqf (enc:=eI) (ls:=(List.set w2_12 (zt w2_1) (List.replicate (zt (zn a120)) (0:Int)))) (x:=(List.replicate (zt (zn a120)) (0:Int))) (y:=a125) (n:=w2_1) (c:=0) (w:=1) (j:=6) (fl:=true) kr kr (lkI_set (List.replicate (zt (zn a120)) (0:Int)) q121) q126 kr gE) <| hop 0 (fun _=>Qo8 (enc:=eI) (ls:=(List.set w2_12 (zt w2_1) (List.replicate (zt (zn a120)) (0:Int)))) (x:=(List.replicate (zt (zn a120)) (0:Int))) (y:=a125) (y':=w2_6) (n:=w2_1) (m:=0) (w:=1) (j:=6) (q:=5) (c:=0) (fl:=true) (v:=vI w2_6) kr kr kr (lkI_set (List.replicate (zt (zn a120)) (0:Int)) q121) q126 kr kr kr kr gE) <| hkn 0 (fun n127=>⟨(s54_68 w2_9 w2_1 w2_2)++[(155,vB false),(154,vB false),(168,vB false),(167,vB false),(193,vB false),(192,vB false),(212,vB true),(211,vB true),(213,vI w2_1),(214,vB true),(215,vB true),(216,.ptr 3 (zt w2_9) 0),(217,.ptr 3 (zt w2_9) 0),(218,.ptr 3 (zt w2_9) 2),(219,.ref 5 0 n127),(220,vI w2_1),(221,.ptr 5 (zt w2_1) 0),(223,vI (zn a120)),(224,vB true),(225,vB true),(226,.ptr 3 (zt w2_9) 0),(227,.ptr 3 (zt w2_9) 0),(228,.ptr 3 (zt w2_9) 2),(229,.ref 5 0 n127),(230,vI w2_1),(231,.ptr 3 (zt w2_9) 0),(232,.ptr 3 (zt w2_9) 0),(233,.ptr 3 (zt w2_9) 2),(234,.ref 5 0 n127),(235,vI w2_1),(236,.ptr 5 (zt w2_1) 0),(238,vI (zn a120)),(240,.ptr 5 (zt w2_1) 0),(241,.ptr 3 (zt w2_9) 0),(242,.ptr 3 (zt w2_9) 0),(243,.ptr 3 (zt w2_9) 2),(244,.ref 5 0 n127),(245,vI w2_1),(246,.ptr 5 (zt w2_1) 0),(247,.ref (fid 6 (zt w2_1)) 0 ((List.replicate (zt (zn a120)) (0:Int)).length)),(248,.ptr 1 0 0),(249,vI w2_6),(250,.ptr (fid 6 (zt w2_1)) (zt 0) 0)],[(o54_63 w2_2 w2_3 w2_4 w2_5),(o54_64 w2_6 w2_8),(o54_66 w2_7),.row false false false false 3 (hole eTapi_Node w2_8 w2_9 (.agg [vI w2_10,.ref 4 0 w2_11.length,.ref 5 0 n127])),oR true 1 eI w2_11,.refs 6 (eF eI (List.set (List.set w2_12 (zt w2_1) (List.replicate (zt (zn a120)) (0:Int))) (zt w2_1) (List.set (List.replicate (zt (zn a120)) (0:Int)) (zt 0) w2_6))),.fam 1 true (eF eI (List.set (List.set w2_12 (zt w2_1) (List.replicate (zt (zn a120)) (0:Int))) (zt w2_1) (List.set (List.replicate (zt (zn a120)) (0:Int)) (zt 0) w2_6))),.dead],323⟩) (ls (List.set w2_12 (zt w2_1) (List.replicate (zt (zn a120)) (0:Int))) (zt w2_1) (List.set (List.replicate (zt (zn a120)) (0:Int)) (zt 0) w2_6)) <| hjn 2 (g_ref05_Bend_Of_j3_ok w2_6 w2_8 w2_9 w2_10 w2_11 (List.set (List.set w2_12 (zt w2_1) (List.replicate (zt (zn a120)) (0:Int))) (zt w2_1) (List.set (List.replicate (zt (zn a120)) (0:Int)) (zt 0) w2_6))) (wk_gcH (live:=[4]) (keep:=[2,3,4,5,6]) 3 eTapi_Node w2_8 w2_9 (.agg [vI w2_10,.ref 4 0 w2_11.length,.ref 5 0 ((List.set (List.set w2_12 (zt w2_1) (List.replicate (zt (zn a120)) (0:Int))) (zt w2_1) (List.set (List.replicate (zt (zn a120)) (0:Int)) (zt 0) w2_6)).length)]) 3 (fun f a=>by cases a <;> rfl) kr kr)
   refine hjn 3 (g_ref05_Bend_Of_j3_ok w2_6 w2_8 w2_9 w2_10 w2_11 w2_12) (wk_gcH (live:=[4]) (keep:=[2,3,4,5,6]) 3 eTapi_Node w2_8 w2_9 (.agg [vI w2_10,.ref 4 0 w2_11.length,.ref 5 0 w2_12.length]) 3 (fun f a=>by cases a <;> rfl) kr kr)
  refine hjn 13 (g_ref05_Bend_Of_j3_ok w2_6 w2_8 w2_9 w2_10 w2_11 w2_12) (wk_gcH (live:=[4]) (keep:=[2,3,4,5,6]) 3 eTapi_Node w2_8 w2_9 (.agg [vI w2_10,.ref 4 0 w2_11.length,.ref 5 0 w2_12.length]) 3 (fun f a=>by cases a <;> rfl) kr kr)
 refine hbr 3 [252,251] (?_) ?_
 ·refine hbr 3 [254] (?_) ?_
  ·refine hbd fun a132 q133=>hop 5 (fun _=>Xr (enc:=eTapi_Node) (L:=w2_8) (n:=w2_9) (a:=a132) (A:=.agg [vI w2_10,.ref 4 0 w2_11.length,.ref 5 0 w2_12.length]) (ob:=3) (w:=3) (c:=2) (ro:=false) (nr:=false) (fl:=false) kr kr q133 gE) <| hbd fun a134 q135=>hop 1 (fun _=>Qhm (enc:=eI) (ls:=w2_12) (x:=a134) (n:=w2_1) (ob:=5) (j:=6) kr kr q135 gE) <| hop 0 (fun _=>Qe8 (enc:=eI) (ls:=w2_12) (x:=a134) (n:=w2_1) (ob:=5) (j:=6) kr kr q135 gE) <| hlp 4 (fun s136=>⟨[(3,.ptr 0 0 0),(4,.ptr 1 0 0),(10,.ptr 2 (zt w2_9) 0),(11,vI w2_1),(12,vI s136.1),(13,vI s136.2.1)],[oX false false 2 (.agg [vI w2_6,.ref 2 0 w2_8.length]),(o54_66 w2_7),.row false false false false 3 (hole eTapi_Node w2_8 w2_9 (.agg [vI w2_10,.ref 3 0 w2_11.length,.ref 4 0 s136.2.2.length])),oR true 1 eI w2_11,.refs 5 (eF eI s136.2.2),.fam 1 true (eF eI s136.2.2)],323⟩) (fun v=>(.exit 5,⟨[(3,.ptr 0 0 0),(4,.ptr 1 0 0)],[oX false false 2 (.agg [vI w2_6,.ref 2 0 w2_8.length]),(o54_66 w2_7),.row false false false false 3 (hole eTapi_Node w2_8 w2_9 (.agg [vI w2_10,.ref 3 0 w2_11.length,.ref 4 0 v.length])),oR true 1 eI w2_11,.refs 5 (eF eI v),.fam 1 true (eF eI v)],323⟩)) (wk_gcH (live:=[3,4,10,11,12,13]) (keep:=[1,2,3,4,5,6]) 3 eTapi_Node w2_8 w2_9 (.agg [vI w2_10,.ref 4 0 w2_11.length,.ref 5 0 w2_12.length]) 3 (fun f a=>by cases a <;> rfl) kr kr) (fun s136=>?_) fun x150=>?_
   ·refine hbr 3 [266] (?_) ?_
    ·refine hop 4 (fun _=>Xr (enc:=eTapi_Node) (L:=w2_8) (n:=w2_9) (a:=a132) (A:=.agg [vI w2_10,.ref 3 0 w2_11.length,.ref 4 0 s136.2.2.length]) (ob:=2) (w:=3) (c:=2) (ro:=false) (nr:=false) (fl:=false) kr kr q133 gE) <| hbd fun a139 q140=>hop 1 (fun _=>Qhm (enc:=eI) (ls:=s136.2.2) (x:=a139) (n:=w2_1) (ob:=4) (j:=5) kr kr q140 gE) <| hop 0 (fun _=>Qe8 (enc:=eI) (ls:=s136.2.2) (x:=a139) (n:=w2_1) (ob:=4) (j:=5) kr kr q140 gE) <| hbd fun a141 q142=>hop 1 (fun _=>Qqf (enc:=eI) (ls:=s136.2.2) (x:=a139) (y:=a141) (n:=w2_1) (c:=s136.1) (w:=1) (j:=5) (fl:=true) kr kr q140 q142 kr gE) <| hop 0 (fun _=>Q2f (enc:=eI) (ls:=s136.2.2) (x:=a139) (y:=a141) (n:=w2_1) (m:=s136.1) (w:=1) (j:=5) (c:=0) (fl:=true) kr kr q140 q142 kr gE) <| hop 5 (fun _=>Xr (enc:=eTapi_Node) (L:=w2_8) (n:=w2_9) (a:=a132) (A:=.agg [vI w2_10,.ref 3 0 w2_11.length,.ref 4 0 s136.2.2.length]) (ob:=2) (w:=3) (c:=2) (ro:=false) (nr:=false) (fl:=false) kr kr q133 gE) <| hop 1 (fun _=>Qhm (enc:=eI) (ls:=s136.2.2) (x:=a139) (n:=w2_1) (ob:=4) (j:=5) kr kr q140 gE) <| ?_
     refine hop 0 (fun _=>Qe8 (enc:=eI) (ls:=s136.2.2) (x:=a139) (n:=w2_1) (ob:=4) (j:=5) kr kr q140 gE) <| hop 4 (fun _=>Xr (enc:=eTapi_Node) (L:=w2_8) (n:=w2_9) (a:=a132) (A:=.agg [vI w2_10,.ref 3 0 w2_11.length,.ref 4 0 s136.2.2.length]) (ob:=2) (w:=3) (c:=2) (ro:=false) (nr:=false) (fl:=false) kr kr q133 gE) <| hop 1 (fun _=>Qhm (enc:=eI) (ls:=s136.2.2) (x:=a139) (n:=w2_1) (ob:=4) (j:=5) kr kr q140 gE) <| hop 0 (fun _=>Qe8 (enc:=eI) (ls:=s136.2.2) (x:=a139) (n:=w2_1) (ob:=4) (j:=5) kr kr q140 gE) <| hbd fun a143 q144=>hop 1 (fun _=>Qqf (enc:=eI) (ls:=s136.2.2) (x:=a139) (y:=a143) (n:=w2_1) (c:=s136.2.1) (w:=1) (j:=5) (fl:=true) kr kr q140 q144 kr gE) <| hop 0 (fun _=>Q2f (enc:=eI) (ls:=s136.2.2) (x:=a139) (y:=a143) (n:=w2_1) (m:=s136.2.1) (w:=1) (j:=5) (c:=0) (fl:=true) kr kr q140 q144 kr gE) <| hop 0 (fun _=>Qqf (enc:=eI) (ls:=s136.2.2) (x:=a139) (y:=a141) (n:=w2_1) (c:=s136.1) (w:=1) (j:=5) (fl:=true) kr kr q140 q142 kr gE) <| hop 0 (fun _=>Qo8 (enc:=eI) (ls:=s136.2.2) (x:=a139) (y:=a141) (y':=a143) (n:=w2_1) (m:=s136.1) (w:=1) (j:=5) (q:=4) (c:=0) (fl:=true) (v:=vI a143) kr kr kr q140 q142 kr kr kr kr gE) <| ?_
     refine hkn 0 (fun n148=>⟨(s54_69 (12,vI s136.1) (13,vI s136.2.1) (264,vI s136.1) (265,vI s136.2.1) (272,.ref 4 0 n148) (275,.ref (fid 5 (zt w2_1)) 0 a139.length) (276,vI s136.1) (277,.ptr (fid 5 (zt w2_1)) (zt s136.1) 0) (278,vI a141) (14,vI a141) (282,.ref 4 0 n148) (285,.ref (fid 5 (zt w2_1)) 0 a139.length) (286,vI s136.1) (290,.ref 4 0 n148) (293,.ref (fid 5 (zt w2_1)) 0 a139.length) (294,vI s136.2.1) (295,.ptr (fid 5 (zt w2_1)) (zt s136.2.1) 0) w2_9 w2_1 a143)++[(297,.ptr (fid 5 (zt w2_1)) (zt s136.1) 0)],[oX false false 2 (.agg [vI w2_6,.ref 2 0 w2_8.length]),(o54_66 w2_7),.row false false false false 3 (hole eTapi_Node w2_8 w2_9 (.agg [vI w2_10,.ref 3 0 w2_11.length,.ref 4 0 n148])),oR true 1 eI w2_11,.refs 5 (eF eI (List.set s136.2.2 (zt w2_1) (List.set a139 (zt s136.1) a143))),.fam 1 true (eF eI (List.set s136.2.2 (zt w2_1) (List.set a139 (zt s136.1) a143)))],323⟩) (ls s136.2.2 (zt w2_1) (List.set a139 (zt s136.1) a143)) <| hop 3 (fun _=>Xr (enc:=eTapi_Node) (L:=w2_8) (n:=w2_9) (a:=a132) (A:=.agg [vI w2_10,.ref 3 0 w2_11.length,.ref 4 0 ((List.set s136.2.2 (zt w2_1) (List.set a139 (zt s136.1) a143)).length)]) (ob:=2) (w:=3) (c:=2) (ro:=false) (nr:=false) (fl:=false) kr kr q133 gE) <| hop 1 (fun _=>Qhm (enc:=eI) (ls:=(List.set s136.2.2 (zt w2_1) (List.set a139 (zt s136.1) a143))) (x:=(List.set a139 (zt s136.1) a143)) (n:=w2_1) (ob:=4) (j:=5) kr kr (lkI_set (List.set a139 (zt s136.1) a143) q140) gE) <| hop 0 (fun _=>Qe8 (enc:=eI) (ls:=(List.set s136.2.2 (zt w2_1) (List.set a139 (zt s136.1) a143))) (x:=(List.set a139 (zt s136.1) a143)) (n:=w2_1) (ob:=4) (j:=5) kr kr (lkI_set (List.set a139 (zt s136.1) a143) q140) gE) <| hbd fun a145 q146=>hop 2 (fun _=>Qqf (enc:=eI) (ls:=(List.set s136.2.2 (zt w2_1) (List.set a139 (zt s136.1) a143))) (x:=(List.set a139 (zt s136.1) a143)) (y:=a145) (n:=w2_1) (c:=s136.2.1) (w:=1) (j:=5) (fl:=true) kr kr (lkI_set (List.set a139 (zt s136.1) a143) q140) q146 kr gE) <| hop 0 (fun _=>Qo8 (enc:=eI) (ls:=(List.set s136.2.2 (zt w2_1) (List.set a139 (zt s136.1) a143))) (x:=(List.set a139 (zt s136.1) a143)) (y:=a145) (y':=a141) (n:=w2_1) (m:=s136.2.1) (w:=1) (j:=5) (q:=4) (c:=0) (fl:=true) (v:=vI a141) kr kr kr (lkI_set (List.set a139 (zt s136.1) a143) q140) q146 kr kr kr kr gE) <| hkn 0 (fun n147=>⟨(s54_69 (12,vI s136.1) (13,vI s136.2.1) (264,vI s136.1) (265,vI s136.2.1) (272,.ref 4 0 n147) (275,.ref (fid 5 (zt w2_1)) 0 a139.length) (276,vI s136.1) (277,.ptr (fid 5 (zt w2_1)) (zt s136.1) 0) (278,vI a141) (14,vI a141) (282,.ref 4 0 n147) (285,.ref (fid 5 (zt w2_1)) 0 a139.length) (286,vI s136.1) (290,.ref 4 0 n147) (293,.ref (fid 5 (zt w2_1)) 0 a139.length) (294,vI s136.2.1) (295,.ptr (fid 5 (zt w2_1)) (zt s136.2.1) 0) w2_9 w2_1 a143)++[(297,.ptr (fid 5 (zt w2_1)) (zt s136.1) 0),(298,.ptr 2 (zt w2_9) 0),(299,.ptr 2 (zt w2_9) 0),(300,.ptr 2 (zt w2_9) 2),(301,.ref 4 0 n147),(302,vI w2_1),(303,.ptr 4 (zt w2_1) 0),(304,.ref (fid 5 (zt w2_1)) 0 ((List.set a139 (zt s136.1) a143).length)),(305,vI s136.2.1),(306,vI a141),(307,.ptr (fid 5 (zt w2_1)) (zt s136.2.1) 0)],[oX false false 2 (.agg [vI w2_6,.ref 2 0 w2_8.length]),(o54_66 w2_7),.row false false false false 3 (hole eTapi_Node w2_8 w2_9 (.agg [vI w2_10,.ref 3 0 w2_11.length,.ref 4 0 n147])),oR true 1 eI w2_11,.refs 5 (eF eI (List.set (List.set s136.2.2 (zt w2_1) (List.set a139 (zt s136.1) a143)) (zt w2_1) (List.set (List.set a139 (zt s136.1) a143) (zt s136.2.1) a141))),.fam 1 true (eF eI (List.set (List.set s136.2.2 (zt w2_1) (List.set a139 (zt s136.1) a143)) (zt w2_1) (List.set (List.set a139 (zt s136.1) a143) (zt s136.2.1) a141)))],323⟩) (ls (List.set s136.2.2 (zt w2_1) (List.set a139 (zt s136.1) a143)) (zt w2_1) (List.set (List.set a139 (zt s136.1) a143) (zt s136.2.1) a141)) <| hnx 6 (wk_gcH (live:=[3,4,10,11,12,13]) (keep:=[0,1,2,3,4,5]) 2 eTapi_Node w2_8 w2_9 (.agg [vI w2_10,.ref 3 0 w2_11.length,.ref 4 0 ((List.set (List.set s136.2.2 (zt w2_1) (List.set a139 (zt s136.1) a143)) (zt w2_1) (List.set (List.set a139 (zt s136.1) a143) (zt s136.2.1) a141)).length)]) 3 (fun f a=>by cases a <;> rfl) kr kr)
    refine hdx 1 (wk_gcH (live:=[3,4]) (keep:=[0,1,2,3,4,5]) 2 eTapi_Node w2_8 w2_9 (.agg [vI w2_10,.ref 3 0 w2_11.length,.ref 4 0 s136.2.2.length]) 3 (fun f a=>by cases a <;> rfl) kr kr)
   refine hjn 2 (g_ref05_Bend_Of_j3_ok w2_6 w2_8 w2_9 w2_10 w2_11 x150) (wk_gcH (live:=[4]) (keep:=[1,2,3,4,5]) 2 eTapi_Node w2_8 w2_9 (.agg [vI w2_10,.ref 3 0 w2_11.length,.ref 4 0 x150.length]) 3 (fun f a=>by cases a <;> rfl) kr kr)
  refine hjn 3 (g_ref05_Bend_Of_j3_ok w2_6 w2_8 w2_9 w2_10 w2_11 w2_12) (wk_gcH (live:=[4]) (keep:=[2,3,4,5,6]) 3 eTapi_Node w2_8 w2_9 (.agg [vI w2_10,.ref 4 0 w2_11.length,.ref 5 0 w2_12.length]) 3 (fun f a=>by cases a <;> rfl) kr kr)
 refine hbr 3 [311,310] (?_) ?_
 ·refine hop 5 (fun _=>sgL false [] [] true gE) <| hop 0 (fun _=>sg true 1 _ gE rfl) <| hbs 1 [.keep,.lst true,.lst false] false [] <| hbd fun a153 q154=>hoh 0 (fun _ _ h k=>Q3r (enc:=eTapi_Node) (L:=w2_8) (m:=([(Tapi_Node.mk 1 [] [[w2_6]])]:(List Tapi_Node))) (n:=w2_9) (a:=a153) (A0:=.agg [vI w2_10,.ref 4 0 w2_11.length,.ref 5 0 w2_12.length]) (b:=.ref 9 0 1) (w:=3) (bytes:=56) (ob:=3) (fl:=false) (nr':=true) (fl':=false) (rds:=[9]) kr kr q154 kr gE kr h k) <| hjn 4 (g_ref05_Bend_Of_j3_ok w2_6 (w2_8++([(Tapi_Node.mk 1 [] [[w2_6]])]:(List Tapi_Node))) w2_9 w2_10 w2_11 w2_12) (wk_gcH (live:=[4]) (keep:=[2,10,4,5,6]) 10 eTapi_Node (w2_8++([(Tapi_Node.mk 1 [] [[w2_6]])]:(List Tapi_Node))) w2_9 (.agg [vI w2_10,.ref 4 0 w2_11.length,.ref 5 0 w2_12.length]) 3 (fun f a=>by cases a <;> rfl) kr kr)
 refine hbd fun a155 q156=>hwk 1 (Qew 5 6 (w:=1) (fl:=true) (enc:=eI) (ls:=w2_12) kr kr rfl) <| hwk 0 (wcl 3 [F eI w2_11,F z1 w2_12] (enc:=eTapi_Node) (L:=w2_8) (n:=w2_9) (A:=.agg [vI w2_10,.ref 4 0 w2_11.length,.ref 5 0 w2_12.length]) (bx:=false) (ro:=false) (nr:=false) (fl:=false) (w:=3) q156) <| hkn 0 (fun z157=>⟨(s54_68 w2_9 w2_1 w2_2)++[(155,vB false),(154,vB false),(168,vB false),(167,vB false),(193,vB false),(192,vB false),(212,vB false),(211,vB false),(252,vB false),(251,vB false),(311,vB false),(310,vB false)],[(o54_63 w2_2 w2_3 w2_4 w2_5),(o54_64 w2_6 w2_8),(o54_66 w2_7),.row false false false false 3 z157,(o54_65 w2_11),.row false true true false 1 (List.map z1 w2_12),.dead],323⟩) (show ((hole eTapi_Node w2_8 w2_9 (.agg [vI w2_10,.ref 4 0 w2_11.length,.ref 5 0 w2_12.length])).set (zt w2_9) (.agg [vI w2_10,z1 w2_11,z2 w2_12]))=List.map eTapi_Node (List.set w2_8 (zt w2_9) (Tapi_Node.mk w2_10 w2_11 w2_12)) from Qdj (enc:=eTapi_Node) (L:=w2_8) (n:=w2_9) (A:=.agg [vI w2_10,.ref 4 0 w2_11.length,.ref 5 0 w2_12.length]) (b:=(Tapi_Node.mk w2_10 w2_11 w2_12))) <| hwk 0 (wk_rowT 3 (enc:=eTapi_Node) (L:=(List.set w2_8 (zt w2_9) (Tapi_Node.mk w2_10 w2_11 w2_12))) (bx:=false) (ro:=false) (nr:=false) (fl:=false) (w:=3) (fun a=>by cases a <;> rfl) kr rfl) <| hkn 0 (fun n158=>⟨(s54_68 w2_9 w2_1 w2_2)++[(155,vB false),(154,vB false),(168,vB false),(167,vB false),(193,vB false),(192,vB false),(212,vB false),(211,vB false),(252,vB false),(251,vB false),(311,vB false),(310,vB false)],[(o54_63 w2_2 w2_3 w2_4 w2_5),oX false false 2 (.agg [vI w2_6,.ref 3 0 n158]),(o54_66 w2_7),oR false 3 eTapi_Node (List.set w2_8 (zt w2_9) (Tapi_Node.mk w2_10 w2_11 w2_12)),(o54_65 w2_11),.row false true true false 1 (List.map z1 w2_12),.dead],323⟩) (ls w2_8 (zt w2_9) (Tapi_Node.mk w2_10 w2_11 w2_12)) <| hoq 6 (fun _ _ h k=>Qbx (enc:=eTapi_Node) (l:=(List.set w2_8 (zt w2_9) (Tapi_Node.mk w2_10 w2_11 w2_12))) (ob:=3) (ro:=false) (nr:=true) (fl:=false) (lo:=none) (hi:=(some (vI (zw ((((List.set w2_8 (zt w2_9) (Tapi_Node.mk w2_10 w2_11 w2_12)).length):Int) - 1))))) (a:=0) (b:=zw ((((List.set w2_8 (zt w2_9) (Tapi_Node.mk w2_10 w2_11 w2_12)).length):Int) - 1)) (w:=3) kr kr kr kr gE h k) fun q159=>hwk 4 (wl [4] [2,3]) <| hwk 0 (won 0 0 [Fp eTapi_Node (List.set w2_8 (zt w2_9) (Tapi_Node.mk w2_10 w2_11 w2_12)) (a:=0) (b:=zw ((((List.set w2_8 (zt w2_9) (Tapi_Node.mk w2_10 w2_11 w2_12)).length):Int) - 1)) q159]) <| ?_
 refine hrt 1
noncomputable abbrev Qbv (p0:Q9):AObj:=oX true true 4 (.agg [.int .u8 p0.What,.int .u8 p0.At,.int .u8 p0.Row,vI p0.N])
noncomputable abbrev Qcy (p1:Qc):AObj:=oX true false 2 (.agg [vI p1.Grain,eL false eTapi_Node p1.Nodes])
noncomputable abbrev Qbi:AObj:=oX true false 2 (.agg [vI 0,.nils])
noncomputable abbrev Qbw:List (Nat×AV):=[(2,.ptr 0 0 0),(3,.ptr 1 0 0),(4,.ptr 2 0 0)]
theorem g_ref05_Bend_Of_ok (p0:Q9) (p1:Qc):Ct Tryd.prog 14 [.agg [.int .u8 p0.What,.int .u8 p0.At,.int .u8 p0.Row,vI p0.N],.agg [vI p1.Grain,eL false eTapi_Node p1.Nodes]] (Kh p0 p1) (fun x=>.agg [vI x.Grain,eL false eTapi_Node x.Nodes]) (fun x=>[]):=by
 refine hfn [[.keep,.lst false]] Tryd.func14 <| hop 1 (fun _=>sgL false [] [] false gE) <| hop 0 (fun _=>sgL false [] [] false gE) <| hst 2 (fun s1=>⟨Qbw++[(5,.ref 3 0 s1.2.length),(6,vI s1.1)],[(Qbv p0),(Qcy p1),Qbi,oR false 3 eTapi_Node s1.2],323⟩) (fun v=>(.exit 0,⟨Qbw++[(5,.ref 3 0 v.length)],[(Qbv p0),(Qcy p1),Qbi,oR false 3 eTapi_Node v],323⟩)) (wk_trans (wk_gc (live:=[2,3,4,5,6]) (keep:=[0,1,2]) gE) (wk_trans (Y7 5 3 true false gE) (wk_gc (live:=[2,3,4,5,6]) (keep:=[0,1,2,3]) kr))) (fun s1=>?_) (fun y17=>?_) fun x14=>?_
 ·refine hop 3 (fun _=>Ql (enc:=eTapi_Node) (l:=p1.Nodes) (fl:=false) kr gE) <| hbr 1 [19] (?_) ?_
  ·refine hbd fun a4 q5=>hop 4 (fun _=>Qj (enc:=eTapi_Node) (l:=p1.Nodes) (n:=s1.1) (fl:=false) (w:=3) (a:=a4) kr kr gE q5) <| hop 3 (fun _=>sgL false [] [] false gE) <| hop 7 (fun _=>Qj (enc:=eTapi_Node) (l:=p1.Nodes) (n:=s1.1) (fl:=false) (w:=3) (a:=a4) kr kr gE q5) <| hoh 2 (fun _ _ h k=>Qg3 (enc:=eI) (m:=a4.Parents) (w:=1) (bytes:=8) (nr':=true) (fl':=true) (a:=.nils) (b:=z1 a4.Parents) (rds:=[]) false kr (.inl rfl) (Kp (fun _=>rfl)) kr gE kr h k) <| hlp 3 (fun s6=>⟨Qbw++[(5,.ref 3 0 s1.2.length),(6,vI s1.1),(7,.ptr 4 0 0),(8,vI s6.1)],[(Qbv p0),(Qcy p1),Qbi,oR false 3 eTapi_Node s1.2,oX false false 3 (.agg [vI a4.Card,.ref 5 0 a4.Parents.length,.ref 6 0 s6.2.length]),oR true 1 eI a4.Parents,.refs 7 (eF eI s6.2),.fam 1 true (eF eI s6.2)],323⟩) (fun v=>(.exit 2,⟨Qbw++[(5,.ref 3 0 s1.2.length),(6,vI s1.1),(7,.ptr 4 0 0)],[(Qbv p0),(Qcy p1),Qbi,oR false 3 eTapi_Node s1.2,oX false false 3 (.agg [vI a4.Card,.ref 5 0 a4.Parents.length,.ref 6 0 v.length]),oR true 1 eI a4.Parents,.refs 7 (eF eI v),.fam 1 true (eF eI v)],323⟩)) (wk_trans (wk_gc (live:=[2,3,4,5,6,7,8]) (keep:=[0,1,2,3,4,5]) gE) (wk_trans (Q6 4 0 2 1 true true gE) (wk_trans (Qua 6 1 true (nr0:=true) (fl0:=true) (x0:=([]:List Int)) (n:=0) (enc1:=fun _=>AV.nils) eI kr kr kr rfl) (wk_gc (live:=[2,3,4,5,6,7,8]) (keep:=[0,1,2,3,4,5,6,7]) kr)))) (fun s6=>?_) fun x12=>?_
   ·refine hop 4 (fun _=>Qj (enc:=eTapi_Node) (l:=p1.Nodes) (n:=s1.1) (fl:=false) (w:=3) (a:=a4) kr kr gE q5) <| hop 2 (fun _=>Ql (enc:=z1) (l:=a4.Rows) (fl:=false) kr gE) <| hbr 1 [47] (?_) ?_
    ·refine hop 9 (fun _=>Qj (enc:=eTapi_Node) (l:=p1.Nodes) (n:=s1.1) (fl:=false) (w:=3) (a:=a4) kr kr gE q5) <| hbd fun a9 q10=>hop 3 (fun _=>Qj (enc:=z1) (l:=a4.Rows) (n:=s6.1) (fl:=false) (w:=1) (a:=a9) kr kr gE q10) <| hoh 1 (fun _ _ h k=>Qg3 (enc:=eI) (m:=a9) (w:=1) (bytes:=8) (nr':=true) (fl':=true) (a:=.nils) (b:=z1 a9) (rds:=[]) false kr (.inl rfl) (Kp (fun _=>rfl)) kr gE kr h k) <| hop 0 (fun _=>sg true 1 _ gE rfl) <| hoh 0 (fun _ _ h k=>Qw2 (enc:=eI) (ls:=s6.2) (q:=a9) (bytes:=24) (ob:=6) (j:=7) (tm:=9) (m:=8) kr kr kr kr gE kr h k) <| hwk 2 (wk_trans (wk_dead 9 gE) (wk_adoptA 10 7 8 (w:=1) (fl:=true) (enc:=eI) (ls:=s6.2) (b:=a9) [2,3,4,5,6,7,8,39,40,41,42,43,44,45,46,47,9,50,51,52,53,54,55,56,57,58,59,60,61,63,64,65] kr kr kr kr rfl)) <| hnx 3 (wz [0,1,2,3,4,5,10,7])
    refine hdx 1 (wz [0,1,2,3,4,5,6,7])
   refine hwk 0 (Qew 6 7 (w:=1) (fl:=true) (enc:=eI) (ls:=x12) kr kr rfl) <| hbs 2 [.keep,.lst true,.lst false] false [F eI a4.Parents,F z1 x12] <| hoh 0 (fun _ _ h k=>Yz (enc:=eTapi_Node) (l:=s1.2) (m:=([(Tapi_Node.mk a4.Card a4.Parents x12)]:(List Tapi_Node))) (w:=3) (bytes:=56) (ob:=3) (nr:=true) (fl:=false) (nr':=true) (fl':=false) (b:=.ref 8 0 1) (rds:=[8]) false kr kr kr kr gE kr h k) <| hnx 4 (wz [0,1,2,9])
  refine hdx 1 (wz [0,1,2,3])
 ·refine hop 3 (fun _=>Ql (enc:=eTapi_Node) (l:=p1.Nodes) (fl:=false) kr gE) <| hbr 1 [19] (?_) ?_
  ·refine hbd fun a20 q21=>hop 4 (fun _=>Qj (enc:=eTapi_Node) (l:=p1.Nodes) (n:=y17.1) (fl:=false) (w:=3) (a:=a20) kr kr gE q21) <| hop 3 (fun _=>sgL false [] [] false gE) <| hop 7 (fun _=>Qj (enc:=eTapi_Node) (l:=p1.Nodes) (n:=y17.1) (fl:=false) (w:=3) (a:=a20) kr kr gE q21) <| hoh 2 (fun _ _ h k=>Qg3 (enc:=eI) (m:=a20.Parents) (w:=1) (bytes:=8) (nr':=true) (fl':=true) (a:=.nils) (b:=z1 a20.Parents) (rds:=[]) false kr (.inl rfl) (Kp (fun _=>rfl)) kr gE kr h k) <| hlp 3 (fun s22=>⟨Qbw++[(5,.ref 3 0 y17.2.length),(6,vI y17.1),(7,.ptr 4 0 0),(8,vI s22.1)],[(Qbv p0),(Qcy p1),Qbi,oR false 3 eTapi_Node y17.2,oX false false 3 (.agg [vI a20.Card,.ref 5 0 a20.Parents.length,.ref 6 0 s22.2.length]),oR true 1 eI a20.Parents,.refs 7 (eF eI s22.2),.fam 1 true (eF eI s22.2)],323⟩) (fun v=>(.exit 2,⟨Qbw++[(5,.ref 3 0 y17.2.length),(6,vI y17.1),(7,.ptr 4 0 0)],[(Qbv p0),(Qcy p1),Qbi,oR false 3 eTapi_Node y17.2,oX false false 3 (.agg [vI a20.Card,.ref 5 0 a20.Parents.length,.ref 6 0 v.length]),oR true 1 eI a20.Parents,.refs 7 (eF eI v),.fam 1 true (eF eI v)],323⟩)) (wk_trans (wk_gc (live:=[2,3,4,5,6,7,8]) (keep:=[0,1,2,3,4,5]) gE) (wk_trans (Q6 4 0 2 1 true true gE) (wk_trans (Qua 6 1 true (nr0:=true) (fl0:=true) (x0:=([]:List Int)) (n:=0) (enc1:=fun _=>AV.nils) eI kr kr kr rfl) (wk_gc (live:=[2,3,4,5,6,7,8]) (keep:=[0,1,2,3,4,5,6,7]) kr)))) (fun s22=>?_) fun x28=>?_
   ·refine hop 4 (fun _=>Qj (enc:=eTapi_Node) (l:=p1.Nodes) (n:=y17.1) (fl:=false) (w:=3) (a:=a20) kr kr gE q21) <| hop 2 (fun _=>Ql (enc:=z1) (l:=a20.Rows) (fl:=false) kr gE) <| hbr 1 [47] (?_) ?_
    ·refine hop 9 (fun _=>Qj (enc:=eTapi_Node) (l:=p1.Nodes) (n:=y17.1) (fl:=false) (w:=3) (a:=a20) kr kr gE q21) <| hbd fun a25 q26=>hop 3 (fun _=>Qj (enc:=z1) (l:=a20.Rows) (n:=s22.1) (fl:=false) (w:=1) (a:=a25) kr kr gE q26) <| hoh 1 (fun _ _ h k=>Qg3 (enc:=eI) (m:=a25) (w:=1) (bytes:=8) (nr':=true) (fl':=true) (a:=.nils) (b:=z1 a25) (rds:=[]) false kr (.inl rfl) (Kp (fun _=>rfl)) kr gE kr h k) <| hop 0 (fun _=>sg true 1 _ gE rfl) <| hoh 0 (fun _ _ h k=>Qw2 (enc:=eI) (ls:=s22.2) (q:=a25) (bytes:=24) (ob:=6) (j:=7) (tm:=9) (m:=8) kr kr kr kr gE kr h k) <| hwk 2 (wk_trans (wk_dead 9 gE) (wk_adoptA 10 7 8 (w:=1) (fl:=true) (enc:=eI) (ls:=s22.2) (b:=a25) [2,3,4,5,6,7,8,39,40,41,42,43,44,45,46,47,9,50,51,52,53,54,55,56,57,58,59,60,61,63,64,65] kr kr kr kr rfl)) <| hnx 3 (wz [0,1,2,3,4,5,10,7])
    refine hdx 1 (wz [0,1,2,3,4,5,6,7])
   refine hop 2 (fun _=>sg true 1 _ gE rfl) <| hoh 0 (fun _ _ h k=>Q5h (enc:=eTapi_Node) (L:=y17.2) (e:=(default:Tapi_Node)) (w:=3) (bytes:=56) (ob:=3) (tm:=8) (nr:=true) (fl:=false) (nr':=false) (fl':=false) (A0:=.agg [vI a20.Card,.ref 5 0 a20.Parents.length,.ref 6 0 x28.length]) kr kr kr gE kr h k) <| hlq 4 (fun s29=>⟨Qbw++[(5,.ref 3 0 s29.2.length),(6,vI s29.1)],[(Qbv p0),(Qcy p1),Qbi,.row false false false false 3 (hole eTapi_Node s29.2 (zn y17.2) (.agg [vI a20.Card,.ref 4 0 a20.Parents.length,.ref 5 0 x28.length])),oR true 1 eI a20.Parents,.refs 6 (eF eI x28),.fam 1 true (eF eI x28)],323⟩) (fun v=>(.exit 0,⟨Qbw++[(5,.ref 3 0 v.length)],[(Qbv p0),(Qcy p1),Qbi,.row false false false false 3 (hole eTapi_Node v (zn y17.2) (.agg [vI a20.Card,.ref 4 0 a20.Parents.length,.ref 5 0 x28.length])),oR true 1 eI a20.Parents,.refs 6 (eF eI x28),.fam 1 true (eF eI x28)],323⟩)) (wk_gcH (live:=[2,3,4,5,6]) (keep:=[0,1,2,9,5,6,7]) 9 eTapi_Node (y17.2++[(default:Tapi_Node)]) (zn y17.2) (.agg [vI a20.Card,.ref 5 0 a20.Parents.length,.ref 6 0 x28.length]) 3 (fun f a=>by cases a <;> rfl) kr kr) (fun s29=>?_) fun x44=>?_
   ·refine hop 3 (fun _=>Ql (enc:=eTapi_Node) (l:=p1.Nodes) (fl:=false) kr gE) <| hbr 1 [19] (?_) ?_
    ·refine hbd fun a32 q33=>hop 4 (fun _=>Qj (enc:=eTapi_Node) (l:=p1.Nodes) (n:=s29.1) (fl:=false) (w:=3) (a:=a32) kr kr gE q33) <| hop 3 (fun _=>sgL false [] [] false gE) <| hop 7 (fun _=>Qj (enc:=eTapi_Node) (l:=p1.Nodes) (n:=s29.1) (fl:=false) (w:=3) (a:=a32) kr kr gE q33) <| hoh 2 (fun _ _ h k=>Qg3 (enc:=eI) (m:=a32.Parents) (w:=1) (bytes:=8) (nr':=true) (fl':=true) (a:=.nils) (b:=z1 a32.Parents) (rds:=[]) false kr (.inl rfl) (Kp (fun _=>rfl)) kr gE kr h k) <| hlp 3 (fun s34=>⟨Qbw++[(5,.ref 3 0 s29.2.length),(6,vI s29.1),(7,.ptr 4 0 0),(8,vI s34.1)],[(Qbv p0),(Qcy p1),Qbi,.row false false false false 3 (hole eTapi_Node s29.2 (zn y17.2) (.agg [vI a20.Card,.ref 5 0 a20.Parents.length,.ref 6 0 x28.length])),oX false false 3 (.agg [vI a32.Card,.ref 7 0 a32.Parents.length,.ref 8 0 s34.2.length]),oR true 1 eI a20.Parents,.refs 9 (eF eI x28),oR true 1 eI a32.Parents,.refs 10 (eF eI s34.2),.fam 1 true (eF eI x28),.fam 1 true (eF eI s34.2)],323⟩) (fun v=>(.exit 2,⟨Qbw++[(5,.ref 3 0 s29.2.length),(6,vI s29.1),(7,.ptr 4 0 0)],[(Qbv p0),(Qcy p1),Qbi,.row false false false false 3 (hole eTapi_Node s29.2 (zn y17.2) (.agg [vI a20.Card,.ref 5 0 a20.Parents.length,.ref 6 0 x28.length])),oX false false 3 (.agg [vI a32.Card,.ref 7 0 a32.Parents.length,.ref 8 0 v.length]),oR true 1 eI a20.Parents,.refs 9 (eF eI x28),oR true 1 eI a32.Parents,.refs 10 (eF eI v),.fam 1 true (eF eI x28),.fam 1 true (eF eI v)],323⟩)) (wk_trans (wk_gcH (live:=[2,3,4,5,6,7,8]) (keep:=[0,1,2,3,7,4,5,8,6]) 3 eTapi_Node s29.2 (zn y17.2) (.agg [vI a20.Card,.ref 4 0 a20.Parents.length,.ref 5 0 x28.length]) 3 (fun f a=>by cases a <;> rfl) kr gE) (wk_trans (Q6 4 0 2 1 true true gE) (wk_trans (Qua 9 1 true (nr0:=true) (fl0:=true) (x0:=([]:List Int)) (n:=0) (enc1:=fun _=>AV.nils) eI kr kr kr rfl) (wk_gcH (live:=[2,3,4,5,6,7,8]) (keep:=[0,1,2,3,4,5,6,7,9,8,10]) 3 eTapi_Node s29.2 (zn y17.2) (.agg [vI a20.Card,.ref 5 0 a20.Parents.length,.ref 6 0 x28.length]) 3 (fun f a=>by cases a <;> rfl) kr kr)))) (fun s34=>?_) fun x40=>?_
     ·refine hop 4 (fun _=>Qj (enc:=eTapi_Node) (l:=p1.Nodes) (n:=s29.1) (fl:=false) (w:=3) (a:=a32) kr kr gE q33) <| hop 2 (fun _=>Ql (enc:=z1) (l:=a32.Rows) (fl:=false) kr gE) <| hbr 1 [47] (?_) ?_
      ·refine hop 9 (fun _=>Qj (enc:=eTapi_Node) (l:=p1.Nodes) (n:=s29.1) (fl:=false) (w:=3) (a:=a32) kr kr gE q33) <| hbd fun a37 q38=>hop 3 (fun _=>Qj (enc:=z1) (l:=a32.Rows) (n:=s34.1) (fl:=false) (w:=1) (a:=a37) kr kr gE q38) <| hoh 1 (fun _ _ h k=>Qg3 (enc:=eI) (m:=a37) (w:=1) (bytes:=8) (nr':=true) (fl':=true) (a:=.nils) (b:=z1 a37) (rds:=[]) false kr (.inl rfl) (Kp (fun _=>rfl)) kr gE kr h k) <| hop 0 (fun _=>sg true 1 _ gE rfl) <| hoh 0 (fun _ _ h k=>Qw2 (enc:=eI) (ls:=s34.2) (q:=a37) (bytes:=24) (ob:=8) (j:=10) (tm:=12) (m:=11) kr kr kr kr gE kr h k) <| hwk 2 (wk_trans (wk_dead 12 gE) (wk_adoptA 13 10 11 (w:=1) (fl:=true) (enc:=eI) (ls:=s34.2) (b:=a37) [2,3,4,5,6,7,8,39,40,41,42,43,44,45,46,47,9,50,51,52,53,54,55,56,57,58,59,60,61,63,64,65] kr kr kr (and2 (safeAll_hole 3 3 eTapi_Node s29.2 (zn y17.2) (.agg [vI a20.Card,.ref 5 0 a20.Parents.length,.ref 6 0 x28.length]) (fun a=>rfl) kr kr) kr) rfl)) <| hnx 3 (wk_gcH (live:=[2,3,4,5,6,7,8]) (keep:=[0,1,2,3,4,5,6,7,13,9,10]) 3 eTapi_Node s29.2 (zn y17.2) (.agg [vI a20.Card,.ref 5 0 a20.Parents.length,.ref 6 0 x28.length]) 3 (fun f a=>by cases a <;> rfl) kr kr)
      refine hdx 1 (wk_gcH (live:=[2,3,4,5,6,7]) (keep:=[0,1,2,3,4,5,6,7,8,9,10]) 3 eTapi_Node s29.2 (zn y17.2) (.agg [vI a20.Card,.ref 5 0 a20.Parents.length,.ref 6 0 x28.length]) 3 (fun f a=>by cases a <;> rfl) kr kr)
     refine hwk 0 (Qew 8 10 (w:=1) (fl:=true) (enc:=eI) (ls:=x40) kr kr rfl) <| hbs 2 [.keep,.lst true,.lst false] false [F eI a32.Parents,F z1 x40] <| hbd fun a41 q42=>hoh 0 (fun _ _ h k=>Q3r (enc:=eTapi_Node) (L:=s29.2) (m:=([(Tapi_Node.mk a32.Card a32.Parents x40)]:(List Tapi_Node))) (n:=(zn y17.2)) (a:=a41) (A0:=.agg [vI a20.Card,.ref 5 0 a20.Parents.length,.ref 6 0 x28.length]) (b:=.ref 11 0 1) (w:=3) (bytes:=56) (ob:=3) (fl:=false) (nr':=true) (fl':=false) (rds:=[11]) kr kr q42 kr gE kr h k) <| hnx 4 (wk_gcH (live:=[2,3,4,5,6]) (keep:=[0,1,2,12,5,6,9]) 12 eTapi_Node (s29.2++([(Tapi_Node.mk a32.Card a32.Parents x40)]:(List Tapi_Node))) (zn y17.2) (.agg [vI a20.Card,.ref 5 0 a20.Parents.length,.ref 6 0 x28.length]) 3 (fun f a=>by cases a <;> rfl) kr kr)
    refine hdx 1 (wk_gcH (live:=[2,3,4,5]) (keep:=[0,1,2,3,4,5,6]) 3 eTapi_Node s29.2 (zn y17.2) (.agg [vI a20.Card,.ref 4 0 a20.Parents.length,.ref 5 0 x28.length]) 3 (fun f a=>by cases a <;> rfl) kr kr)
   refine hbr 6 [74] (?_) ?_
   ·refine hjn 3 (Qiv p1.Grain x44 (zn y17.2) a20.Card a20.Parents x28) (wk_gcH (live:=[4]) (keep:=[2,3,4,5,6]) 3 eTapi_Node x44 (zn y17.2) (.agg [vI a20.Card,.ref 4 0 a20.Parents.length,.ref 5 0 x28.length]) 3 (fun f a=>by cases a <;> rfl) kr kr)
   refine hoh 7 (fun _ _ h k=>Qwf (k:=.i64) (a:=zw (p0.At)) (b:=(zn x44)) kr gE h k) <| hbd fun a51 q52=>hqe 0 (fun n53=>⟨Qbw++[(5,.ref 3 0 x44.length),(70,.ref 3 0 x44.length),(71,.ptr 1 0 1),(72,.ref 3 0 x44.length),(73,vI (zn x44)),(74,vB false),(76,.ref 3 0 x44.length),(77,.ptr 0 0 1),(78,.int .u8 p0.At),(79,vI (zw (p0.At))),(80,.ref 3 0 x44.length),(81,vI (zn x44)),(82,vI n53)],[(Qbv p0),oX false false 2 (.agg [vI p1.Grain,.ref 3 0 x44.length]),Qbi,.row false false false false 3 (hole eTapi_Node x44 (zn y17.2) (.agg [vI a20.Card,.ref 4 0 a20.Parents.length,.ref 5 0 x28.length])),oR true 1 eI a20.Parents,.refs 6 (eF eI x28),.fam 1 true (eF eI x28)],323⟩) <| hop 0 (fun _=>Qdm (enc:=eTapi_Node) (L:=x44) (n:=(zn y17.2)) (a:=a51) (A:=.agg [vI a20.Card,.ref 4 0 a20.Parents.length,.ref 5 0 x28.length]) (ob:=3) (w:=3) (ro:=false) (nr:=false) (fl:=false) kr kr q52 gE) <| hop 5 (fun _=>Xr (enc:=eTapi_Node) (L:=x44) (n:=(zn y17.2)) (a:=a51) (A:=.agg [vI a20.Card,.ref 4 0 a20.Parents.length,.ref 5 0 x28.length]) (ob:=3) (w:=3) (c:=2) (ro:=false) (nr:=false) (fl:=false) kr kr q52 gE) <| hbr 2 [89] (?_) ?_
   ·refine hop 8 (fun _=>Xr (enc:=eTapi_Node) (L:=x44) (n:=(zn y17.2)) (a:=a51) (A:=.agg [vI a20.Card,.ref 4 0 a20.Parents.length,.ref 5 0 x28.length]) (ob:=3) (w:=3) (c:=2) (ro:=false) (nr:=false) (fl:=false) kr kr q52 gE) <| hoh 1 (fun _ _ h k=>Qwf (k:=.i64) (a:=zw (p0.Row)) (b:=(zn x28)) kr gE h k) <| hjn 1 (g_ref05_Bend_Of_j2_ok (zt (zn y17.2)) (Int.tmod (zw (p0.Row)) (zn x28)) p0.What p0.At p0.Row p0.N p1.Grain 0 x44 (zn y17.2) a20.Card a20.Parents x28) (wk_gcH (live:=[2,3,4,10,11]) (keep:=[0,1,2,3,4,5,6]) 3 eTapi_Node x44 (zn y17.2) (.agg [vI a20.Card,.ref 4 0 a20.Parents.length,.ref 5 0 x28.length]) 3 (fun f a=>by cases a <;> rfl) kr kr)
   refine hjn 1 (g_ref05_Bend_Of_j2_ok (zt (zn y17.2)) (-1) p0.What p0.At p0.Row p0.N p1.Grain 0 x44 (zn y17.2) a20.Card a20.Parents x28) (wk_gcH (live:=[2,3,4,10,11]) (keep:=[0,1,2,3,4,5,6]) 3 eTapi_Node x44 (zn y17.2) (.agg [vI a20.Card,.ref 4 0 a20.Parents.length,.ref 5 0 x28.length]) 3 (fun f a=>by cases a <;> rfl) kr kr)
  refine hwk 1 (wl [2,3,4,5] [0,1,2,3]) <| hnn
 refine hbr 6 [74] (hjn 3 (Qiy p1.Grain x14) (wz [2,3])) <| ?_
 refine hnn
end
section
attribute [local irreducible] RW WP
theorem g_ref02_Places_ok (p0:(List Int)) (p1:Int):Ct Tryd.prog 45 [z1 p0,vI p1] (K3 p0 p1) (fun x=>vB x) (fun x=>[]):=by
 refine hfn [] Tryd.func45 <| hlp 2 (fun s1=>⟨[(0,z1 p0),(1,vI p1),(5,vI s1)],[],41⟩) (fun x=>match x with | .inl v=>(.ret,⟨[(4,vB false)],[],41⟩) | .inr v=>(.exit 0,⟨[],[],41⟩)) (wz []) (fun s1=>?_) (hsm (fun x17=>?_) (fun x18=>?_))
 ·refine hop 2 (fun _=>Ql (enc:=eI) (l:=p0) (fl:=true) kr gE) <| hbr 1 [9] (?_) ?_
  ·refine hbd fun a4 q5=>hop 4 (fun _=>Qj (enc:=eI) (l:=p0) (n:=s1) (fl:=true) (w:=1) (a:=a4) kr kr gE q5) <| hbr 3 [16,17] (hdx 25 (wz [])) <| ?_
   refine hop 2 (fun _=>Qj (enc:=eI) (l:=p0) (n:=s1) (fl:=true) (w:=1) (a:=a4) kr kr gE q5) <| hbr 5 [23,24,25] (hdx 17 (wz [])) <| ?_
   refine hbr 3 [27,28] (?_) ?_
   ·refine hop 2 (fun _=>Qj (enc:=eI) (l:=p0) (n:=s1) (fl:=true) (w:=1) (a:=a4) kr kr gE q5) <| hbd fun a12 q13=>hop 4 (fun _=>Qj (enc:=eI) (l:=p0) (n:=zw (s1 - 1)) (fl:=true) (w:=1) (a:=a12) kr kr gE q13) <| hbr 4 [38,39,40] (hdx 2 (wz [])) <| ?_
    refine hnx 4 (wz [])
   refine hnx 16 (wz [])
  refine hdx 1 (wz [])
 ·refine hrt 0
 refine hrt 2
theorem g_ref05_Up_ok (p0:(List Int)) (p1:Int):Ct Tryd.prog 70 [eL true (AV.int .u64) p0,.int .u64 p1] (Qgh p0 p1) (fun x=>.int .u64 x) (fun x=>[]):=by
 refine hfn [] Tryd.func70 <| hlp 2 (fun s1=>⟨[(0,eL true (AV.int .u64) p0),(1,.int .u64 s1.1),(5,vI s1.2)],[],29⟩) (fun v=>(.exit 0,⟨[(1,.int .u64 v)],[],29⟩)) (wz []) (fun s1=>?_) fun x16=>?_
 ·refine hop 2 (fun _=>Ql (enc:=(AV.int .u64)) (l:=p0) (fl:=true) kr gE) <| hbr 1 [10] (?_) ?_
  ·refine hlp 2 (fun s4=>⟨[(0,eL true (AV.int .u64) p0),(1,.int .u64 s4.1),(5,vI s1.2),(6,vI s4.2)],[],29⟩) (fun v=>(.exit 2,⟨[(0,eL true (AV.int .u64) p0),(1,.int .u64 v),(5,vI s1.2)],[],29⟩)) (wz []) (fun s4=>?_) fun x14=>?_
   ·refine hop 2 (fun _=>Ql (enc:=(AV.int .u64)) (l:=p0) (fl:=true) kr gE) <| hbr 1 [16] (?_) ?_
    ·refine hcl 3 [] (g_ref05_In_ok s4.1 s4.2) fun x7 _=>hbr 0 [21] (hbd fun a11 q12=>hop 4 (fun _=>Qj (enc:=(AV.int .u64)) (l:=p0) (n:=s4.2) (fl:=true) (w:=1) (a:=a11) kr kr gE q12) <| hnx 6 (wz [])) <| ?_
     refine hnx 4 (wz [])
    refine hdx 1 (wz [])
   refine hnx 3 (wz [])
  refine hdx 1 (wz [])
 refine hrt 3
theorem Qln (p0:(List Int)):Ct Tryd.prog 46 [eL true (AV.int .u64) p0] (Kt p0) (fun x=>vB x) (fun x=>[]):=by
 refine hfn [] Tryd.func46 <| hlp 2 (fun s1=>⟨[(0,eL true (AV.int .u64) p0),(3,vI s1)],[],18⟩) (fun x=>match x with | .inl v=>(.ret,⟨[(2,vB false)],[],18⟩) | .inr v=>(.exit 0,⟨[],[],18⟩)) (wz []) (fun s1=>?_) (hsm (fun x13=>?_) (fun x14=>?_))
 ·refine hop 2 (fun _=>Ql (enc:=(AV.int .u64)) (l:=p0) (fl:=true) kr gE) <| hbr 1 [7] (?_) ?_
  ·refine hbd fun a4 q5=>hop 4 (fun _=>Qj (enc:=(AV.int .u64)) (l:=p0) (n:=s1) (fl:=true) (w:=1) (a:=a4) kr kr gE q5) <| hcl 1 [] (g_ref05_Up_ok p0 a4) fun x6 _=>hcl 1 [] (g_ref05_In_ok x6 s1) fun x8 _=>hbr 0 [17] (hdx 2 (wz [])) <| ?_
   refine hnx 4 (wz [])
  refine hdx 1 (wz [])
 ·refine hrt 0
 refine hrt 2
noncomputable abbrev o59_74 (p0:Qc):AObj:=oX true false 2 (.agg [vI p0.Grain,eL false eTapi_Node p0.Nodes])
noncomputable abbrev o59_75 (a36:Tapi_Node):AObj:=oX true false 3 (.agg [vI a36.Card,z1 a36.Parents,z2 a36.Rows])
theorem g_ref05_Right_ok (p0:Qc):Ct Tryd.prog 23 [.agg [vI p0.Grain,eL false eTapi_Node p0.Nodes]] (Qat p0) (fun x=>vB x) (fun x=>[]):=by
 refine hfn [] Tryd.func23 <| hop 0 (fun _=>sgL false [] [] false gE) <| hbr 5 [13,14] (hrt 19) <| ?_
 refine hbr 5 [17,18,19] (hrt 14) <| ?_
 refine hop 2 (fun _=>Ql (enc:=eTapi_Node) (l:=p0.Nodes) (fl:=false) kr gE) <| hbr 3 [23,24,25] (hrt 8) <| ?_
 refine hop 2 (fun _=>Ql (enc:=eTapi_Node) (l:=p0.Nodes) (fl:=false) kr gE) <| hbr 2 [29,30] (hrt 3) <| ?_
 refine hlp 3 (fun s9=>⟨[(1,.ptr 0 0 0),(3,vI s9.1),(4,vI s9.2)],[(o59_74 p0)],154⟩) (fun x=>match x with | .inl v=>(.ret,⟨[(2,vB false)],[],154⟩) | .inr v=>(.exit 0,⟨[(1,.ptr 0 0 0),(3,vI v)],[(o59_74 p0)],154⟩)) (wz [0]) (fun s9=>?_) (hsm (fun x23=>?_) (fun x24=>?_))
 ·refine hop 3 (fun _=>Ql (enc:=eTapi_Node) (l:=p0.Nodes) (fl:=false) kr gE) <| hbr 1 [35] (?_) ?_
  ·refine hbd fun a12 q13=>hop 4 (fun _=>Qj (enc:=eTapi_Node) (l:=p0.Nodes) (n:=s9.2) (fl:=false) (w:=3) (a:=a12) kr kr gE q13) <| hop 1 (fun _=>sgL false [] [] false gE) <| hbr 5 [45,46] (hdx 15 (wz [])) <| ?_
   refine hbr 5 [49,50,51] (hdx 10 (wz [])) <| ?_
   refine hop 4 (fun _=>Ql (enc:=eTapi_Node) (l:=p0.Nodes) (fl:=false) kr gE) <| hcl 0 [] (g_ref02_Places_ok a12.Parents (zn p0.Nodes)) fun x18 _=>hbr 2 [58,59] (hdx 2 (wz [])) <| ?_
   refine hnx 9 (wz [0])
  refine hdx 1 (wz [0])
 ·refine hrt 0
 refine hbr 3 [65,66] (hrt 8) <| ?_
 refine hcl 1 [] (g_ref05_ParentSets_ok p0) fun x27 _=>hcl 0 [F (AV.int .u64) x27] (Qln x27) fun x29 _=>hbr 2 [70,71] (hrt 3) <| ?_
 refine hlp 2 (fun s33=>⟨[(1,.ptr 0 0 0),(6,vI s33)],[(o59_74 p0)],154⟩) (fun x=>match x with | .inl v=>(.ret,⟨[(2,vB false)],[],154⟩) | .inr v=>(.exit 2,⟨[],[],154⟩)) (wz [0]) (fun s33=>?_) (hsm (fun x69=>?_) (fun x70=>?_))
 ·refine hop 3 (fun _=>Ql (enc:=eTapi_Node) (l:=p0.Nodes) (fl:=false) kr gE) <| hbr 1 [76] (?_) ?_
  ·refine hbd fun a36 q37=>hop 4 (fun _=>Qj (enc:=eTapi_Node) (l:=p0.Nodes) (n:=s33) (fl:=false) (w:=3) (a:=a36) kr kr gE q37) <| hop 1 (fun _=>sgL false [] [] false gE) <| hop 4 (fun _=>Ql (enc:=z1) (l:=a36.Rows) (fl:=false) kr gE) <| hcl 2 [] (us:=[.agg [vI p0.Grain,eL false eTapi_Node p0.Nodes],vI s33]) (rv:=fun x38=>z1 x38) (ro:=fun x38=>[]) (fun x38 q39=>Qx.froz (Ku p0 s33 x38 q39) (Zl (w:=1) (bx:=false) (ro:=false) (enc:=eI) (l:=x38) (fl:=true) rfl)) fun x38 _=>hcl 0 [] (Qd6 x38) fun x40 _=>hbr 1 [91] (hdx 2 (wz [])) <| ?_
   refine hlp 2 (fun s44=>⟨[(1,.ptr 0 0 0),(6,vI s33),(7,.ptr 1 0 0),(8,vI s44)],[(o59_74 p0),(o59_75 a36)],154⟩) (fun x=>match x with | .inl v=>(.ret,⟨[(2,vB false)],[],154⟩) | .inr v=>(.exit 4,⟨[(1,.ptr 0 0 0),(6,vI s33)],[(o59_74 p0)],154⟩)) (wz [0,1]) (fun s44=>?_) (hsm (fun x66=>?_) (fun x67=>?_))
   ·refine hop 3 (fun _=>Ql (enc:=z1) (l:=a36.Rows) (fl:=false) kr gE) <| hbr 1 [96] (?_) ?_
    ·refine hbd fun a47 q48=>hop 5 (fun _=>Qj (enc:=z1) (l:=a36.Rows) (n:=s44) (fl:=false) (w:=1) (a:=a47) kr kr gE q48) <| hop 1 (fun _=>Ql (enc:=eI) (l:=a47) (fl:=true) kr gE) <| hbr 3 [107] (hdx 2 (wz [])) <| ?_
     refine hlp 3 (fun s51=>⟨[(1,.ptr 0 0 0),(6,vI s33),(7,.ptr 1 0 0),(8,vI s44),(9,vI s51.1),(10,vI s51.2)],[(o59_74 p0),(o59_75 a36)],154⟩) (fun x=>match x with | .inl v=>(.ret,⟨[(2,vB false)],[],154⟩) | .inr v=>(.exit 6,⟨[(1,.ptr 0 0 0),(6,vI s33),(7,.ptr 1 0 0),(8,vI s44),(9,vI v)],[(o59_74 p0),(o59_75 a36)],154⟩)) (wz [0,1]) (fun s51=>?_) (hsm (fun x61=>?_) (fun x62=>?_))
     ·refine hop 4 (fun _=>Qj (enc:=z1) (l:=a36.Rows) (n:=s44) (fl:=false) (w:=1) (a:=a47) kr kr gE q48) <| hop 1 (fun _=>Ql (enc:=eI) (l:=a47) (fl:=true) kr gE) <| hbr 1 [115] (?_) ?_
      ·refine hop 5 (fun _=>Qj (enc:=z1) (l:=a36.Rows) (n:=s44) (fl:=false) (w:=1) (a:=a47) kr kr gE q48) <| hbd fun a54 q55=>hop 2 (fun _=>Qj (enc:=eI) (l:=a47) (n:=s51.2) (fl:=true) (w:=1) (a:=a54) kr kr gE q55) <| hbr 3 [126,127] (hdx 14 (wz [])) <| ?_
       refine hop 3 (fun _=>Qj (enc:=z1) (l:=a36.Rows) (n:=s44) (fl:=false) (w:=1) (a:=a47) kr kr gE q48) <| hop 2 (fun _=>Qj (enc:=eI) (l:=a47) (n:=s51.2) (fl:=true) (w:=1) (a:=a54) kr kr gE q55) <| hbr 5 [138,139] (hdx 2 (wz [])) <| ?_
       refine hop 5 (fun _=>Qj (enc:=z1) (l:=a36.Rows) (n:=s44) (fl:=false) (w:=1) (a:=a47) kr kr gE q48) <| hop 2 (fun _=>Qj (enc:=eI) (l:=a47) (n:=s51.2) (fl:=true) (w:=1) (a:=a54) kr kr gE q55) <| hnx 6 (wz [0,1])
      refine hdx 1 (wz [0,1])
     ·refine hdn 0
     refine hbr 4 [153] (hdx 2 (wz [])) <| ?_
     refine hnx 4 (wz [0,1])
    refine hdx 1 (wz [0])
   ·refine hdn 0
   refine hnx 3 (wz [0])
  refine hdx 1 (wz [])
 ·refine hrt 0
 refine hrt 2
end
theorem Qhl:∀(n:Nat) (p0:Qc) (p1:(List Int)) (p2:Int) (x:(List Int)),Ve Qo n (p0,p1,p2)=some x→Qx Tryd.prog 52 [.agg [vI p0.Grain,eL false eTapi_Node p0.Nodes],eL true eI p1,vI p2] (.ret (nlE true eI x) [])
 | 0,p0,p1,p2,_,h=>by cases h
 | n+1,p0,p1,p2,x,h=>by
  change Qo (Ve Qo n) (p0,p1,p2)=some x at h
  have IH:=Qhl n
  generalize Ve Qo n=rc0 at h IH
  refine Qxd [] Tryd.func52 rfl (by decide +kernel) rfl ?_
  unfold Qo at h
  dsimp only at h
  refine Qyp (base':=0) (st':=⟨[(0,.agg [vI p0.Grain,eL false eTapi_Node p0.Nodes]),(1,eL true eI p1),(2,vI p2)],[],72⟩) kr kr ?_
  refine Q1 (Jk ?_)
  refine sgL false [] [] false gE ?_
  refine sz 1 2 (Xp rfl (Q1 (Jk (sz 2 2 ?_))))
  refine Qw1 Qz4 (g_ref10_Sets_ok p0 p1) h (fun x1 _ h=>?_)
  refine sz 1 4 (Xp rfl (Q1 (Q1 (wg [1,2,3,7] [0,1] (Jk (sz 4 4 ?_))))))
  refine rb [18,19] h (fun q4 h=>?_) (fun q4 h=>?_)
  ·refine sz 4 8 ?_
   refine Qh7 h (fun a5 q6 h=>?_)
   refine Qv (enc:=(AV.int .u64)) (l:=x1) (n:=zw ((x1.length:Int) - 1)) (w:=1) (ob:=1) (ro:=false) (nr:=true) (fl:=true) (a:=a5) kr kr gE q6 ?_
   refine Zf (enc:=(AV.int .u64)) (l:=x1) (n:=zw ((x1.length:Int) - 1)) (w:=1) (ob:=1) (c:=0) (bx:=false) (ro:=false) (nr:=true) (fl:=true) (a:=a5) kr kr q6 gE ?_
   refine Qw1 Qz0 (g_ref10_Size_ok a5) h (fun x7 _ h=>?_)
   refine sz 3 14 (Xp rfl ?_)
   refine wbz h (fun q10 h=>?_) (fun q10 h=>?_)
   ·refine Q1 (wg [] [] (rn (wg [6] [] ?_)))
    cases h
    exact Qd2 (show Jl _ _ _ _=_ from by kernel_rfl)
   refine V9 (Q1 (Q1 (wg [1,2,3] [0] (Jk (sz 1 1 ?_)))))
   refine Ql (enc:=eI) (l:=p1) (fl:=true) kr gE ?_
   refine sz 2 4 ?_
   refine Ql (enc:=eTapi_Node) (l:=p0.Nodes) (fl:=false) kr gE ?_
   refine sz 1 6 (Xp rfl ?_)
   refine wbz h (fun q12 h=>?_) (fun q12 h=>?_)
   ·refine Q1 (wg [1] [] (rn ?_))
    refine wgc [6] [] ⟨[(6,eL true eI p1)],[],72⟩ ?_
    refine Qd2 ?_
    obtain ⟨⟨a,t,e⟩,rfl⟩:=Qj6 h
    rw [e]
    show Jl _ _ _ _=_
    kernel_rfl
   refine V9 (Q1 (Q1 (wg [1,2,3] [0] (rn (Jx ?_)))))
   refine wwh h (fun s15=>⟨[(1,eL true eI p1),(2,vI p2),(3,.ptr 0 0 0),(8,vI s15)],([oX true false 2 (.agg [vI p0.Grain,eL false eTapi_Node p0.Nodes])]),72⟩) (fun x out=>out=match x with | .inl v=>.go (.ret) ⟨[(6,eL true eI v)],[],72⟩ | .inr v=>.go (.exit 0) ⟨[],[],72⟩) (wk_gc (live:=[1,2,3,8]) (keep:=[0]) kr) ?_ ?_
   ·intro s15 o h
    unfold X5 at h
    refine Q1 (Q1 (Jk (sz 3 3 ?_)))
    refine Ql (enc:=eTapi_Node) (l:=p0.Nodes) (fl:=false) kr gE ?_
    refine sz 1 5 (Xp rfl ?_)
    refine wbz h (fun q17 h=>?_) (fun q17 h=>?_)
    ·refine V9 (Q1 (Jx (Q1 (wg [1,2,3,8] [0] (rn (Q1 (sq (Jx ?_))))))))
     refine wwh h (fun s18=>⟨[(1,eL true eI p1),(2,vI p2),(3,.ptr 0 0 0),(8,vI s15),(9,vB s18.1),(10,vI s18.2)],([oX true false 2 (.agg [vI p0.Grain,eL false eTapi_Node p0.Nodes])]),72⟩) (fun v out=>out=.go (.exit 2) ⟨[(1,eL true eI p1),(2,vI p2),(3,.ptr 0 0 0),(8,vI s15),(9,vB v)],([oX true false 2 (.agg [vI p0.Grain,eL false eTapi_Node p0.Nodes])]),72⟩) (wk_gc (live:=[1,2,3,8,9,10]) (keep:=[0]) kr) ?_ ?_
     ·intro s18 o h
      unfold V5 at h
      refine Q1 (Q1 (Jk (sz 2 2 ?_)))
      refine Ql (enc:=eI) (l:=p1) (fl:=true) kr gE ?_
      refine sz 1 4 (Xp rfl ?_)
      refine wb [47] h (fun q20 h=>?_) (fun q20 h=>?_)
      ·refine wcT (V9 (Q1 (Jx (Jk (sz 2 2 (rwg [1,2,3,8,10,51] [0] ?_))))))
       refine rb [51] h (fun q22 h=>?_) (fun q22 h=>?_)
       ·refine sz 8 10 (Xp rfl (wg [1,2,3,8,10,9] [0] (rn ?_)))
        cases h
        exact ⟨_,rfl,(wk_gc (live:=[1,2,3,8,9,10]) (keep:=[0]) kr)⟩
       refine sz 2 4 ?_
       refine Qh7 h (fun a23 q24 h=>?_)
       refine Qj (enc:=eI) (l:=p1) (n:=s18.2) (fl:=true) (w:=1) (a:=a23) kr rfl gE q24 ?_
       refine sz 5 10 (Xp rfl (wg [1,2,3,8,10,9] [0] (rn ?_)))
       cases h
       exact ⟨_,rfl,(wk_gc (live:=[1,2,3,8,9,10]) (keep:=[0]) kr)⟩
      refine wcF (wg [1,2,3,8,9] [0] ?_)
      refine Qeu ?_
      cases h
      exact ⟨kr,rfl⟩
     intro x26 h out hx
     subst hx
     refine Q1 (sq ?_)
     refine wb [9,59] h (fun q28 h=>?_) (fun q28 h=>?_)
     ·refine wcT (wg [1,2,3,8] [0] ?_)
      refine Qeu ?_
      refine rn ?_
      cases h
      exact ⟨_,rfl,(wk_gc (live:=[1,2,3,8]) (keep:=[0]) kr)⟩
     refine wcF (V9 (sq (Q1 (rga Q4e (sy 3 3 ?_)))))
     refine Qg3 (enc:=eI) (m:=p1) (w:=1) (bytes:=8) (nr':=true) (fl':=true) (a:=.nils) (b:=eL true eI p1) (rds:=[]) false kr (.inl rfl) (Kp (fun _=>rfl)) rfl gE kr h (fun h=>?_)
     refine sy 1 5 ?_
     refine sgL false [] [] true gE ?_
     refine Yz (enc:=eI) (l:=p1) (m:=([s15]:(List Int))) (w:=1) (bytes:=8) (ob:=1) (nr:=true) (fl:=true) (nr':=true) (fl':=true) (b:=.ref 2 0 1) (rds:=[2]) false kr kr kr rfl gE kr h (fun h=>?_)
     refine sgy 1 8 (S:=⟨([(1,z1 p1),(2,vI p2),(3,.ptr 0 0 0),(8,vI s15),(9,vB false),(59,vB false),(11,.nils),(60,.agg [vI p0.Grain,eL false eTapi_Node p0.Nodes]),(61,.nils),(62,z1 p1)])++[(63,.ref 1 0 p1.length),(64,vI s15),(65,.ref 2 0 1),(66,.ref 3 0 ((p1++([s15]:(List Int))).length)),(67,vI p2)],([oX true false 2 (.agg [vI p0.Grain,eL false eTapi_Node p0.Nodes]),.dead,.row false false true true 1 [vI s15],oR true 1 eI (p1++([s15]:(List Int)))]),72⟩) ?_
     refine Qpc (f:=52) (as0:=[.agg [vI p0.Grain,eL false eTapi_Node p0.Nodes],.ref 3 0 ((p1++([s15]:(List Int))).length),vI p2]) (us:=[.agg [vI p0.Grain,eL false eTapi_Node p0.Nodes],eL true eI (p1++([s15]:(List Int))),vI p2]) (ids:=[3]) (G:=rc0 (p0,(p1++([s15]:(List Int))),p2)) (enc:=eI) (fl:=true) (S0:=⟨([(1,z1 p1),(2,vI p2),(3,.ptr 0 0 0),(8,vI s15),(9,vB false),(59,vB false),(11,.nils),(60,.agg [vI p0.Grain,eL false eTapi_Node p0.Nodes]),(61,.nils),(62,z1 p1)])++[(63,.ref 1 0 p1.length),(64,vI s15),(65,.ref 2 0 1),(66,.ref 3 0 ((p1++([s15]:(List Int))).length)),(67,vI p2),(68,.nils)],([oX true false 2 (.agg [vI p0.Grain,eL false eTapi_Node p0.Nodes]),.dead,.row false false true true 1 [vI s15],oR true 1 eI (p1++([s15]:(List Int)))]),72⟩) (S1:=fun y31 l32=>⟨([(1,z1 p1),(2,vI p2),(3,.ptr 0 0 0),(8,vI s15),(9,vB false),(59,vB false),(11,.nils),(60,.agg [vI p0.Grain,eL false eTapi_Node p0.Nodes]),(61,.nils),(62,z1 p1)])++[(63,.ref 1 0 p1.length),(64,vI s15),(65,.ref 2 0 1),(66,.ref 3 0 ((p1++([s15]:(List Int))).length)),(67,vI p2),(68,eL true eI (y31::l32))],[oX true false 2 (.agg [vI p0.Grain,eL false eTapi_Node p0.Nodes]),.dead,.row false false true true 1 [vI s15],.row false true true true 1 (List.map eI (p1++([s15]:(List Int))))],72⟩) kr Qnl (Qk (Jy (Qk rfl (Qk rfl Xi (by rfl)) (by rfl))) (Qk (Zl (w:=1) (bx:=false) (ro:=false) (enc:=eI) (l:=(p1++([s15]:(List Int)))) (fl:=true) kr) (Qk rfl Xi (by rfl)) (by rfl)) (by rfl)) (fun x29 q30=>IH p0 (p1++([s15]:(List Int))) p2 x29 q30) kr (fun _ _=>by kernel_rfl) h (fun h=>?_) (fun y31 l32 h=>?_)
     ·refine sy 1 10 (rgd (Q1 (wg [1,2,3,8,12] [0] (rn (wcF (V9 (rn ?_)))))))
      cases h
      exact ⟨_,rfl,(wk_gc (live:=[1,2,3,8]) (keep:=[0]) kr)⟩
     ·refine sy 1 10 (rgd (Q1 (wg [1,2,3,8,12] [0] (rn (wcT (Q1 (wg [12] [] (rn (wg [6] [] ?_)))))))))
      refine Qd2 ?_
      cases h
      exact ⟨kr,rfl⟩
    refine wg [] [] ?_
    refine Qeu ?_
    cases h
    exact ⟨kr,rfl⟩
   intro x34 h out hx
   subst hx
   rcases x34 with x35 | x38
   ·dsimp only at h ⊢
    obtain ⟨⟨a,t,e⟩,rfl⟩:=Qj6 h
    rw [e]
    show Jl _ _ _ _=_
    kernel_rfl
   ·dsimp only at h ⊢
    refine sq (wg [6] [] ?_)
    cases h
    exact Qd2 (show Jl _ _ _ _=_ from by kernel_rfl)
  refine sz 10 14 (Xp rfl (wcF (V9 (Q1 (Q1 (wg [1,2,3] [0] (Jk (sz 1 1 ?_))))))))
  refine Ql (enc:=eI) (l:=p1) (fl:=true) kr gE ?_
  refine sz 2 4 ?_
  refine Ql (enc:=eTapi_Node) (l:=p0.Nodes) (fl:=false) kr gE ?_
  refine sz 1 6 (Xp rfl ?_)
  refine wbz h (fun q40 h=>?_) (fun q40 h=>?_)
  ·refine Q1 (wg [1] [] (rn ?_))
   refine wgc [6] [] ⟨[(6,eL true eI p1)],[],72⟩ ?_
   refine Qd2 ?_
   obtain ⟨⟨a,t,e⟩,rfl⟩:=Qj6 h
   rw [e]
   show Jl _ _ _ _=_
   kernel_rfl
  refine V9 (Q1 (Q1 (wg [1,2,3] [0] (rn (Jx ?_)))))
  refine wwh h (fun s43=>⟨[(1,eL true eI p1),(2,vI p2),(3,.ptr 0 0 0),(8,vI s43)],([oX true false 2 (.agg [vI p0.Grain,eL false eTapi_Node p0.Nodes])]),72⟩) (fun x out=>out=match x with | .inl v=>.go (.ret) ⟨[(6,eL true eI v)],[],72⟩ | .inr v=>.go (.exit 0) ⟨[],[],72⟩) (wk_gc (live:=[1,2,3,8]) (keep:=[0]) kr) ?_ ?_
  ·intro s43 o h
   unfold Qdw at h
   refine Q1 (Q1 (Jk (sz 3 3 ?_)))
   refine Ql (enc:=eTapi_Node) (l:=p0.Nodes) (fl:=false) kr gE ?_
   refine sz 1 5 (Xp rfl ?_)
   refine wbz h (fun q45 h=>?_) (fun q45 h=>?_)
   ·refine V9 (Q1 (Jx (Q1 (wg [1,2,3,8] [0] (rn (Q1 (sq (Jx ?_))))))))
    refine wwh h (fun s46=>⟨[(1,eL true eI p1),(2,vI p2),(3,.ptr 0 0 0),(8,vI s43),(9,vB s46.1),(10,vI s46.2)],([oX true false 2 (.agg [vI p0.Grain,eL false eTapi_Node p0.Nodes])]),72⟩) (fun v out=>out=.go (.exit 2) ⟨[(1,eL true eI p1),(2,vI p2),(3,.ptr 0 0 0),(8,vI s43),(9,vB v)],([oX true false 2 (.agg [vI p0.Grain,eL false eTapi_Node p0.Nodes])]),72⟩) (wk_gc (live:=[1,2,3,8,9,10]) (keep:=[0]) kr) ?_ ?_
    ·intro s46 o h
     unfold Qh6 at h
     refine Q1 (Q1 (Jk (sz 2 2 ?_)))
     refine Ql (enc:=eI) (l:=p1) (fl:=true) kr gE ?_
     refine sz 1 4 (Xp rfl ?_)
     refine wb [47] h (fun q48 h=>?_) (fun q48 h=>?_)
     ·refine wcT (V9 (Q1 (Jx (Jk (sz 2 2 (rwg [1,2,3,8,10,51] [0] ?_))))))
      refine rb [51] h (fun q50 h=>?_) (fun q50 h=>?_)
      ·refine sz 8 10 (Xp rfl (wg [1,2,3,8,10,9] [0] (rn ?_)))
       cases h
       exact ⟨_,rfl,(wk_gc (live:=[1,2,3,8,9,10]) (keep:=[0]) kr)⟩
      refine sz 2 4 ?_
      refine Qh7 h (fun a51 q52 h=>?_)
      refine Qj (enc:=eI) (l:=p1) (n:=s46.2) (fl:=true) (w:=1) (a:=a51) kr rfl gE q52 ?_
      refine sz 5 10 (Xp rfl (wg [1,2,3,8,10,9] [0] (rn ?_)))
      cases h
      exact ⟨_,rfl,(wk_gc (live:=[1,2,3,8,9,10]) (keep:=[0]) kr)⟩
     refine wcF (wg [1,2,3,8,9] [0] ?_)
     refine Qeu ?_
     cases h
     exact ⟨kr,rfl⟩
    intro x54 h out hx
    subst hx
    refine Q1 (sq ?_)
    refine wb [9,59] h (fun q56 h=>?_) (fun q56 h=>?_)
    ·refine wcT (wg [1,2,3,8] [0] ?_)
     refine Qeu ?_
     refine rn ?_
     cases h
     exact ⟨_,rfl,(wk_gc (live:=[1,2,3,8]) (keep:=[0]) kr)⟩
    refine wcF (V9 (sq (Q1 (rga Q4e (sy 3 3 ?_)))))
    refine Qg3 (enc:=eI) (m:=p1) (w:=1) (bytes:=8) (nr':=true) (fl':=true) (a:=.nils) (b:=eL true eI p1) (rds:=[]) false kr (.inl rfl) (Kp (fun _=>rfl)) rfl gE kr h (fun h=>?_)
    refine sy 1 5 ?_
    refine sgL false [] [] true gE ?_
    refine Yz (enc:=eI) (l:=p1) (m:=([s43]:(List Int))) (w:=1) (bytes:=8) (ob:=1) (nr:=true) (fl:=true) (nr':=true) (fl':=true) (b:=.ref 2 0 1) (rds:=[2]) false kr kr kr rfl gE kr h (fun h=>?_)
    refine sgy 1 8 (S:=⟨([(1,z1 p1),(2,vI p2),(3,.ptr 0 0 0),(8,vI s43),(9,vB false),(59,vB false),(11,.nils),(60,.agg [vI p0.Grain,eL false eTapi_Node p0.Nodes]),(61,.nils),(62,z1 p1)])++[(63,.ref 1 0 p1.length),(64,vI s43),(65,.ref 2 0 1),(66,.ref 3 0 ((p1++([s43]:(List Int))).length)),(67,vI p2)],([oX true false 2 (.agg [vI p0.Grain,eL false eTapi_Node p0.Nodes]),.dead,.row false false true true 1 [vI s43],oR true 1 eI (p1++([s43]:(List Int)))]),72⟩) ?_
    refine Qpc (f:=52) (as0:=[.agg [vI p0.Grain,eL false eTapi_Node p0.Nodes],.ref 3 0 ((p1++([s43]:(List Int))).length),vI p2]) (us:=[.agg [vI p0.Grain,eL false eTapi_Node p0.Nodes],eL true eI (p1++([s43]:(List Int))),vI p2]) (ids:=[3]) (G:=rc0 (p0,(p1++([s43]:(List Int))),p2)) (enc:=eI) (fl:=true) (S0:=⟨([(1,z1 p1),(2,vI p2),(3,.ptr 0 0 0),(8,vI s43),(9,vB false),(59,vB false),(11,.nils),(60,.agg [vI p0.Grain,eL false eTapi_Node p0.Nodes]),(61,.nils),(62,z1 p1)])++[(63,.ref 1 0 p1.length),(64,vI s43),(65,.ref 2 0 1),(66,.ref 3 0 ((p1++([s43]:(List Int))).length)),(67,vI p2),(68,.nils)],([oX true false 2 (.agg [vI p0.Grain,eL false eTapi_Node p0.Nodes]),.dead,.row false false true true 1 [vI s43],oR true 1 eI (p1++([s43]:(List Int)))]),72⟩) (S1:=fun y59 l60=>⟨([(1,z1 p1),(2,vI p2),(3,.ptr 0 0 0),(8,vI s43),(9,vB false),(59,vB false),(11,.nils),(60,.agg [vI p0.Grain,eL false eTapi_Node p0.Nodes]),(61,.nils),(62,z1 p1)])++[(63,.ref 1 0 p1.length),(64,vI s43),(65,.ref 2 0 1),(66,.ref 3 0 ((p1++([s43]:(List Int))).length)),(67,vI p2),(68,eL true eI (y59::l60))],[oX true false 2 (.agg [vI p0.Grain,eL false eTapi_Node p0.Nodes]),.dead,.row false false true true 1 [vI s43],.row false true true true 1 (List.map eI (p1++([s43]:(List Int))))],72⟩) kr Qnl (Qk (Jy (Qk rfl (Qk rfl Xi (by rfl)) (by rfl))) (Qk (Zl (w:=1) (bx:=false) (ro:=false) (enc:=eI) (l:=(p1++([s43]:(List Int)))) (fl:=true) kr) (Qk rfl Xi (by rfl)) (by rfl)) (by rfl)) (fun x57 q58=>IH p0 (p1++([s43]:(List Int))) p2 x57 q58) kr (fun _ _=>by kernel_rfl) h (fun h=>?_) (fun y59 l60 h=>?_)
    ·refine sy 1 10 (rgd (Q1 (wg [1,2,3,8,12] [0] (rn (wcF (V9 (rn ?_)))))))
     cases h
     exact ⟨_,rfl,(wk_gc (live:=[1,2,3,8]) (keep:=[0]) kr)⟩
    ·refine sy 1 10 (rgd (Q1 (wg [1,2,3,8,12] [0] (rn (wcT (Q1 (wg [12] [] (rn (wg [6] [] ?_)))))))))
     refine Qd2 ?_
     cases h
     exact ⟨kr,rfl⟩
   refine wg [] [] ?_
   refine Qeu ?_
   cases h
   exact ⟨kr,rfl⟩
  intro x62 h out hx
  subst hx
  rcases x62 with x63 | x66
  ·dsimp only at h ⊢
   obtain ⟨⟨a,t,e⟩,rfl⟩:=Qj6 h
   rw [e]
   show Jl _ _ _ _=_
   kernel_rfl
  ·dsimp only at h ⊢
   refine sq (wg [6] [] ?_)
   cases h
   exact Qd2 (show Jl _ _ _ _=_ from by kernel_rfl)
theorem Qpy (p0:Qc) (p1:(List Int)) (p2:Int) (x:(List Int)) (h:Qbg p0 p1 p2=some x):Qx Tryd.prog 52 [.agg [vI p0.Grain,eL false eTapi_Node p0.Nodes],z1 p1,vI p2] (.ret (nlE true eI x) []):=Qhl fuel p0 p1 p2 x h
noncomputable abbrev Qoi (p0:Qc):AObj:=oX true false 2 (.agg [vI p0.Grain,eL false eTapi_Node p0.Nodes])
noncomputable abbrev Qpt:AObj:=oX true false 3 (.agg [.nils,.nils,.nils])
noncomputable abbrev Qtx (a0:Nat×AV) (p0:Qc):List (Nat×AV):=[(1,.ptr 0 0 0),(2,.ptr 1 0 0),a0,(7,.agg [vI p0.Grain,eL false eTapi_Node p0.Nodes])]
theorem Qn8 (p0:Qc) (x:Qq) (h:Qau p0=some x):Qx Tryd.prog 27 [.agg [vI p0.Grain,eL false eTapi_Node p0.Nodes]] (.ret (.agg [.ref 0 0 x.Cliques.length,.ref 1 0 x.Up.length,.ref 2 0 x.Home.length]) [oR true 1 (AV.int .u64) x.Cliques,oR true 1 eI x.Up,oR true 1 eI x.Home]):=by
 refine Qxd [] Tryd.func27 rfl (by decide +kernel) rfl ?_
 unfold Qau at h
 refine Qyp (base':=0) (st':=⟨[(0,.agg [vI p0.Grain,eL false eTapi_Node p0.Nodes])],[],15⟩) kr kr ?_
 refine Q1 (Jk ?_)
 refine sgL false [] [] false gE ?_
 refine sgL false [] [] false gE ?_
 refine Xp rfl (sq (Jx ?_))
 refine wwh h (fun s1=>⟨[(1,.ptr 0 0 0),(2,.ptr 1 0 0),(3,vI s1)],[(Qoi p0),Qpt],15⟩) (fun v out=>out=.go (.ret) ⟨[(2,.ptr 0 0 0)],[oX false false 3 (.agg [.ref 1 0 v.1.length,.ref 2 0 v.2.1.length,.ref 3 0 v.2.2.length]),oR true 1 (AV.int .u64) v.1,oR true 1 eI v.2.1,oR true 1 eI v.2.2],15⟩) (wk_gc (live:=[1,2,3]) (keep:=[0,1]) kr) ?_ ?_
 ·intro s1 o h
  unfold Jw at h
  refine Q1 (Jx (Q1 (Jk ?_)))
  refine sgz 2 2 (S:=⟨(Qtx (3,vI s1) p0)++[(8,vI s1)],[(Qoi p0),Qpt],15⟩) ?_
  refine Qpc (f:=52) (as0:=[.agg [vI p0.Grain,eL false eTapi_Node p0.Nodes],.nils,vI s1]) (us:=[.agg [vI p0.Grain,eL false eTapi_Node p0.Nodes],.nils,vI s1]) (ids:=[]) (G:=Qbg p0 [] s1) (enc:=eI) (fl:=true) (S0:=⟨(Qtx (3,vI s1) p0)++[(8,vI s1),(9,.nils)],[(Qoi p0),Qpt],15⟩) (S1:=fun y4 l5=>⟨(Qtx (3,vI s1) p0)++[(8,vI s1),(9,z1 (y4::l5))],[(Qoi p0),Qpt],15⟩) kr Qnl (Qk (Jy (Qk rfl (Qk rfl Xi))) (Qk rfl (Qk rfl Xi))) (fun x2 q3=>Qx.args [[.keep,.keep],[.lst true],[.keep]] (Qpy p0 [] s1 x2 q3)) kr (fun _ _=>by kernel_rfl) h (fun h=>?_) (fun y4 l5 h=>?_)
  ·refine sz 1 4 (Xp rfl (sq (wcF (V9 (wg [1,2,3] [0,1] (rn ?_))))))
   cases h
   exact ⟨_,rfl,(wk_gc (live:=[1,2,3]) (keep:=[0,1]) kr)⟩
  ·refine sz 1 4 (Xp rfl (sq (wcT (Q1 (wg [1,2,4] [0,1] (Jk (sz 2 2 ?_)))))))
   refine Qw1 Q0j (Qpl p0 (y4::l5)) h (fun x7 _ h=>?_)
   refine sz 1 4 (Xp rfl (wg [2] [1,2,3,4] ?_))
   refine Qd2 ?_
   cases h
   exact ⟨kr,rfl⟩
 intro x10 h out hx
 subst hx
 cases h
 show Jl _ _ _ _=_
 kernel_rfl
section
attribute [local irreducible] RW WP
theorem g_law10_TreeLeast_ok (p0:Qe) (p1:Q9):Ct Tryd.prog 5 [.agg [.int .u8 p0.Grain,eL false eTharuspexref05_Piece p0.Nodes,eL true (AV.int .u8) p0.Order],.agg [.int .u8 p1.What,.int .u8 p1.At,.int .u8 p1.Row,vI p1.N]] (Qcn p0 p1) (fun x=>vB x) (fun x=>[]):=by
 refine hfn [] Tryd.func5 <| hop 0 (fun _=>sgL false [] [] false gE) <| hcl 2 [] (g_law10_wakes_ok ) fun x1 _=>hbr 1 [11] (hrt 3) <| ?_
 refine hcl 2 [] (Qjv p0) fun x5 _=>hop 0 (fun _=>sgL false [] [] false gE) <| hcl 5 [F eTapi_Node x5.Nodes] (g_ref05_Bend_Of_ok p1 x5) fun x7 _=>hlp 2 (fun s9=>⟨[(18,.agg [vI x5.Grain,eL false eTapi_Node x5.Nodes,vI x7.Grain,eL false eTapi_Node x7.Nodes]),(19,vI s9)],[],48⟩) (fun x=>match x with | .inl v=>(.ret,⟨[(4,vB false)],[],48⟩) | .inr v=>(.exit 0,⟨[],[],48⟩)) (wk_trans (wk_gc (live:=[18,19]) (keep:=[2]) gE) (wk_trans (wsn 18 [F eTapi_Node x5.Nodes]) (wk_gc (live:=[18,19]) (keep:=[]) kr))) (fun s9=>?_) (hsm (fun x35=>?_) (fun x36=>?_))
 ·refine hbr 1 [20] (?_) ?_
  ·refine hbd fun a12 q13=>hop 1 (fun _=>Q5l (enc:=Qyt) (l:=([x5,x7]:(List Qc))) (n:=s9) (a:=a12) (w:=2) (g:=true) (v:=.agg [vI a12.Grain,eL false eTapi_Node a12.Nodes]) kr (fun _=>rfl) kr q13 kr gE) <| hop 0 (fun _=>sgL false [] [] false gE) <| hcl 2 [] (g_tree_Least_ok a12) fun x14 _=>hop 3 (fun _=>sgL false [] [] false gE) <| hcl 3 [] (g_ref05_Right_ok a12) fun x16 _=>hbr 1 [29] (?_) ?_
   ·refine hbr 4 [31,32] (hdx 7 (wz [])) <| ?_
    refine hcl 2 [F (AV.int .u64) x14.1.Cliques,F eI x14.1.Up,F eI x14.1.Home] (us:=[.agg [eL true (AV.int .u64) x14.1.Cliques,z1 x14.1.Up,z1 x14.1.Home],.agg [.nils,.nils,.nils]]) (rv:=fun x22=>vB x22) (ro:=fun x22=>[]) (fun x22 q23=>Qx.args [[.keep,.keep,.keep],[.lst true,.lst true,.lst true]] (Qa3 x14.1 (Qq.mk [] [] []) x22 q23)) fun x22 _=>hbr 2 [36,37] (hdx 2 (wz [])) <| ?_
    refine hwk 1 (wl [18,19] []) <| hnx 3 (wz [])
   refine hbr 5 [39,40] (hdx 8 (wz [])) <| ?_
   refine hcl 2 [] (us:=[.agg [vI a12.Grain,eL false eTapi_Node a12.Nodes]]) (rv:=fun x28=>.agg [eL true (AV.int .u64) x28.Cliques,z1 x28.Up,z1 x28.Home]) (ro:=fun x28=>[]) (fun x28 q29=>Qx.froz (Qn8 a12 x28 q29) (Jy (Qk (Zl (w:=1) (bx:=false) (ro:=false) (enc:=(AV.int .u64)) (l:=x28.Cliques) (fl:=true) rfl) (Qk (Zl (w:=1) (bx:=false) (ro:=false) (enc:=eI) (l:=x28.Up) (fl:=true) rfl) (Qk (Zl (w:=1) (bx:=false) (ro:=false) (enc:=eI) (l:=x28.Home) (fl:=true) rfl) Xi (by rfl)) (by rfl)) (by rfl)))) fun x28 _=>hcl 0 [F (AV.int .u64) x14.1.Cliques,F eI x14.1.Up,F eI x14.1.Home] (Qa3 x14.1 x28) fun x30 _=>hbr 2 [45,46] (hdx 2 (wz [])) <| ?_
   refine hnx 3 (wz [])
  refine hdx 1 (wz [])
 ·refine hrt 0
 refine hrt 2
end
end Go.Ab
namespace Go.Ab
open Go
theorem Qnd {σ ρ:Type} {body:σ→Option (Qh σ ρ)} (I:σ→Prop) (m:σ→Nat) (Q:ρ→Prop)
  (step:∀s,I s→(∃s',body s=some (.next s')∧I s'∧m s' < m s)∨(∃r,body s=some (.done r)∧Q r)) :
  ∀(n:Nat) (s:σ),I s→m s < n→∃r,Qa n body s=some r∧Q r
 | 0,s,_,h=>by omega
 | n+1,s,hI,h=>by
  unfold Qa
  rcases step s hI with ⟨s',h1,h2,h3⟩ | ⟨r,h1,h2⟩
  ·rw [h1]
   exact Qnd I m Q step n s' h2 (by omega)
  ·rw [h1]
   exact ⟨r,rfl,h2⟩
theorem Vc {σ ρ:Type} {body:σ→Option (Qh σ ρ)} (I:σ→Prop) (m:σ→Nat) (Q:ρ→Prop)
  (step:∀s,I s→(∃s',body s=some (.next s')∧I s'∧m s' < m s)∨(∃r,body s=some (.done r)∧Q r)) (s:σ) (hI:I s) (hm:m s < 1152921504606846976):∃r,Qa fuel body s=some r∧Q r :=
 Qnd I m Q step fuel s hI hm
theorem Qsy {σ ρ:Type} {body:σ→Option (Qh σ ρ)} (f:Nat → σ) (n:Nat) (r:ρ) (step:∀k,k < n→body (f k)=some (.next (f (k+1)))) (done:body (f n)=some (.done r)) (hn:n < 1152921504606846976) :
  Qa fuel body (f 0)=some r:=by
 have key:∀(j N k:Nat),k+j=n→j < N→Qa N body (f k)=some r:=by
  intro j
  induction j with
  | zero =>
   intro N k hk hN
   obtain ⟨N,rfl⟩:∃M,N=M+1:=⟨N - 1,by omega⟩
   have:k=n:=by omega
   subst this
   simp [Qa,done]
  | succ j ih =>
   intro N k hk hN
   obtain ⟨N,rfl⟩:∃M,N=M+1:=⟨N - 1,by omega⟩
   simp only [Qa,step k (by omega)]
   exact ih N (k+1) (by omega) (by omega)
 exact key n fuel 0 (by omega) hn
theorem Qcd {σ ρ:Type} {body:σ→Option (Qh σ ρ)} {s0:σ} (f:Nat → σ) (n:Nat) (r:ρ) (h0:f 0=s0) (step:∀k,k < n→body (f k)=some (.next (f (k+1)))) (done:body (f n)=some (.done r)) (hn:n < 1152921504606846976) :
  Qa fuel body s0=some r:=by rw [←h0]; exact Qsy f n r step done hn
theorem w64 {n:Int} (h:-9223372036854775808≤n∧n≤9223372036854775807):zw n=n:=by show IntKind.wrap .i64 n=n; rw [IntKind.wrap_i64]; omega
theorem Q4 {α:Type} {l:List α} {k:Nat} (h:k < l.length):lkI l (k:Int)=some l[k]:=by
 unfold lkI
 rw [if_neg (by omega),Int.toNat_natCast,List.getElem?_eq_getElem h]
theorem Q1q {a b:Int} (h:0≤a):Int.tdiv a b=a / b:=Int.tdiv_eq_ediv_of_nonneg h
theorem Qdi {a b:Int} (h:0≤a):Int.tmod a b=a % b:=Int.tmod_eq_emod_of_nonneg h
end Go.Ab
