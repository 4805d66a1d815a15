/- Functions. No conditions. -/
import Derived.Test.YtgogkahhifkocaaDoorProg
import Derived.Test.YtgogkahhifkocaaDoorW11
import Derived.KernelRfl
import Derived.Test.YtgogkahhifkocaaDoorW12
import Derived.Test.YtgogkahhifkocaaDoorW13
import Derived.Test.YtgogkahhifkocaaDoorEng8
import Derived.IntWalk
set_option maxRecDepth 100000
set_option maxHeartbeats 4000000
set_option linter.all false
namespace Go.Ab
open Go Go.Proofs
section
attribute [local irreducible] RW WP
theorem Qjf (w0_0:Int) (w0_1:(List Ad)):Hl Tryd.prog (fun x out=>Qab Tryd.prog Tryd.f23 [[.keep,.lst false]] out=some (.agg [vI x.Grain,eL false Ah x.Nodes],[])) (atW Tryd.prog Tryd.f23 [true,true,true,true,false,true,false,true] ⟨[(4,.ptr 0 0 0)],[oX false false 2 (.agg [vI w0_0,.ref 1 0 w0_1.length]),oR false 3 Ah w0_1],323⟩) (Qe1 w0_0 w0_1):=by
 refine hwk 0 (wl [4] [0,1]) <| hwk 0 (won 0 0 [F Ah w0_1]) <| hrt 1
theorem Qji (w1_0:Int) (w1_1:(List Ad)) (w1_2:Int) (w1_3:Int) (w1_4:(List Int)) (w1_5:(List (List Int))):Hl Tryd.prog (fun x out=>Qab Tryd.prog Tryd.f23 [[.keep,.lst false]] out=some (.agg [vI x.Grain,eL false Ah x.Nodes],[])) (atW Tryd.prog Tryd.f23 [true,true,true,true,false,true,false,true] ⟨[(4,.ptr 0 0 0)],[oX false false 2 (.agg [vI w1_0,.ref 1 0 w1_1.length]),.row false false false false 3 (hole Ah w1_1 w1_2 (.agg [vI w1_3,.ref 2 0 w1_4.length,.ref 3 0 w1_5.length])),oR true 1 eI w1_4,.refs 4 (eF eI w1_5),.fam 1 true (eF eI w1_5)],323⟩) (Qfg w1_0 w1_1 w1_2 w1_3 w1_4 w1_5):=by
 refine hbd fun a47 q48=>hwk 0 (Qoe 3 4 (w:=1) (fl:=true) (enc:=eI) (ls:=w1_5)) <| hwk 0 (wcl 1 [F eI w1_4,F z1 w1_5] (enc:=Ah) (L:=w1_1) (n:=w1_2) (A:=.agg [vI w1_3,.ref 2 0 w1_4.length,.ref 3 0 w1_5.length]) (bx:=false) (ro:=false) (nr:=false) (fl:=false) (w:=3) q48) <| hkn 0 (fun z49=>⟨[(4,.ptr 0 0 0)],[oX false false 2 (.agg [vI w1_0,.ref 1 0 w1_1.length]),.row false false false false 3 z49,.row false true true true 1 (List.map eI w1_4),.row false true true false 1 (List.map z1 w1_5),.dead],323⟩) (show ((hole Ah w1_1 w1_2 (.agg [vI w1_3,.ref 2 0 w1_4.length,.ref 3 0 w1_5.length])).set (zt w1_2) (.agg [vI w1_3,z1 w1_4,z2 w1_5]))=List.map Ah (List.set w1_1 (zt w1_2) (Ad.mk w1_3 w1_4 w1_5)) from Qcy (enc:=Ah) (L:=w1_1) (n:=w1_2) (A:=.agg [vI w1_3,.ref 2 0 w1_4.length,.ref 3 0 w1_5.length]) (b:=(Ad.mk w1_3 w1_4 w1_5))) <| hwk 0 (wk_rowT 1 (enc:=Ah) (L:=(List.set w1_1 (zt w1_2) (Ad.mk w1_3 w1_4 w1_5))) (bx:=false) (ro:=false) (nr:=false) (fl:=false) (w:=3) (fun a=>by cases a <;> rfl) kr rfl) <| hkn 0 (fun n50=>⟨[(4,.ptr 0 0 0)],[oX false false 2 (.agg [vI w1_0,.ref 1 0 n50]),oR false 3 Ah (List.set w1_1 (zt w1_2) (Ad.mk w1_3 w1_4 w1_5)),.row false true true true 1 (List.map eI w1_4),.row false true true false 1 (List.map z1 w1_5),.dead],323⟩) (ls w1_1 (zt w1_2) (Ad.mk w1_3 w1_4 w1_5)) <| hwk 0 (wl [4] [0,1]) <| hwk 0 (won 0 0 [F Ah (List.set w1_1 (zt w1_2) (Ad.mk w1_3 w1_4 w1_5))]) <| hrt 1
theorem g_ref05_Bend_Of_j3_ok (w3_0:Int) (w3_1:(List Ad)) (w3_2:Int) (w3_3:Int) (w3_4:(List Int)) (w3_5:(List (List Int))):Hl Tryd.prog (fun x out=>Qab Tryd.prog Tryd.f23 [[.keep,.lst false]] out=some (.agg [vI x.Grain,eL false Ah x.Nodes],[])) (atW Tryd.prog Tryd.f23 [true,true,true,true,true,true,true,true,true,true] ⟨[(4,.ptr 0 0 0)],[oX false false 2 (.agg [vI w3_0,.ref 1 0 w3_1.length]),.row false false false false 3 (hole Ah w3_1 w3_2 (.agg [vI w3_3,.ref 2 0 w3_4.length,.ref 3 0 w3_5.length])),oR true 1 eI w3_4,.refs 4 (eF eI w3_5),.fam 1 true (eF eI w3_5)],323⟩) (Ql w3_0 w3_1 w3_2 w3_3 w3_4 w3_5):=by
 refine hbd fun a58 q59=>hwk 0 (Qoe 3 4 (w:=1) (fl:=true) (enc:=eI) (ls:=w3_5)) <| hwk 0 (wcl 1 [F eI w3_4,F z1 w3_5] (enc:=Ah) (L:=w3_1) (n:=w3_2) (A:=.agg [vI w3_3,.ref 2 0 w3_4.length,.ref 3 0 w3_5.length]) (bx:=false) (ro:=false) (nr:=false) (fl:=false) (w:=3) q59) <| hkn 0 (fun z60=>⟨[(4,.ptr 0 0 0)],[oX false false 2 (.agg [vI w3_0,.ref 1 0 w3_1.length]),.row false false false false 3 z60,.row false true true true 1 (List.map eI w3_4),.row false true true false 1 (List.map z1 w3_5),.dead],323⟩) (show ((hole Ah w3_1 w3_2 (.agg [vI w3_3,.ref 2 0 w3_4.length,.ref 3 0 w3_5.length])).set (zt w3_2) (.agg [vI w3_3,z1 w3_4,z2 w3_5]))=List.map Ah (List.set w3_1 (zt w3_2) (Ad.mk w3_3 w3_4 w3_5)) from Qcy (enc:=Ah) (L:=w3_1) (n:=w3_2) (A:=.agg [vI w3_3,.ref 2 0 w3_4.length,.ref 3 0 w3_5.length]) (b:=(Ad.mk w3_3 w3_4 w3_5))) <| hwk 0 (wk_rowT 1 (enc:=Ah) (L:=(List.set w3_1 (zt w3_2) (Ad.mk w3_3 w3_4 w3_5))) (bx:=false) (ro:=false) (nr:=false) (fl:=false) (w:=3) (fun a=>by cases a <;> rfl) kr rfl) <| hkn 0 (fun n61=>⟨[(4,.ptr 0 0 0)],[oX false false 2 (.agg [vI w3_0,.ref 1 0 n61]),oR false 3 Ah (List.set w3_1 (zt w3_2) (Ad.mk w3_3 w3_4 w3_5)),.row false true true true 1 (List.map eI w3_4),.row false true true false 1 (List.map z1 w3_5),.dead],323⟩) (ls w3_1 (zt w3_2) (Ad.mk w3_3 w3_4 w3_5)) <| hwk 0 (wl [4] [0,1]) <| hwk 0 (won 0 0 [F Ah (List.set w3_1 (zt w3_2) (Ad.mk w3_3 w3_4 w3_5))]) <| hrt 1
theorem g_ref05_Bend_Of_j4_ok (w4_0:Int) (w4_1:(List Ad)) (w4_2:Int) (w4_3:Int) (w4_4:(List (List Int))):Hl Tryd.prog (fun x out=>Qab Tryd.prog Tryd.f23 [[.keep,.lst false]] out=some (.agg [vI x.Grain,eL false Ah x.Nodes],[])) (atW Tryd.prog Tryd.f23 [true,true,true,true,true,true,true,true,true,true] ⟨[(4,.ptr 0 0 0)],[oX false false 2 (.agg [vI w4_0,.ref 1 0 w4_1.length]),.row false false false false 3 (hole Ah w4_1 w4_2 (.agg [vI w4_3,.nils,.ref 2 0 w4_4.length])),.refs 3 (eF eI w4_4),.fam 1 true (eF eI w4_4)],323⟩) (Qbq w4_0 w4_1 w4_2 w4_3 w4_4):=by
 refine hbd fun a74 q75=>hwk 0 (Qoe 2 3 (w:=1) (fl:=true) (enc:=eI) (ls:=w4_4)) <| hwk 0 (Qi9 1 1 1 true true (enc:=Ah) (L:=w4_1) (n:=w4_2) (a:=a74) (A:=.agg [vI w4_3,.nils,.ref 2 0 w4_4.length]) (A':=.agg [vI w4_3,.ref 4 0 0,.ref 2 0 w4_4.length]) (y:=.nils) (bx:=false) (nr0:=false) (fl0:=false) (w0:=3) q75 kr kr kr kr rfl) <| hwk 0 (wcl 1 [none,F z1 w4_4] (enc:=Ah) (L:=w4_1) (n:=w4_2) (A:=.agg [vI w4_3,.ref 4 0 0,.ref 2 0 w4_4.length]) (bx:=false) (ro:=false) (nr:=false) (fl:=false) (w:=3) q75) <| hkn 0 (fun z76=>⟨[(4,.ptr 0 0 0)],[oX false false 2 (.agg [vI w4_0,.ref 1 0 w4_1.length]),.row false false false false 3 z76,.row false true true false 1 (List.map z1 w4_4),.dead,.row false true true true 1 []],323⟩) (show ((hole Ah w4_1 w4_2 (.agg [vI w4_3,.ref 4 0 0,.ref 2 0 w4_4.length])).set (zt w4_2) (.agg [vI w4_3,.lst true [],z2 w4_4]))=List.map Ah (List.set w4_1 (zt w4_2) (Ad.mk w4_3 [] w4_4)) from Qcy (enc:=Ah) (L:=w4_1) (n:=w4_2) (A:=.agg [vI w4_3,.ref 4 0 0,.ref 2 0 w4_4.length]) (b:=(Ad.mk w4_3 [] w4_4))) <| hwk 0 (wk_rowT 1 (enc:=Ah) (L:=(List.set w4_1 (zt w4_2) (Ad.mk w4_3 [] w4_4))) (bx:=false) (ro:=false) (nr:=false) (fl:=false) (w:=3) (fun a=>by cases a <;> rfl) kr rfl) <| hkn 0 (fun n77=>⟨[(4,.ptr 0 0 0)],[oX false false 2 (.agg [vI w4_0,.ref 1 0 n77]),oR false 3 Ah (List.set w4_1 (zt w4_2) (Ad.mk w4_3 [] w4_4)),.row false true true false 1 (List.map z1 w4_4),.dead,.row false true true true 1 []],323⟩) (ls w4_1 (zt w4_2) (Ad.mk w4_3 [] w4_4)) <| hwk 0 (wl [4] [0,1]) <| hwk 0 (won 0 0 [F Ah (List.set w4_1 (zt w4_2) (Ad.mk w4_3 [] w4_4))]) <| ?_
 refine hrt 1
theorem Qiw (w5_0:Int) (w5_1:(List Ad)):Hl Tryd.prog (fun x out=>Qab Tryd.prog Tryd.f23 [[.keep,.lst false]] out=some (.agg [vI x.Grain,eL false Ah x.Nodes],[])) (atW Tryd.prog Tryd.f23 [true,true,true,true,true,true,true,true,true,true] ⟨[(4,.ptr 0 0 0)],[oX false false 2 (.agg [vI w5_0,.ref 1 0 w5_1.length]),oR false 3 Ah w5_1],323⟩) (Qbo w5_0 w5_1):=by
 refine hwk 0 (wl [4] [0,1]) <| hwk 0 (won 0 0 [F Ah w5_1]) <| hrt 1
noncomputable abbrev o60_87 (w2_2 w2_3 w2_4 w2_5:Int):AObj:=oX true true 4 (.agg [.int .u8 w2_2,.int .u8 w2_3,.int .u8 w2_4,vI w2_5])
noncomputable abbrev o60_88 (w2_6:Int) (w2_8:(List Ad)):AObj:=oX false false 2 (.agg [vI w2_6,.ref 3 0 w2_8.length])
noncomputable abbrev o60_89 (w2_11:(List Int)):AObj:=.row false true true true 1 (List.map eI w2_11)
noncomputable abbrev o60_90 (w2_7:Int):AObj:=oX true false 2 (.agg [vI w2_7,.nils])
noncomputable abbrev Q5v (w2_2:Int):Nat×AV:=(101,.int .u8 (Int.tmod w2_2 12))
noncomputable abbrev s60_92 (w2_9 w2_1 w2_2:Int):List (Nat×AV):=[(2,.ptr 0 0 0),(3,.ptr 1 0 0),(4,.ptr 2 0 0),(10,.ptr 3 (zt w2_9) 0),(11,vI w2_1),(99,.ptr 0 0 0),(100,.int .u8 w2_2),(Q5v w2_2),(111,vB false),(110,vB false),(116,vB false),(115,vB false),(123,vB false),(122,vB false),(136,vB false),(135,vB false),(141,vB false),(140,vB false)]
noncomputable abbrev s60_93 (a0 a1 a2 a3 a4 a5 a6 a7 a8 a9 a10 a11 a12 a13 a14 a15 a16:Nat×AV) (w2_9 w2_1 a143:Int):List (Nat×AV):=[(3,.ptr 0 0 0),(4,.ptr 1 0 0),(10,.ptr 2 (zt w2_9) 0),(11,vI w2_1),a0,a1,a2,a3,(266,vB true),(269,.ptr 2 (zt w2_9) 0),(270,.ptr 2 (zt w2_9) 0),(271,.ptr 2 (zt w2_9) 2),a4,(273,vI w2_1),(274,.ptr 4 (zt w2_1) 0),a5,a6,a7,a8,a9,(279,.ptr 2 (zt w2_9) 0),(280,.ptr 2 (zt w2_9) 0),(281,.ptr 2 (zt w2_9) 2),a10,(283,vI w2_1),(284,.ptr 4 (zt w2_1) 0),a11,a12,(287,.ptr 2 (zt w2_9) 0),(288,.ptr 2 (zt w2_9) 0),(289,.ptr 2 (zt w2_9) 2),a13,(291,vI w2_1),(292,.ptr 4 (zt w2_1) 0),a14,a15,a16,(296,vI a143)]
theorem g_ref05_Bend_Of_j2_ok (w2_0:Nat) (w2_1:Int) (w2_2:Int) (w2_3:Int) (w2_4:Int) (w2_5:Int) (w2_6:Int) (w2_7:Int) (w2_8:(List Ad)) (w2_9:Int) (w2_10:Int) (w2_11:(List Int)) (w2_12:(List (List Int))):Hl Tryd.prog (fun x out=>Qab Tryd.prog Tryd.f23 [[.keep,.lst false]] out=some (.agg [vI x.Grain,eL false Ah x.Nodes],[])) (atW Tryd.prog Tryd.f23 [true,true,true,true,true,true,true,true] ⟨[(2,.ptr 0 0 0),(3,.ptr 1 0 0),(4,.ptr 2 0 0),(10,.ptr 3 (zt w2_9) 0),(11,vI w2_1)],[oX true true 4 (.agg [.int .u8 w2_2,.int .u8 w2_3,.int .u8 w2_4,vI w2_5]),oX false false 2 (.agg [vI w2_6,.ref 3 0 w2_8.length]),oX true false 2 (.agg [vI w2_7,.nils]),.row false false false false 3 (hole Ah w2_8 w2_9 (.agg [vI w2_10,.ref 4 0 w2_11.length,.ref 5 0 w2_12.length])),oR true 1 eI w2_11,.refs 6 (eF eI w2_12),.fam 1 true (eF eI w2_12)],323⟩) (Vt w2_0 w2_1 w2_2 w2_3 w2_4 w2_5 w2_6 w2_7 w2_8 w2_9 w2_10 w2_11 w2_12):=by
 refine hbr 5 [111,110] (?_) ?_
 ·refine hjn 7 (g_ref05_Bend_Of_j3_ok w2_5 w2_8 w2_9 w2_10 w2_11 w2_12) (wk_gcH (live:=[4]) (keep:=[2,3,4,5,6]) 3 Ah w2_8 w2_9 (.agg [vI w2_10,.ref 4 0 w2_11.length,.ref 5 0 w2_12.length]) 3 (fun f a=>by cases a <;> rfl) kr kr)
 refine hbr 3 [116,115] (?_) ?_
 ·refine hbd fun a64 q65=>hop 6 (fun _=>Qd3 (enc:=Ah) (L:=w2_8) (n:=w2_9) (a:=a64) (A:=.agg [vI w2_10,.ref 4 0 w2_11.length,.ref 5 0 w2_12.length]) (ob:=3) (w:=3) (A':=.agg [vI w2_5,.ref 4 0 w2_11.length,.ref 5 0 w2_12.length]) (v:=vI w2_5) (c:=0) kr kr q65 kr kr gE kr) <| hjn 2 (g_ref05_Bend_Of_j3_ok w2_6 w2_8 w2_9 w2_5 w2_11 w2_12) (wk_gcH (live:=[4]) (keep:=[2,3,4,5,6]) 3 Ah w2_8 w2_9 (.agg [vI w2_5,.ref 4 0 w2_11.length,.ref 5 0 w2_12.length]) 3 (fun f a=>by cases a <;> rfl) kr kr)
 refine hbr 3 [123,122] (?_) ?_
 ·refine hbd fun a68 q69=>hop 6 (fun _=>Xo (enc:=Ah) (L:=w2_8) (n:=w2_9) (a:=a68) (A:=.agg [vI w2_10,.ref 4 0 w2_11.length,.ref 5 0 w2_12.length]) (ob:=3) (w:=3) (c:=1) (ro:=false) (nr:=false) (fl:=false) kr kr q69 gE) <| hop 2 (fun _=>sgL false [] [] true gE) <| hoh 0 (fun _ _ h k=>Kp (enc:=eI) (l:=w2_11) (m:=([w2_5]:(List Int))) (w:=1) (bytes:=8) (ob:=4) (nr:=true) (fl:=true) (nr':=true) (fl':=true) (b:=.ref 7 0 1) (rds:=[7]) false kr kr kr kr gE kr h k) <| hop 2 (fun _=>Qd3 (enc:=Ah) (L:=w2_8) (n:=w2_9) (a:=a68) (A:=.agg [vI w2_10,.ref 4 0 w2_11.length,.ref 5 0 w2_12.length]) (ob:=3) (w:=3) (A':=.agg [vI w2_10,.ref 8 0 ((w2_11++([w2_5]:(List Int))).length),.ref 5 0 w2_12.length]) (v:=.ref 8 0 ((w2_11++([w2_5]:(List Int))).length)) (c:=1) kr kr q69 kr kr gE kr) <| hjn 2 (g_ref05_Bend_Of_j3_ok w2_6 w2_8 w2_9 w2_10 (w2_11++([w2_5]:(List Int))) w2_12) (wk_gcH (live:=[4]) (keep:=[2,3,8,5,6]) 3 Ah w2_8 w2_9 (.agg [vI w2_10,.ref 8 0 ((w2_11++([w2_5]:(List Int))).length),.ref 5 0 w2_12.length]) 3 (fun f a=>by cases a <;> rfl) kr kr)
 refine hbr 3 [136,135] (?_) ?_
 ·refine hbd fun a72 q73=>hop 4 (fun _=>Qd3 (enc:=Ah) (L:=w2_8) (n:=w2_9) (a:=a72) (A:=.agg [vI w2_10,.ref 4 0 w2_11.length,.ref 5 0 w2_12.length]) (ob:=3) (w:=3) (A':=.agg [vI w2_10,.nils,.ref 5 0 w2_12.length]) (v:=.nils) (c:=1) kr kr q73 kr kr gE kr) <| hjn 2 (g_ref05_Bend_Of_j4_ok w2_6 w2_8 w2_9 w2_10 w2_12) (wk_gcH (live:=[4]) (keep:=[2,3,5,6]) 3 Ah w2_8 w2_9 (.agg [vI w2_10,.nils,.ref 5 0 w2_12.length]) 3 (fun f a=>by cases a <;> rfl) kr kr)
 refine hbr 3 [141,140] (?_) ?_
 ·refine hbd fun a80 q81=>hop 6 (fun _=>Xo (enc:=Ah) (L:=w2_8) (n:=w2_9) (a:=a80) (A:=.agg [vI w2_10,.ref 4 0 w2_11.length,.ref 5 0 w2_12.length]) (ob:=3) (w:=3) (c:=2) (ro:=false) (nr:=false) (fl:=false) kr kr q81 gE) <| hop 2 (fun _=>sgL false [] [] true gE) <| hop 0 (fun _=>sg true 1 _ gE rfl) <| hoh 0 (fun _ _ h k=>Qxd (enc:=eI) (ls:=w2_12) (q:=([w2_5]:(List Int))) (bytes:=24) (ob:=5) (j:=6) (tm:=8) (m:=7) kr kr kr kr gE kr h k) <| hop 2 (fun _=>Qd3 (enc:=Ah) (L:=w2_8) (n:=w2_9) (a:=a80) (A:=.agg [vI w2_10,.ref 4 0 w2_11.length,.ref 5 0 w2_12.length]) (ob:=3) (w:=3) (A':=.agg [vI w2_10,.ref 4 0 w2_11.length,.ref 9 0 ((w2_12++[([w2_5]:(List Int))]).length)]) (v:=.ref 9 0 ((w2_12++[([w2_5]:(List Int))]).length)) (c:=2) kr kr q81 kr kr gE kr) <| hwk 0 (wk_trans (wk_dead 8 gE) (wk_adoptA 9 6 7 (w:=1) (fl:=true) (enc:=eI) (ls:=w2_12) (b:=([w2_5]:(List Int))) [2,3,4,10,11,99,100,101,111,110,116,115,123,122,136,135,141,140,142,143,144,145,146,147,148,150,151,152,153] kr kr kr (and2 (safeAll_hole 3 3 Ah w2_8 w2_9 (.agg [vI w2_10,.ref 4 0 w2_11.length,.ref 9 0 ((w2_12++[([w2_5]:(List Int))]).length)]) (fun a=>rfl) kr kr) kr) rfl)) <| hjn 2 (g_ref05_Bend_Of_j3_ok w2_6 w2_8 w2_9 w2_10 w2_11 (w2_12++[([w2_5]:(List Int))])) (wk_gcH (live:=[4]) (keep:=[2,3,4,9,6]) 3 Ah w2_8 w2_9 (.agg [vI w2_10,.ref 4 0 w2_11.length,.ref 9 0 ((w2_12++[([w2_5]:(List Int))]).length)]) 3 (fun f a=>by cases a <;> rfl) kr kr)
 refine hbr 3 [155,154] (?_) ?_
 ·refine hbr 3 [157] (?_) ?_
  ·refine hwk 1 (Qoe 5 6 (w:=1) (fl:=true) (enc:=eI) (ls:=w2_12)) <| hbd fun a86 q87=>hop 4 (fun _=>Xo (enc:=Ah) (L:=w2_8) (n:=w2_9) (a:=a86) (A:=.agg [vI w2_10,.ref 4 0 w2_11.length,.ref 5 0 w2_12.length]) (ob:=3) (w:=3) (c:=2) (ro:=false) (nr:=false) (fl:=false) kr kr q87 gE) <| hoq 1 (fun _ _ h k=>Qja (enc:=z1) (l:=w2_12) (ob:=5) (ro:=false) (nr:=true) (fl:=false) (lo:=none) (hi:=(some (vI w2_1))) (a:=0) (b:=w2_1) (w:=1) kr kr kr kr gE h k) fun q88=>hop 2 (fun _=>Qd3 (enc:=Ah) (L:=w2_8) (n:=w2_9) (a:=a86) (A:=.agg [vI w2_10,.ref 4 0 w2_11.length,.ref 5 0 w2_12.length]) (ob:=3) (w:=3) (A':=.agg [vI w2_10,.ref 4 0 w2_11.length,.ref 5 0 (zt w2_1 - zt (0:Int))]) (v:=.ref 5 0 (zt w2_1 - zt (0:Int))) (c:=2) kr kr q87 kr kr gE kr) <| hwk 2 (wcl 3 [F eI w2_11,Fp z1 w2_12 (a:=0) (b:=w2_1) q88] (enc:=Ah) (L:=w2_8) (n:=w2_9) (A:=.agg [vI w2_10,.ref 4 0 w2_11.length,.ref 5 0 (zt w2_1 - zt (0:Int))]) (bx:=false) (ro:=false) (nr:=false) (fl:=false) (w:=3) q87) <| hkn 0 (fun z89=>⟨(s60_92 w2_9 w2_1 w2_2)++[(155,vB true),(154,vB true),(156,vI w2_1),(157,vB true),(158,.ptr 3 (zt w2_9) 0),(159,.ptr 3 (zt w2_9) 0),(160,.ptr 3 (zt w2_9) 0),(161,.ptr 3 (zt w2_9) 2),(162,.ref 5 0 w2_12.length),(163,vI w2_1),(164,.ref 5 0 (zt w2_1 - zt (0:Int))),(165,.ptr 3 (zt w2_9) 0),(166,.ptr 3 (zt w2_9) 2),(322,.agg [vI w2_6,.ref 3 0 w2_8.length])],[(o60_87 w2_2 w2_3 w2_4 w2_5),(o60_88 w2_6 w2_8),(o60_88 w2_6 w2_8),.row false false false false 3 z89,(o60_89 w2_11),.row false true true false 1 (List.map z1 w2_12),.dead],323⟩) (show ((hole Ah w2_8 w2_9 (.agg [vI w2_10,.ref 4 0 w2_11.length,.ref 5 0 (zt w2_1 - zt (0:Int))])).set (zt w2_9) (.agg [vI w2_10,z1 w2_11,z2 (sub w2_12 0 w2_1)]))=List.map Ah (List.set w2_8 (zt w2_9) (Ad.mk w2_10 w2_11 (sub w2_12 0 w2_1))) from Qcy (enc:=Ah) (L:=w2_8) (n:=w2_9) (A:=.agg [vI w2_10,.ref 4 0 w2_11.length,.ref 5 0 (zt w2_1 - zt (0:Int))]) (b:=(Ad.mk w2_10 w2_11 (sub w2_12 0 w2_1)))) <| hwk 0 (wk_rowT 3 (enc:=Ah) (L:=(List.set w2_8 (zt w2_9) (Ad.mk w2_10 w2_11 (sub w2_12 0 w2_1)))) (bx:=false) (ro:=false) (nr:=false) (fl:=false) (w:=3) (fun a=>by cases a <;> rfl) kr rfl) <| hkn 0 (fun n90=>⟨(s60_92 w2_9 w2_1 w2_2)++[(155,vB true),(154,vB true),(156,vI w2_1),(157,vB true),(158,.ptr 3 (zt w2_9) 0),(159,.ptr 3 (zt w2_9) 0),(160,.ptr 3 (zt w2_9) 0),(161,.ptr 3 (zt w2_9) 2),(162,.ref 5 0 w2_12.length),(163,vI w2_1),(164,.ref 5 0 (zt w2_1 - zt (0:Int))),(165,.ptr 3 (zt w2_9) 0),(166,.ptr 3 (zt w2_9) 2),(322,.agg [vI w2_6,.ref 3 0 n90])],[(o60_87 w2_2 w2_3 w2_4 w2_5),oX false false 2 (.agg [vI w2_6,.ref 3 0 n90]),oX false false 2 (.agg [vI w2_6,.ref 3 0 n90]),oR false 3 Ah (List.set w2_8 (zt w2_9) (Ad.mk w2_10 w2_11 (sub w2_12 0 w2_1))),(o60_89 w2_11),.row false true true false 1 (List.map z1 w2_12),.dead],323⟩) (ls w2_8 (zt w2_9) (Ad.mk w2_10 w2_11 (sub w2_12 0 w2_1))) <| ?_
   refine hjn 0 (Qiw w2_6 (List.set w2_8 (zt w2_9) (Ad.mk w2_10 w2_11 (sub w2_12 0 w2_1)))) (wz [2,3])
  refine hjn 3 (g_ref05_Bend_Of_j3_ok w2_6 w2_8 w2_9 w2_10 w2_11 w2_12) (wk_gcH (live:=[4]) (keep:=[2,3,4,5,6]) 3 Ah w2_8 w2_9 (.agg [vI w2_10,.ref 4 0 w2_11.length,.ref 5 0 w2_12.length]) 3 (fun f a=>by cases a <;> rfl) kr kr)
 refine hbr 3 [168,167] (?_) ?_
 ·refine hbr 4 [170,171] (?_) ?_
  ·refine hbd fun a95 q96=>hop 3 (fun _=>Xo (enc:=Ah) (L:=w2_8) (n:=w2_9) (a:=a95) (A:=.agg [vI w2_10,.ref 4 0 w2_11.length,.ref 5 0 w2_12.length]) (ob:=3) (w:=3) (c:=2) (ro:=false) (nr:=false) (fl:=false) kr kr q96 gE) <| hbd fun a97 q98=>hop 1 (fun _=>Qg9 (enc:=eI) (ls:=w2_12) (x:=a97) (n:=w2_1) (ob:=5) (j:=6) kr kr q98 gE) <| hop 0 (fun _=>Qeo (enc:=eI) (ls:=w2_12) (x:=a97) (n:=w2_1) (ob:=5) (j:=6) kr kr q98 gE) <| hbr 3 [180,181] (?_) ?_
   ·refine hop 5 (fun _=>Xo (enc:=Ah) (L:=w2_8) (n:=w2_9) (a:=a95) (A:=.agg [vI w2_10,.ref 4 0 w2_11.length,.ref 5 0 w2_12.length]) (ob:=3) (w:=3) (c:=2) (ro:=false) (nr:=false) (fl:=false) kr kr q96 gE) <| hop 1 (fun _=>Qg9 (enc:=eI) (ls:=w2_12) (x:=a97) (n:=w2_1) (ob:=5) (j:=6) kr kr q98 gE) <| hop 0 (fun _=>Qeo (enc:=eI) (ls:=w2_12) (x:=a97) (n:=w2_1) (ob:=5) (j:=6) kr kr q98 gE) <| hbd fun a101 q102=>hop 2 (fun _=>Qqd (enc:=eI) (ls:=w2_12) (x:=a97) (y:=a101) (n:=w2_1) (c:=0) (w:=1) (j:=6) (fl:=true) kr kr q98 q102 kr gE) <| hop 0 (fun _=>Qo0 (enc:=eI) (ls:=w2_12) (x:=a97) (y:=a101) (y':=w2_5) (n:=w2_1) (m:=0) (w:=1) (j:=6) (q:=5) (c:=0) (fl:=true) (v:=vI w2_5) kr kr kr q98 q102 kr kr kr kr gE) <| hkn 0 (fun n103=>⟨(s60_92 w2_9 w2_1 w2_2)++[(155,vB false),(154,vB false),(168,vB true),(167,vB true),(169,vI w2_1),(170,vB true),(171,vB true),(172,.ptr 3 (zt w2_9) 0),(173,.ptr 3 (zt w2_9) 0),(174,.ptr 3 (zt w2_9) 2),(175,.ref 5 0 n103),(176,vI w2_1),(177,.ptr 5 (zt w2_1) 0),(178,.ref (fid 6 (zt w2_1)) 0 a97.length),(179,vI (zn a97)),(180,vB true),(181,vB true),(182,.ptr 3 (zt w2_9) 0),(183,.ptr 3 (zt w2_9) 0),(184,.ptr 3 (zt w2_9) 2),(185,.ref 5 0 n103),(186,vI w2_1),(187,.ptr 5 (zt w2_1) 0),(188,.ref (fid 6 (zt w2_1)) 0 a97.length),(189,.ptr 0 0 3),(190,vI w2_5),(191,.ptr (fid 6 (zt w2_1)) (zt 0) 0)],[(o60_87 w2_2 w2_3 w2_4 w2_5),(o60_88 w2_6 w2_8),(o60_90 w2_7),.row false false false false 3 (hole Ah w2_8 w2_9 (.agg [vI w2_10,.ref 4 0 w2_11.length,.ref 5 0 n103])),oR true 1 eI w2_11,.refs 6 (eF eI (List.set w2_12 (zt w2_1) (List.set a97 (zt 0) w2_5))),.fam 1 true (eF eI (List.set w2_12 (zt w2_1) (List.set a97 (zt 0) w2_5)))],323⟩) (ls w2_12 (zt w2_1) (List.set a97 (zt 0) w2_5)) <| hjn 2 (g_ref05_Bend_Of_j3_ok w2_6 w2_8 w2_9 w2_10 w2_11 (List.set w2_12 (zt w2_1) (List.set a97 (zt 0) w2_5))) (wk_gcH (live:=[4]) (keep:=[2,3,4,5,6]) 3 Ah w2_8 w2_9 (.agg [vI w2_10,.ref 4 0 w2_11.length,.ref 5 0 ((List.set w2_12 (zt w2_1) (List.set a97 (zt 0) w2_5)).length)]) 3 (fun f a=>by cases a <;> rfl) kr kr)
   refine hjn 3 (g_ref05_Bend_Of_j3_ok w2_6 w2_8 w2_9 w2_10 w2_11 w2_12) (wk_gcH (live:=[4]) (keep:=[2,3,4,5,6]) 3 Ah w2_8 w2_9 (.agg [vI w2_10,.ref 4 0 w2_11.length,.ref 5 0 w2_12.length]) 3 (fun f a=>by cases a <;> rfl) kr kr)
  refine hjn 13 (g_ref05_Bend_Of_j3_ok w2_6 w2_8 w2_9 w2_10 w2_11 w2_12) (wk_gcH (live:=[4]) (keep:=[2,3,4,5,6]) 3 Ah w2_8 w2_9 (.agg [vI w2_10,.ref 4 0 w2_11.length,.ref 5 0 w2_12.length]) 3 (fun f a=>by cases a <;> rfl) kr kr)
 refine hbr 3 [193,192] (?_) ?_
 ·refine hbr 3 [195] (?_) ?_
  ·refine hbd fun a108 q109=>hwk 1 (Q18 5 6 (w:=1) (fl:=true) (enc:=eI) (ls:=w2_12) (x:=a108) (n:=w2_1) [2,3,4,10,11,99,100,101,111,110,116,115,123,122,136,135,141,140,155,154,168,167,193,192,194,195] kr kr q109 (Q74 (safeAll_hole 3 3 Ah w2_8 w2_9 (.agg [vI w2_10,.ref 4 0 w2_11.length,.ref 5 0 w2_12.length]) (fun a=>rfl) kr kr) kr) rfl) <| hkn 0 (fun n110=>⟨(s60_92 w2_9 w2_1 w2_2)++[(155,vB false),(154,vB false),(168,vB false),(167,vB false),(193,vB true),(192,vB true),(194,vI w2_1),(195,vB true)],[(o60_87 w2_2 w2_3 w2_4 w2_5),(o60_88 w2_6 w2_8),(o60_90 w2_7),.row false false false false 3 (hole Ah w2_8 w2_9 (.agg [vI w2_10,.ref 4 0 w2_11.length,.ref 5 0 n110])),oR true 1 eI w2_11,.row false false false false 1 ((Qy 6 0 (eF eI (List.set w2_12 (zt w2_1) ([]:List Int)))).set (zt w2_1) (.ref 7 0 a108.length)),.fam 1 true (eF eI (List.set w2_12 (zt w2_1) ([]:List Int))),oR true 1 eI a108],323⟩) (ls w2_12 (zt w2_1) ([]:List Int)) <| hbd fun a111 q112=>hop 4 (fun _=>Xo (enc:=Ah) (L:=w2_8) (n:=w2_9) (a:=a111) (A:=.agg [vI w2_10,.ref 4 0 w2_11.length,.ref 5 0 ((List.set w2_12 (zt w2_1) ([]:List Int)).length)]) (ob:=3) (w:=3) (c:=2) (ro:=false) (nr:=false) (fl:=false) kr kr q112 gE) <| hop 4 (fun _=>Xo (enc:=Ah) (L:=w2_8) (n:=w2_9) (a:=a111) (A:=.agg [vI w2_10,.ref 4 0 w2_11.length,.ref 5 0 ((List.set w2_12 (zt w2_1) ([]:List Int)).length)]) (ob:=3) (w:=3) (c:=2) (ro:=false) (nr:=false) (fl:=false) kr kr q112 gE) <| hop 1 (fun _=>Q5o (enc:=eI) (ls:=(List.set w2_12 (zt w2_1) ([]:List Int))) (x:=([]:List Int)) (n:=w2_1) (ob:=5) (j:=6) (m:=7) (q:=a108.length) kr kr (lkI_set ([]:List Int) q109) gE) <| hop 0 (fun _=>Q7i (enc:=eI) (ls:=(List.set w2_12 (zt w2_1) ([]:List Int))) (x:=([]:List Int)) (n:=w2_1) (ob:=5) (j:=6) (m:=7) (q:=a108.length) kr kr (lkI_set ([]:List Int) q109) gE) <| hop 0 (fun _=>sgL false [] [] true gE) <| ?_
   refine hoh 0 (fun _ _ h k=>Kp (enc:=eI) (l:=a108) (m:=([0]:(List Int))) (w:=1) (bytes:=8) (ob:=7) (nr:=true) (fl:=true) (nr':=true) (fl':=true) (b:=.ref 8 0 1) (rds:=[8]) false kr kr kr kr gE kr h k) <| hop 0 (fun _=>Q5o (enc:=eI) (ls:=(List.set w2_12 (zt w2_1) ([]:List Int))) (x:=([]:List Int)) (n:=w2_1) (ob:=5) (j:=6) (m:=7) (q:=a108.length) kr kr (lkI_set ([]:List Int) q109) gE) <| hop 0 (fun _=>Q4o (enc:=eI) (ls:=(List.set w2_12 (zt w2_1) ([]:List Int))) (x:=([]:List Int)) (n:=w2_1) (ob:=5) (j:=6) (m0:=7) (q0:=a108.length) (m:=9) (q:=(a108++([0]:(List Int))).length) kr kr (lkI_set ([]:List Int) q109) kr gE kr) <| hwk 0 (wk_trans (wk_adopt 5 6 9 (w:=1) (fl:=true) (enc:=eI) (ls:=(List.set w2_12 (zt w2_1) ([]:List Int))) (x:=([]:List Int)) (b:=(a108++([0]:(List Int)))) (n:=w2_1) [2,3,4,10,11,99,100,101,111,110,116,115,123,122,136,135,141,140,155,154,168,167,193,192,194,195,196,197,198,199,200,201,202,203,204,205,206,207,208,210] kr kr kr (lkI_set ([]:List Int) q109) (and2 (safeAll_hole 3 3 Ah w2_8 w2_9 (.agg [vI w2_10,.ref 4 0 w2_11.length,.ref 5 0 ((List.set w2_12 (zt w2_1) ([]:List Int)).length)]) (fun a=>rfl) kr kr) kr) rfl) (wkv (fun n113=>⟨(s60_92 w2_9 w2_1 w2_2)++[(155,vB false),(154,vB false),(168,vB false),(167,vB false),(193,vB true),(192,vB true),(194,vI w2_1),(195,vB true),(196,.ptr 3 (zt w2_9) 0),(197,.ptr 3 (zt w2_9) 0),(198,.ptr 3 (zt w2_9) 2),(199,.ref 5 0 n113),(200,vI w2_1),(201,.ptr 3 (zt w2_9) 0),(202,.ptr 3 (zt w2_9) 0),(203,.ptr 3 (zt w2_9) 2),(204,.ref 5 0 n113),(205,vI w2_1),(206,.ptr 5 (zt w2_1) 0),(207,.ref 7 0 a108.length),(208,.ref 8 0 1),(210,.ptr 5 (zt w2_1) 0)],[(o60_87 w2_2 w2_3 w2_4 w2_5),(o60_88 w2_6 w2_8),(o60_90 w2_7),.row false false false false 3 (hole Ah w2_8 w2_9 (.agg [vI w2_10,.ref 4 0 w2_11.length,.ref 5 0 n113])),oR true 1 eI w2_11,.refs 6 (eF eI (List.set (List.set w2_12 (zt w2_1) ([]:List Int)) (zt w2_1) (a108++([0]:(List Int))))),.fam 1 true (eF eI (List.set (List.set w2_12 (zt w2_1) ([]:List Int)) (zt w2_1) (a108++([0]:(List Int))))),.dead,.row false false true true 1 [vI 0],.dead],323⟩) (ls (List.set w2_12 (zt w2_1) ([]:List Int)) (zt w2_1) (a108++([0]:(List Int)))))) <| hjn 2 (g_ref05_Bend_Of_j3_ok w2_6 w2_8 w2_9 w2_10 w2_11 (List.set (List.set w2_12 (zt w2_1) ([]:List Int)) (zt w2_1) (a108++([0]:(List Int))))) (wk_gcH (live:=[4]) (keep:=[2,3,4,5,6]) 3 Ah w2_8 w2_9 (.agg [vI w2_10,.ref 4 0 w2_11.length,.ref 5 0 ((List.set (List.set w2_12 (zt w2_1) ([]:List Int)) (zt w2_1) (a108++([0]:(List Int)))).length)]) 3 (fun f a=>by cases a <;> rfl) kr kr)
  refine hjn 3 (g_ref05_Bend_Of_j3_ok w2_6 w2_8 w2_9 w2_10 w2_11 w2_12) (wk_gcH (live:=[4]) (keep:=[2,3,4,5,6]) 3 Ah w2_8 w2_9 (.agg [vI w2_10,.ref 4 0 w2_11.length,.ref 5 0 w2_12.length]) 3 (fun f a=>by cases a <;> rfl) kr kr)
 refine hbr 3 [212,211] (?_) ?_
 ·refine hbr 4 [214,215] (?_) ?_
  ·refine hbd fun a118 q119=>hop 3 (fun _=>Xo (enc:=Ah) (L:=w2_8) (n:=w2_9) (a:=a118) (A:=.agg [vI w2_10,.ref 4 0 w2_11.length,.ref 5 0 w2_12.length]) (ob:=3) (w:=3) (c:=2) (ro:=false) (nr:=false) (fl:=false) kr kr q119 gE) <| hbd fun a120 q121=>hop 1 (fun _=>Qg9 (enc:=eI) (ls:=w2_12) (x:=a120) (n:=w2_1) (ob:=5) (j:=6) kr kr q121 gE) <| hop 0 (fun _=>Qeo (enc:=eI) (ls:=w2_12) (x:=a120) (n:=w2_1) (ob:=5) (j:=6) kr kr q121 gE) <| hbr 3 [224,225] (?_) ?_
   ·refine hop 5 (fun _=>Xo (enc:=Ah) (L:=w2_8) (n:=w2_9) (a:=a118) (A:=.agg [vI w2_10,.ref 4 0 w2_11.length,.ref 5 0 w2_12.length]) (ob:=3) (w:=3) (c:=2) (ro:=false) (nr:=false) (fl:=false) kr kr q119 gE) <| hop 4 (fun _=>Xo (enc:=Ah) (L:=w2_8) (n:=w2_9) (a:=a118) (A:=.agg [vI w2_10,.ref 4 0 w2_11.length,.ref 5 0 w2_12.length]) (ob:=3) (w:=3) (c:=2) (ro:=false) (nr:=false) (fl:=false) kr kr q119 gE) <| hop 1 (fun _=>Qg9 (enc:=eI) (ls:=w2_12) (x:=a120) (n:=w2_1) (ob:=5) (j:=6) kr kr q121 gE) <| hop 0 (fun _=>Qeo (enc:=eI) (ls:=w2_12) (x:=a120) (n:=w2_1) (ob:=5) (j:=6) kr kr q121 gE) <| hoh 1 (fun _ _ h k=>mkL (enc:=eI) (z:=(0:Int)) (z0:=vI 0) (n:=(zn a120)) (m:=(zn a120)) (w:=1) (bytes:=8) [] true kr kr gE kr h k) <| hop 0 (fun _=>Qg9 (enc:=eI) (ls:=w2_12) (x:=a120) (n:=w2_1) (ob:=5) (j:=6) kr kr q121 gE) <| hop 0 (fun _=>Q56 (enc:=eI) (ls:=w2_12) (x:=a120) (n:=w2_1) (ob:=5) (j:=6) (m:=7) (q:=(List.replicate (zt (zn a120)) (0:Int)).length) kr kr q121 kr gE kr) <| hwk 0 (wk_trans (wk_adopt 5 6 7 (w:=1) (fl:=true) (enc:=eI) (ls:=w2_12) (x:=a120) (b:=(List.replicate (zt (zn a120)) (0:Int))) (n:=w2_1) [2,3,4,10,11,99,100,101,111,110,116,115,123,122,136,135,141,140,155,154,168,167,193,192,212,211,213,214,215,216,217,218,219,220,221,223,224,225,226,227,228,229,230,231,232,233,234,235,236,238,240] kr kr kr q121 (and2 (safeAll_hole 3 3 Ah w2_8 w2_9 (.agg [vI w2_10,.ref 4 0 w2_11.length,.ref 5 0 w2_12.length]) (fun a=>rfl) kr kr) kr) rfl) (wkv (fun n124=>⟨(s60_92 w2_9 w2_1 w2_2)++[(155,vB false),(154,vB false),(168,vB false),(167,vB false),(193,vB false),(192,vB false),(212,vB true),(211,vB true),(213,vI w2_1),(214,vB true),(215,vB true),(216,.ptr 3 (zt w2_9) 0),(217,.ptr 3 (zt w2_9) 0),(218,.ptr 3 (zt w2_9) 2),(219,.ref 5 0 n124),(220,vI w2_1),(221,.ptr 5 (zt w2_1) 0),(223,vI (zn a120)),(224,vB true),(225,vB true),(226,.ptr 3 (zt w2_9) 0),(227,.ptr 3 (zt w2_9) 0),(228,.ptr 3 (zt w2_9) 2),(229,.ref 5 0 n124),(230,vI w2_1),(231,.ptr 3 (zt w2_9) 0),(232,.ptr 3 (zt w2_9) 0),(233,.ptr 3 (zt w2_9) 2),(234,.ref 5 0 n124),(235,vI w2_1),(236,.ptr 5 (zt w2_1) 0),(238,vI (zn a120)),(240,.ptr 5 (zt w2_1) 0)],[(o60_87 w2_2 w2_3 w2_4 w2_5),(o60_88 w2_6 w2_8),(o60_90 w2_7),.row false false false false 3 (hole Ah w2_8 w2_9 (.agg [vI w2_10,.ref 4 0 w2_11.length,.ref 5 0 n124])),oR true 1 eI w2_11,.refs 6 (eF eI (List.set w2_12 (zt w2_1) (List.replicate (zt (zn a120)) (0:Int)))),.fam 1 true (eF eI (List.set w2_12 (zt w2_1) (List.replicate (zt (zn a120)) (0:Int)))),.dead],323⟩) (ls w2_12 (zt w2_1) (List.replicate (zt (zn a120)) (0:Int))))) <| hop 4 (fun _=>Xo (enc:=Ah) (L:=w2_8) (n:=w2_9) (a:=a118) (A:=.agg [vI w2_10,.ref 4 0 w2_11.length,.ref 5 0 ((List.set w2_12 (zt w2_1) (List.replicate (zt (zn a120)) (0:Int))).length)]) (ob:=3) (w:=3) (c:=2) (ro:=false) (nr:=false) (fl:=false) kr kr q119 gE) <| ?_
    refine hop 1 (fun _=>Qg9 (enc:=eI) (ls:=(List.set w2_12 (zt w2_1) (List.replicate (zt (zn a120)) (0:Int)))) (x:=(List.replicate (zt (zn a120)) (0:Int))) (n:=w2_1) (ob:=5) (j:=6) kr kr (lkI_set (List.replicate (zt (zn a120)) (0:Int)) q121) gE) <| hop 0 (fun _=>Qeo (enc:=eI) (ls:=(List.set w2_12 (zt w2_1) (List.replicate (zt (zn a120)) (0:Int)))) (x:=(List.replicate (zt (zn a120)) (0:Int))) (n:=w2_1) (ob:=5) (j:=6) kr kr (lkI_set (List.replicate (zt (zn a120)) (0:Int)) q121) gE) <| hbd fun a125 q126=>hop 2 (fun _=>Qqd (enc:=eI) (ls:=(List.set w2_12 (zt w2_1) (List.replicate (zt (zn a120)) (0:Int)))) (x:=(List.replicate (zt (zn a120)) (0:Int))) (y:=a125) (n:=w2_1) (c:=0) (w:=1) (j:=6) (fl:=true) kr kr (lkI_set (List.replicate (zt (zn a120)) (0:Int)) q121) q126 kr gE) <| hop 0 (fun _=>Qo0 (enc:=eI) (ls:=(List.set w2_12 (zt w2_1) (List.replicate (zt (zn a120)) (0:Int)))) (x:=(List.replicate (zt (zn a120)) (0:Int))) (y:=a125) (y':=w2_6) (n:=w2_1) (m:=0) (w:=1) (j:=6) (q:=5) (c:=0) (fl:=true) (v:=vI w2_6) kr kr kr (lkI_set (List.replicate (zt (zn a120)) (0:Int)) q121) q126 kr kr kr kr gE) <| hkn 0 (fun n127=>⟨(s60_92 w2_9 w2_1 w2_2)++[(155,vB false),(154,vB false),(168,vB false),(167,vB false),(193,vB false),(192,vB false),(212,vB true),(211,vB true),(213,vI w2_1),(214,vB true),(215,vB true),(216,.ptr 3 (zt w2_9) 0),(217,.ptr 3 (zt w2_9) 0),(218,.ptr 3 (zt w2_9) 2),(219,.ref 5 0 n127),(220,vI w2_1),(221,.ptr 5 (zt w2_1) 0),(223,vI (zn a120)),(224,vB true),(225,vB true),(226,.ptr 3 (zt w2_9) 0),(227,.ptr 3 (zt w2_9) 0),(228,.ptr 3 (zt w2_9) 2),(229,.ref 5 0 n127),(230,vI w2_1),(231,.ptr 3 (zt w2_9) 0),(232,.ptr 3 (zt w2_9) 0),(233,.ptr 3 (zt w2_9) 2),(234,.ref 5 0 n127),(235,vI w2_1),(236,.ptr 5 (zt w2_1) 0),(238,vI (zn a120)),(240,.ptr 5 (zt w2_1) 0),(241,.ptr 3 (zt w2_9) 0),(242,.ptr 3 (zt w2_9) 0),(243,.ptr 3 (zt w2_9) 2),(244,.ref 5 0 n127),(245,vI w2_1),(246,.ptr 5 (zt w2_1) 0),(247,.ref (fid 6 (zt w2_1)) 0 ((List.replicate (zt (zn a120)) (0:Int)).length)),(248,.ptr 1 0 0),(249,vI w2_6),(250,.ptr (fid 6 (zt w2_1)) (zt 0) 0)],[(o60_87 w2_2 w2_3 w2_4 w2_5),(o60_88 w2_6 w2_8),(o60_90 w2_7),.row false false false false 3 (hole Ah w2_8 w2_9 (.agg [vI w2_10,.ref 4 0 w2_11.length,.ref 5 0 n127])),oR true 1 eI w2_11,.refs 6 (eF eI (List.set (List.set w2_12 (zt w2_1) (List.replicate (zt (zn a120)) (0:Int))) (zt w2_1) (List.set (List.replicate (zt (zn a120)) (0:Int)) (zt 0) w2_6))),.fam 1 true (eF eI (List.set (List.set w2_12 (zt w2_1) (List.replicate (zt (zn a120)) (0:Int))) (zt w2_1) (List.set (List.replicate (zt (zn a120)) (0:Int)) (zt 0) w2_6))),.dead],323⟩) (ls (List.set w2_12 (zt w2_1) (List.replicate (zt (zn a120)) (0:Int))) (zt w2_1) (List.set (List.replicate (zt (zn a120)) (0:Int)) (zt 0) w2_6)) <| hjn 2 (g_ref05_Bend_Of_j3_ok w2_6 w2_8 w2_9 w2_10 w2_11 (List.set (List.set w2_12 (zt w2_1) (List.replicate (zt (zn a120)) (0:Int))) (zt w2_1) (List.set (List.replicate (zt (zn a120)) (0:Int)) (zt 0) w2_6))) (wk_gcH (live:=[4]) (keep:=[2,3,4,5,6]) 3 Ah w2_8 w2_9 (.agg [vI w2_10,.ref 4 0 w2_11.length,.ref 5 0 ((List.set (List.set w2_12 (zt w2_1) (List.replicate (zt (zn a120)) (0:Int))) (zt w2_1) (List.set (List.replicate (zt (zn a120)) (0:Int)) (zt 0) w2_6)).length)]) 3 (fun f a=>by cases a <;> rfl) kr kr)
   refine hjn 3 (g_ref05_Bend_Of_j3_ok w2_6 w2_8 w2_9 w2_10 w2_11 w2_12) (wk_gcH (live:=[4]) (keep:=[2,3,4,5,6]) 3 Ah w2_8 w2_9 (.agg [vI w2_10,.ref 4 0 w2_11.length,.ref 5 0 w2_12.length]) 3 (fun f a=>by cases a <;> rfl) kr kr)
  refine hjn 13 (g_ref05_Bend_Of_j3_ok w2_6 w2_8 w2_9 w2_10 w2_11 w2_12) (wk_gcH (live:=[4]) (keep:=[2,3,4,5,6]) 3 Ah w2_8 w2_9 (.agg [vI w2_10,.ref 4 0 w2_11.length,.ref 5 0 w2_12.length]) 3 (fun f a=>by cases a <;> rfl) kr kr)
 refine hbr 3 [252,251] (?_) ?_
 ·refine hbr 3 [254] (?_) ?_
  ·refine hbd fun a132 q133=>hop 5 (fun _=>Xo (enc:=Ah) (L:=w2_8) (n:=w2_9) (a:=a132) (A:=.agg [vI w2_10,.ref 4 0 w2_11.length,.ref 5 0 w2_12.length]) (ob:=3) (w:=3) (c:=2) (ro:=false) (nr:=false) (fl:=false) kr kr q133 gE) <| hbd fun a134 q135=>hop 1 (fun _=>Qg9 (enc:=eI) (ls:=w2_12) (x:=a134) (n:=w2_1) (ob:=5) (j:=6) kr kr q135 gE) <| hop 0 (fun _=>Qeo (enc:=eI) (ls:=w2_12) (x:=a134) (n:=w2_1) (ob:=5) (j:=6) kr kr q135 gE) <| hlp 4 (fun s136=>⟨[(3,.ptr 0 0 0),(4,.ptr 1 0 0),(10,.ptr 2 (zt w2_9) 0),(11,vI w2_1),(12,vI s136.1),(13,vI s136.2.1)],[oX false false 2 (.agg [vI w2_6,.ref 2 0 w2_8.length]),(o60_90 w2_7),.row false false false false 3 (hole Ah w2_8 w2_9 (.agg [vI w2_10,.ref 3 0 w2_11.length,.ref 4 0 s136.2.2.length])),oR true 1 eI w2_11,.refs 5 (eF eI s136.2.2),.fam 1 true (eF eI s136.2.2)],323⟩) (fun v=>(.exit 5,⟨[(3,.ptr 0 0 0),(4,.ptr 1 0 0)],[oX false false 2 (.agg [vI w2_6,.ref 2 0 w2_8.length]),(o60_90 w2_7),.row false false false false 3 (hole Ah w2_8 w2_9 (.agg [vI w2_10,.ref 3 0 w2_11.length,.ref 4 0 v.length])),oR true 1 eI w2_11,.refs 5 (eF eI v),.fam 1 true (eF eI v)],323⟩)) (wk_gcH (live:=[3,4,10,11,12,13]) (keep:=[1,2,3,4,5,6]) 3 Ah w2_8 w2_9 (.agg [vI w2_10,.ref 4 0 w2_11.length,.ref 5 0 w2_12.length]) 3 (fun f a=>by cases a <;> rfl) kr kr) (fun s136=>?_) fun x150=>?_
   ·refine hbr 3 [266] (?_) ?_
    ·refine hop 4 (fun _=>Xo (enc:=Ah) (L:=w2_8) (n:=w2_9) (a:=a132) (A:=.agg [vI w2_10,.ref 3 0 w2_11.length,.ref 4 0 s136.2.2.length]) (ob:=2) (w:=3) (c:=2) (ro:=false) (nr:=false) (fl:=false) kr kr q133 gE) <| hbd fun a139 q140=>hop 1 (fun _=>Qg9 (enc:=eI) (ls:=s136.2.2) (x:=a139) (n:=w2_1) (ob:=4) (j:=5) kr kr q140 gE) <| hop 0 (fun _=>Qeo (enc:=eI) (ls:=s136.2.2) (x:=a139) (n:=w2_1) (ob:=4) (j:=5) kr kr q140 gE) <| hbd fun a141 q142=>hop 1 (fun _=>Qqd (enc:=eI) (ls:=s136.2.2) (x:=a139) (y:=a141) (n:=w2_1) (c:=s136.1) (w:=1) (j:=5) (fl:=true) kr kr q140 q142 kr gE) <| hop 0 (fun _=>Q20 (enc:=eI) (ls:=s136.2.2) (x:=a139) (y:=a141) (n:=w2_1) (m:=s136.1) (w:=1) (j:=5) (c:=0) (fl:=true) kr kr q140 q142 kr gE) <| hop 5 (fun _=>Xo (enc:=Ah) (L:=w2_8) (n:=w2_9) (a:=a132) (A:=.agg [vI w2_10,.ref 3 0 w2_11.length,.ref 4 0 s136.2.2.length]) (ob:=2) (w:=3) (c:=2) (ro:=false) (nr:=false) (fl:=false) kr kr q133 gE) <| hop 1 (fun _=>Qg9 (enc:=eI) (ls:=s136.2.2) (x:=a139) (n:=w2_1) (ob:=4) (j:=5) kr kr q140 gE) <| ?_
     refine hop 0 (fun _=>Qeo (enc:=eI) (ls:=s136.2.2) (x:=a139) (n:=w2_1) (ob:=4) (j:=5) kr kr q140 gE) <| hop 4 (fun _=>Xo (enc:=Ah) (L:=w2_8) (n:=w2_9) (a:=a132) (A:=.agg [vI w2_10,.ref 3 0 w2_11.length,.ref 4 0 s136.2.2.length]) (ob:=2) (w:=3) (c:=2) (ro:=false) (nr:=false) (fl:=false) kr kr q133 gE) <| hop 1 (fun _=>Qg9 (enc:=eI) (ls:=s136.2.2) (x:=a139) (n:=w2_1) (ob:=4) (j:=5) kr kr q140 gE) <| hop 0 (fun _=>Qeo (enc:=eI) (ls:=s136.2.2) (x:=a139) (n:=w2_1) (ob:=4) (j:=5) kr kr q140 gE) <| hbd fun a143 q144=>hop 1 (fun _=>Qqd (enc:=eI) (ls:=s136.2.2) (x:=a139) (y:=a143) (n:=w2_1) (c:=s136.2.1) (w:=1) (j:=5) (fl:=true) kr kr q140 q144 kr gE) <| hop 0 (fun _=>Q20 (enc:=eI) (ls:=s136.2.2) (x:=a139) (y:=a143) (n:=w2_1) (m:=s136.2.1) (w:=1) (j:=5) (c:=0) (fl:=true) kr kr q140 q144 kr gE) <| hop 0 (fun _=>Qqd (enc:=eI) (ls:=s136.2.2) (x:=a139) (y:=a141) (n:=w2_1) (c:=s136.1) (w:=1) (j:=5) (fl:=true) kr kr q140 q142 kr gE) <| hop 0 (fun _=>Qo0 (enc:=eI) (ls:=s136.2.2) (x:=a139) (y:=a141) (y':=a143) (n:=w2_1) (m:=s136.1) (w:=1) (j:=5) (q:=4) (c:=0) (fl:=true) (v:=vI a143) kr kr kr q140 q142 kr kr kr kr gE) <| ?_
     refine hkn 0 (fun n148=>⟨(s60_93 (12,vI s136.1) (13,vI s136.2.1) (264,vI s136.1) (265,vI s136.2.1) (272,.ref 4 0 n148) (275,.ref (fid 5 (zt w2_1)) 0 a139.length) (276,vI s136.1) (277,.ptr (fid 5 (zt w2_1)) (zt s136.1) 0) (278,vI a141) (14,vI a141) (282,.ref 4 0 n148) (285,.ref (fid 5 (zt w2_1)) 0 a139.length) (286,vI s136.1) (290,.ref 4 0 n148) (293,.ref (fid 5 (zt w2_1)) 0 a139.length) (294,vI s136.2.1) (295,.ptr (fid 5 (zt w2_1)) (zt s136.2.1) 0) w2_9 w2_1 a143)++[(297,.ptr (fid 5 (zt w2_1)) (zt s136.1) 0)],[oX false false 2 (.agg [vI w2_6,.ref 2 0 w2_8.length]),(o60_90 w2_7),.row false false false false 3 (hole Ah w2_8 w2_9 (.agg [vI w2_10,.ref 3 0 w2_11.length,.ref 4 0 n148])),oR true 1 eI w2_11,.refs 5 (eF eI (List.set s136.2.2 (zt w2_1) (List.set a139 (zt s136.1) a143))),.fam 1 true (eF eI (List.set s136.2.2 (zt w2_1) (List.set a139 (zt s136.1) a143)))],323⟩) (ls s136.2.2 (zt w2_1) (List.set a139 (zt s136.1) a143)) <| hop 3 (fun _=>Xo (enc:=Ah) (L:=w2_8) (n:=w2_9) (a:=a132) (A:=.agg [vI w2_10,.ref 3 0 w2_11.length,.ref 4 0 ((List.set s136.2.2 (zt w2_1) (List.set a139 (zt s136.1) a143)).length)]) (ob:=2) (w:=3) (c:=2) (ro:=false) (nr:=false) (fl:=false) kr kr q133 gE) <| hop 1 (fun _=>Qg9 (enc:=eI) (ls:=(List.set s136.2.2 (zt w2_1) (List.set a139 (zt s136.1) a143))) (x:=(List.set a139 (zt s136.1) a143)) (n:=w2_1) (ob:=4) (j:=5) kr kr (lkI_set (List.set a139 (zt s136.1) a143) q140) gE) <| hop 0 (fun _=>Qeo (enc:=eI) (ls:=(List.set s136.2.2 (zt w2_1) (List.set a139 (zt s136.1) a143))) (x:=(List.set a139 (zt s136.1) a143)) (n:=w2_1) (ob:=4) (j:=5) kr kr (lkI_set (List.set a139 (zt s136.1) a143) q140) gE) <| hbd fun a145 q146=>hop 2 (fun _=>Qqd (enc:=eI) (ls:=(List.set s136.2.2 (zt w2_1) (List.set a139 (zt s136.1) a143))) (x:=(List.set a139 (zt s136.1) a143)) (y:=a145) (n:=w2_1) (c:=s136.2.1) (w:=1) (j:=5) (fl:=true) kr kr (lkI_set (List.set a139 (zt s136.1) a143) q140) q146 kr gE) <| hop 0 (fun _=>Qo0 (enc:=eI) (ls:=(List.set s136.2.2 (zt w2_1) (List.set a139 (zt s136.1) a143))) (x:=(List.set a139 (zt s136.1) a143)) (y:=a145) (y':=a141) (n:=w2_1) (m:=s136.2.1) (w:=1) (j:=5) (q:=4) (c:=0) (fl:=true) (v:=vI a141) kr kr kr (lkI_set (List.set a139 (zt s136.1) a143) q140) q146 kr kr kr kr gE) <| hkn 0 (fun n147=>⟨(s60_93 (12,vI s136.1) (13,vI s136.2.1) (264,vI s136.1) (265,vI s136.2.1) (272,.ref 4 0 n147) (275,.ref (fid 5 (zt w2_1)) 0 a139.length) (276,vI s136.1) (277,.ptr (fid 5 (zt w2_1)) (zt s136.1) 0) (278,vI a141) (14,vI a141) (282,.ref 4 0 n147) (285,.ref (fid 5 (zt w2_1)) 0 a139.length) (286,vI s136.1) (290,.ref 4 0 n147) (293,.ref (fid 5 (zt w2_1)) 0 a139.length) (294,vI s136.2.1) (295,.ptr (fid 5 (zt w2_1)) (zt s136.2.1) 0) w2_9 w2_1 a143)++[(297,.ptr (fid 5 (zt w2_1)) (zt s136.1) 0),(298,.ptr 2 (zt w2_9) 0),(299,.ptr 2 (zt w2_9) 0),(300,.ptr 2 (zt w2_9) 2),(301,.ref 4 0 n147),(302,vI w2_1),(303,.ptr 4 (zt w2_1) 0),(304,.ref (fid 5 (zt w2_1)) 0 ((List.set a139 (zt s136.1) a143).length)),(305,vI s136.2.1),(306,vI a141),(307,.ptr (fid 5 (zt w2_1)) (zt s136.2.1) 0)],[oX false false 2 (.agg [vI w2_6,.ref 2 0 w2_8.length]),(o60_90 w2_7),.row false false false false 3 (hole Ah w2_8 w2_9 (.agg [vI w2_10,.ref 3 0 w2_11.length,.ref 4 0 n147])),oR true 1 eI w2_11,.refs 5 (eF eI (List.set (List.set s136.2.2 (zt w2_1) (List.set a139 (zt s136.1) a143)) (zt w2_1) (List.set (List.set a139 (zt s136.1) a143) (zt s136.2.1) a141))),.fam 1 true (eF eI (List.set (List.set s136.2.2 (zt w2_1) (List.set a139 (zt s136.1) a143)) (zt w2_1) (List.set (List.set a139 (zt s136.1) a143) (zt s136.2.1) a141)))],323⟩) (ls (List.set s136.2.2 (zt w2_1) (List.set a139 (zt s136.1) a143)) (zt w2_1) (List.set (List.set a139 (zt s136.1) a143) (zt s136.2.1) a141)) <| hnx 6 (wk_gcH (live:=[3,4,10,11,12,13]) (keep:=[0,1,2,3,4,5]) 2 Ah w2_8 w2_9 (.agg [vI w2_10,.ref 3 0 w2_11.length,.ref 4 0 ((List.set (List.set s136.2.2 (zt w2_1) (List.set a139 (zt s136.1) a143)) (zt w2_1) (List.set (List.set a139 (zt s136.1) a143) (zt s136.2.1) a141)).length)]) 3 (fun f a=>by cases a <;> rfl) kr kr)
    refine hdx 1 (wk_gcH (live:=[3,4]) (keep:=[0,1,2,3,4,5]) 2 Ah w2_8 w2_9 (.agg [vI w2_10,.ref 3 0 w2_11.length,.ref 4 0 s136.2.2.length]) 3 (fun f a=>by cases a <;> rfl) kr kr)
   refine hjn 2 (g_ref05_Bend_Of_j3_ok w2_6 w2_8 w2_9 w2_10 w2_11 x150) (wk_gcH (live:=[4]) (keep:=[1,2,3,4,5]) 2 Ah w2_8 w2_9 (.agg [vI w2_10,.ref 3 0 w2_11.length,.ref 4 0 x150.length]) 3 (fun f a=>by cases a <;> rfl) kr kr)
  refine hjn 3 (g_ref05_Bend_Of_j3_ok w2_6 w2_8 w2_9 w2_10 w2_11 w2_12) (wk_gcH (live:=[4]) (keep:=[2,3,4,5,6]) 3 Ah w2_8 w2_9 (.agg [vI w2_10,.ref 4 0 w2_11.length,.ref 5 0 w2_12.length]) 3 (fun f a=>by cases a <;> rfl) kr kr)
 refine hbr 3 [311,310] (?_) ?_
 ·refine hop 5 (fun _=>sgL false [] [] true gE) <| hop 0 (fun _=>sg true 1 _ gE rfl) <| hbs 1 [.keep,.lst true,.lst false] false [] <| hbd fun a153 q154=>hoh 0 (fun _ _ h k=>Q40 (enc:=Ah) (L:=w2_8) (m:=([(Ad.mk 1 [] [[w2_6]])]:(List Ad))) (n:=w2_9) (a:=a153) (A0:=.agg [vI w2_10,.ref 4 0 w2_11.length,.ref 5 0 w2_12.length]) (b:=.ref 9 0 1) (w:=3) (bytes:=56) (ob:=3) (fl:=false) (nr':=true) (fl':=false) (rds:=[9]) kr kr q154 kr gE kr h k) <| hjn 4 (g_ref05_Bend_Of_j3_ok w2_6 (w2_8++([(Ad.mk 1 [] [[w2_6]])]:(List Ad))) w2_9 w2_10 w2_11 w2_12) (wk_gcH (live:=[4]) (keep:=[2,10,4,5,6]) 10 Ah (w2_8++([(Ad.mk 1 [] [[w2_6]])]:(List Ad))) w2_9 (.agg [vI w2_10,.ref 4 0 w2_11.length,.ref 5 0 w2_12.length]) 3 (fun f a=>by cases a <;> rfl) kr kr)
 refine hbd fun a155 q156=>hwk 1 (Qoe 5 6 (w:=1) (fl:=true) (enc:=eI) (ls:=w2_12)) <| hwk 0 (wcl 3 [F eI w2_11,F z1 w2_12] (enc:=Ah) (L:=w2_8) (n:=w2_9) (A:=.agg [vI w2_10,.ref 4 0 w2_11.length,.ref 5 0 w2_12.length]) (bx:=false) (ro:=false) (nr:=false) (fl:=false) (w:=3) q156) <| hkn 0 (fun z157=>⟨(s60_92 w2_9 w2_1 w2_2)++[(155,vB false),(154,vB false),(168,vB false),(167,vB false),(193,vB false),(192,vB false),(212,vB false),(211,vB false),(252,vB false),(251,vB false),(311,vB false),(310,vB false)],[(o60_87 w2_2 w2_3 w2_4 w2_5),(o60_88 w2_6 w2_8),(o60_90 w2_7),.row false false false false 3 z157,(o60_89 w2_11),.row false true true false 1 (List.map z1 w2_12),.dead],323⟩) (show ((hole Ah w2_8 w2_9 (.agg [vI w2_10,.ref 4 0 w2_11.length,.ref 5 0 w2_12.length])).set (zt w2_9) (.agg [vI w2_10,z1 w2_11,z2 w2_12]))=List.map Ah (List.set w2_8 (zt w2_9) (Ad.mk w2_10 w2_11 w2_12)) from Qcy (enc:=Ah) (L:=w2_8) (n:=w2_9) (A:=.agg [vI w2_10,.ref 4 0 w2_11.length,.ref 5 0 w2_12.length]) (b:=(Ad.mk w2_10 w2_11 w2_12))) <| hwk 0 (wk_rowT 3 (enc:=Ah) (L:=(List.set w2_8 (zt w2_9) (Ad.mk w2_10 w2_11 w2_12))) (bx:=false) (ro:=false) (nr:=false) (fl:=false) (w:=3) (fun a=>by cases a <;> rfl) kr rfl) <| hkn 0 (fun n158=>⟨(s60_92 w2_9 w2_1 w2_2)++[(155,vB false),(154,vB false),(168,vB false),(167,vB false),(193,vB false),(192,vB false),(212,vB false),(211,vB false),(252,vB false),(251,vB false),(311,vB false),(310,vB false)],[(o60_87 w2_2 w2_3 w2_4 w2_5),oX false false 2 (.agg [vI w2_6,.ref 3 0 n158]),(o60_90 w2_7),oR false 3 Ah (List.set w2_8 (zt w2_9) (Ad.mk w2_10 w2_11 w2_12)),(o60_89 w2_11),.row false true true false 1 (List.map z1 w2_12),.dead],323⟩) (ls w2_8 (zt w2_9) (Ad.mk w2_10 w2_11 w2_12)) <| hoq 6 (fun _ _ h k=>Qja (enc:=Ah) (l:=(List.set w2_8 (zt w2_9) (Ad.mk w2_10 w2_11 w2_12))) (ob:=3) (ro:=false) (nr:=true) (fl:=false) (lo:=none) (hi:=(some (vI (zw ((((List.set w2_8 (zt w2_9) (Ad.mk w2_10 w2_11 w2_12)).length):Int) - 1))))) (a:=0) (b:=zw ((((List.set w2_8 (zt w2_9) (Ad.mk w2_10 w2_11 w2_12)).length):Int) - 1)) (w:=3) kr kr kr kr gE h k) fun q159=>hwk 4 (wl [4] [2,3]) <| hwk 0 (won 0 0 [Fp Ah (List.set w2_8 (zt w2_9) (Ad.mk w2_10 w2_11 w2_12)) (a:=0) (b:=zw ((((List.set w2_8 (zt w2_9) (Ad.mk w2_10 w2_11 w2_12)).length):Int) - 1)) q159]) <| ?_
 refine hrt 1
noncomputable abbrev Qba (p0:Q9):AObj:=oX true true 4 (.agg [.int .u8 p0.What,.int .u8 p0.At,.int .u8 p0.Row,vI p0.N])
noncomputable abbrev Qb6 (p1:Qc):AObj:=oX true false 2 (.agg [vI p1.Grain,eL false Ah p1.Nodes])
noncomputable abbrev Qbp:AObj:=oX true false 2 (.agg [vI 0,.nils])
noncomputable abbrev Qbi:List (Nat×AV):=[(2,.ptr 0 0 0),(3,.ptr 1 0 0),(4,.ptr 2 0 0)]
theorem Qmp (p0:Q9) (p1:Qc):Ct Tryd.prog 23 [.agg [.int .u8 p0.What,.int .u8 p0.At,.int .u8 p0.Row,vI p0.N],.agg [vI p1.Grain,eL false Ah p1.Nodes]] (V9 p0 p1) (fun x=>.agg [vI x.Grain,eL false Ah x.Nodes]) (fun x=>[]):=by
 refine hfn [[.keep,.lst false]] Tryd.func23 <| hop 1 (fun _=>sgL false [] [] false gE) <| hop 0 (fun _=>sgL false [] [] false gE) <| hst 2 (fun s1=>⟨Qbi++[(5,.ref 3 0 s1.2.length),(6,vI s1.1)],[(Qba p0),(Qb6 p1),Qbp,oR false 3 Ah s1.2],323⟩) (fun v=>(.exit 0,⟨Qbi++[(5,.ref 3 0 v.length)],[(Qba p0),(Qb6 p1),Qbp,oR false 3 Ah v],323⟩)) (wk_trans (wk_gc (live:=[2,3,4,5,6]) (keep:=[0,1,2]) gE) (wk_trans (Ye 5 3 true false gE) (wk_gc (live:=[2,3,4,5,6]) (keep:=[0,1,2,3]) kr))) (fun s1=>?_) (fun y17=>?_) fun x14=>?_
 ·refine hop 3 (fun _=>Qj (enc:=Ah) (l:=p1.Nodes) (fl:=false) kr gE) <| hbr 1 [19] (?_) ?_
  ·refine hbd fun a4 q5=>hop 4 (fun _=>Qh (enc:=Ah) (l:=p1.Nodes) (n:=s1.1) (fl:=false) (w:=3) (a:=a4) kr kr gE q5) <| hop 3 (fun _=>sgL false [] [] false gE) <| hop 7 (fun _=>Qh (enc:=Ah) (l:=p1.Nodes) (n:=s1.1) (fl:=false) (w:=3) (a:=a4) kr kr gE q5) <| hoh 2 (fun _ _ h k=>Qfq (enc:=eI) (m:=a4.Parents) (w:=1) (bytes:=8) (nr':=true) (fl':=true) (a:=.nils) (b:=z1 a4.Parents) (rds:=[]) false kr (.inl rfl) (Jq (fun _=>rfl)) kr gE kr h k) <| hlp 3 (fun s6=>⟨Qbi++[(5,.ref 3 0 s1.2.length),(6,vI s1.1),(7,.ptr 4 0 0),(8,vI s6.1)],[(Qba p0),(Qb6 p1),Qbp,oR false 3 Ah s1.2,oX false false 3 (.agg [vI a4.Card,.ref 5 0 a4.Parents.length,.ref 6 0 s6.2.length]),oR true 1 eI a4.Parents,.refs 7 (eF eI s6.2),.fam 1 true (eF eI s6.2)],323⟩) (fun v=>(.exit 2,⟨Qbi++[(5,.ref 3 0 s1.2.length),(6,vI s1.1),(7,.ptr 4 0 0)],[(Qba p0),(Qb6 p1),Qbp,oR false 3 Ah s1.2,oX false false 3 (.agg [vI a4.Card,.ref 5 0 a4.Parents.length,.ref 6 0 v.length]),oR true 1 eI a4.Parents,.refs 7 (eF eI v),.fam 1 true (eF eI v)],323⟩)) (wk_trans (wk_gc (live:=[2,3,4,5,6,7,8]) (keep:=[0,1,2,3,4,5]) gE) (wk_trans (Qgn 4 0 2 1 true true gE) (wk_trans (Q2n 6 1 true 0 eI (nr0:=true) (fl0:=true) (x0:=([]:List Int)) (enc1:=fun _=>AV.nils)) (wk_gc (live:=[2,3,4,5,6,7,8]) (keep:=[0,1,2,3,4,5,6,7]) kr)))) (fun s6=>?_) fun x12=>?_
   ·refine hop 4 (fun _=>Qh (enc:=Ah) (l:=p1.Nodes) (n:=s1.1) (fl:=false) (w:=3) (a:=a4) kr kr gE q5) <| hop 2 (fun _=>Qj (enc:=z1) (l:=a4.Rows) (fl:=false) kr gE) <| hbr 1 [47] (?_) ?_
    ·refine hop 9 (fun _=>Qh (enc:=Ah) (l:=p1.Nodes) (n:=s1.1) (fl:=false) (w:=3) (a:=a4) kr kr gE q5) <| hbd fun a9 q10=>hop 3 (fun _=>Qh (enc:=z1) (l:=a4.Rows) (n:=s6.1) (fl:=false) (w:=1) (a:=a9) kr kr gE q10) <| hoh 1 (fun _ _ h k=>Qfq (enc:=eI) (m:=a9) (w:=1) (bytes:=8) (nr':=true) (fl':=true) (a:=.nils) (b:=z1 a9) (rds:=[]) false kr (.inl rfl) (Jq (fun _=>rfl)) kr gE kr h k) <| hop 0 (fun _=>sg true 1 _ gE rfl) <| hoh 0 (fun _ _ h k=>Qxd (enc:=eI) (ls:=s6.2) (q:=a9) (bytes:=24) (ob:=6) (j:=7) (tm:=9) (m:=8) kr kr kr kr gE kr h k) <| hwk 2 (wk_trans (wk_dead 9 gE) (wk_adoptA 10 7 8 (w:=1) (fl:=true) (enc:=eI) (ls:=s6.2) (b:=a9) [2,3,4,5,6,7,8,39,40,41,42,43,44,45,46,47,9,50,51,52,53,54,55,56,57,58,59,60,61,63,64,65] kr kr kr kr rfl)) <| hnx 3 (wz [0,1,2,3,4,5,10,7])
    refine hdx 1 (wz [0,1,2,3,4,5,6,7])
   refine hwk 0 (Qoe 6 7 (w:=1) (fl:=true) (enc:=eI) (ls:=x12)) <| hbs 2 [.keep,.lst true,.lst false] false [F eI a4.Parents,F z1 x12] <| hoh 0 (fun _ _ h k=>Kp (enc:=Ah) (l:=s1.2) (m:=([(Ad.mk a4.Card a4.Parents x12)]:(List Ad))) (w:=3) (bytes:=56) (ob:=3) (nr:=true) (fl:=false) (nr':=true) (fl':=false) (b:=.ref 8 0 1) (rds:=[8]) false kr kr kr kr gE kr h k) <| hnx 4 (wz [0,1,2,9])
  refine hdx 1 (wz [0,1,2,3])
 ·refine hop 3 (fun _=>Qj (enc:=Ah) (l:=p1.Nodes) (fl:=false) kr gE) <| hbr 1 [19] (?_) ?_
  ·refine hbd fun a20 q21=>hop 4 (fun _=>Qh (enc:=Ah) (l:=p1.Nodes) (n:=y17.1) (fl:=false) (w:=3) (a:=a20) kr kr gE q21) <| hop 3 (fun _=>sgL false [] [] false gE) <| hop 7 (fun _=>Qh (enc:=Ah) (l:=p1.Nodes) (n:=y17.1) (fl:=false) (w:=3) (a:=a20) kr kr gE q21) <| hoh 2 (fun _ _ h k=>Qfq (enc:=eI) (m:=a20.Parents) (w:=1) (bytes:=8) (nr':=true) (fl':=true) (a:=.nils) (b:=z1 a20.Parents) (rds:=[]) false kr (.inl rfl) (Jq (fun _=>rfl)) kr gE kr h k) <| hlp 3 (fun s22=>⟨Qbi++[(5,.ref 3 0 y17.2.length),(6,vI y17.1),(7,.ptr 4 0 0),(8,vI s22.1)],[(Qba p0),(Qb6 p1),Qbp,oR false 3 Ah y17.2,oX false false 3 (.agg [vI a20.Card,.ref 5 0 a20.Parents.length,.ref 6 0 s22.2.length]),oR true 1 eI a20.Parents,.refs 7 (eF eI s22.2),.fam 1 true (eF eI s22.2)],323⟩) (fun v=>(.exit 2,⟨Qbi++[(5,.ref 3 0 y17.2.length),(6,vI y17.1),(7,.ptr 4 0 0)],[(Qba p0),(Qb6 p1),Qbp,oR false 3 Ah y17.2,oX false false 3 (.agg [vI a20.Card,.ref 5 0 a20.Parents.length,.ref 6 0 v.length]),oR true 1 eI a20.Parents,.refs 7 (eF eI v),.fam 1 true (eF eI v)],323⟩)) (wk_trans (wk_gc (live:=[2,3,4,5,6,7,8]) (keep:=[0,1,2,3,4,5]) gE) (wk_trans (Qgn 4 0 2 1 true true gE) (wk_trans (Q2n 6 1 true 0 eI (nr0:=true) (fl0:=true) (x0:=([]:List Int)) (enc1:=fun _=>AV.nils)) (wk_gc (live:=[2,3,4,5,6,7,8]) (keep:=[0,1,2,3,4,5,6,7]) kr)))) (fun s22=>?_) fun x28=>?_
   ·refine hop 4 (fun _=>Qh (enc:=Ah) (l:=p1.Nodes) (n:=y17.1) (fl:=false) (w:=3) (a:=a20) kr kr gE q21) <| hop 2 (fun _=>Qj (enc:=z1) (l:=a20.Rows) (fl:=false) kr gE) <| hbr 1 [47] (?_) ?_
    ·refine hop 9 (fun _=>Qh (enc:=Ah) (l:=p1.Nodes) (n:=y17.1) (fl:=false) (w:=3) (a:=a20) kr kr gE q21) <| hbd fun a25 q26=>hop 3 (fun _=>Qh (enc:=z1) (l:=a20.Rows) (n:=s22.1) (fl:=false) (w:=1) (a:=a25) kr kr gE q26) <| hoh 1 (fun _ _ h k=>Qfq (enc:=eI) (m:=a25) (w:=1) (bytes:=8) (nr':=true) (fl':=true) (a:=.nils) (b:=z1 a25) (rds:=[]) false kr (.inl rfl) (Jq (fun _=>rfl)) kr gE kr h k) <| hop 0 (fun _=>sg true 1 _ gE rfl) <| hoh 0 (fun _ _ h k=>Qxd (enc:=eI) (ls:=s22.2) (q:=a25) (bytes:=24) (ob:=6) (j:=7) (tm:=9) (m:=8) kr kr kr kr gE kr h k) <| hwk 2 (wk_trans (wk_dead 9 gE) (wk_adoptA 10 7 8 (w:=1) (fl:=true) (enc:=eI) (ls:=s22.2) (b:=a25) [2,3,4,5,6,7,8,39,40,41,42,43,44,45,46,47,9,50,51,52,53,54,55,56,57,58,59,60,61,63,64,65] kr kr kr kr rfl)) <| hnx 3 (wz [0,1,2,3,4,5,10,7])
    refine hdx 1 (wz [0,1,2,3,4,5,6,7])
   refine hop 2 (fun _=>sg true 1 _ gE rfl) <| hoh 0 (fun _ _ h k=>Q72 (enc:=Ah) (L:=y17.2) (e:=(default:Ad)) (w:=3) (bytes:=56) (ob:=3) (tm:=8) (nr:=true) (fl:=false) (nr':=false) (fl':=false) (A0:=.agg [vI a20.Card,.ref 5 0 a20.Parents.length,.ref 6 0 x28.length]) kr kr kr gE kr h k) <| hlq 4 (fun s29=>⟨Qbi++[(5,.ref 3 0 s29.2.length),(6,vI s29.1)],[(Qba p0),(Qb6 p1),Qbp,.row false false false false 3 (hole Ah s29.2 (zn y17.2) (.agg [vI a20.Card,.ref 4 0 a20.Parents.length,.ref 5 0 x28.length])),oR true 1 eI a20.Parents,.refs 6 (eF eI x28),.fam 1 true (eF eI x28)],323⟩) (fun v=>(.exit 0,⟨Qbi++[(5,.ref 3 0 v.length)],[(Qba p0),(Qb6 p1),Qbp,.row false false false false 3 (hole Ah v (zn y17.2) (.agg [vI a20.Card,.ref 4 0 a20.Parents.length,.ref 5 0 x28.length])),oR true 1 eI a20.Parents,.refs 6 (eF eI x28),.fam 1 true (eF eI x28)],323⟩)) (wk_gcH (live:=[2,3,4,5,6]) (keep:=[0,1,2,9,5,6,7]) 9 Ah (y17.2++[(default:Ad)]) (zn y17.2) (.agg [vI a20.Card,.ref 5 0 a20.Parents.length,.ref 6 0 x28.length]) 3 (fun f a=>by cases a <;> rfl) kr kr) (fun s29=>?_) fun x44=>?_
   ·refine hop 3 (fun _=>Qj (enc:=Ah) (l:=p1.Nodes) (fl:=false) kr gE) <| hbr 1 [19] (?_) ?_
    ·refine hbd fun a32 q33=>hop 4 (fun _=>Qh (enc:=Ah) (l:=p1.Nodes) (n:=s29.1) (fl:=false) (w:=3) (a:=a32) kr kr gE q33) <| hop 3 (fun _=>sgL false [] [] false gE) <| hop 7 (fun _=>Qh (enc:=Ah) (l:=p1.Nodes) (n:=s29.1) (fl:=false) (w:=3) (a:=a32) kr kr gE q33) <| hoh 2 (fun _ _ h k=>Qfq (enc:=eI) (m:=a32.Parents) (w:=1) (bytes:=8) (nr':=true) (fl':=true) (a:=.nils) (b:=z1 a32.Parents) (rds:=[]) false kr (.inl rfl) (Jq (fun _=>rfl)) kr gE kr h k) <| hlp 3 (fun s34=>⟨Qbi++[(5,.ref 3 0 s29.2.length),(6,vI s29.1),(7,.ptr 4 0 0),(8,vI s34.1)],[(Qba p0),(Qb6 p1),Qbp,.row false false false false 3 (hole Ah s29.2 (zn y17.2) (.agg [vI a20.Card,.ref 5 0 a20.Parents.length,.ref 6 0 x28.length])),oX false false 3 (.agg [vI a32.Card,.ref 7 0 a32.Parents.length,.ref 8 0 s34.2.length]),oR true 1 eI a20.Parents,.refs 9 (eF eI x28),oR true 1 eI a32.Parents,.refs 10 (eF eI s34.2),.fam 1 true (eF eI x28),.fam 1 true (eF eI s34.2)],323⟩) (fun v=>(.exit 2,⟨Qbi++[(5,.ref 3 0 s29.2.length),(6,vI s29.1),(7,.ptr 4 0 0)],[(Qba p0),(Qb6 p1),Qbp,.row false false false false 3 (hole Ah s29.2 (zn y17.2) (.agg [vI a20.Card,.ref 5 0 a20.Parents.length,.ref 6 0 x28.length])),oX false false 3 (.agg [vI a32.Card,.ref 7 0 a32.Parents.length,.ref 8 0 v.length]),oR true 1 eI a20.Parents,.refs 9 (eF eI x28),oR true 1 eI a32.Parents,.refs 10 (eF eI v),.fam 1 true (eF eI x28),.fam 1 true (eF eI v)],323⟩)) (wk_trans (wk_gcH (live:=[2,3,4,5,6,7,8]) (keep:=[0,1,2,3,7,4,5,8,6]) 3 Ah s29.2 (zn y17.2) (.agg [vI a20.Card,.ref 4 0 a20.Parents.length,.ref 5 0 x28.length]) 3 (fun f a=>by cases a <;> rfl) kr gE) (wk_trans (Qgn 4 0 2 1 true true gE) (wk_trans (Q2n 9 1 true 0 eI (nr0:=true) (fl0:=true) (x0:=([]:List Int)) (enc1:=fun _=>AV.nils)) (wk_gcH (live:=[2,3,4,5,6,7,8]) (keep:=[0,1,2,3,4,5,6,7,9,8,10]) 3 Ah s29.2 (zn y17.2) (.agg [vI a20.Card,.ref 5 0 a20.Parents.length,.ref 6 0 x28.length]) 3 (fun f a=>by cases a <;> rfl) kr kr)))) (fun s34=>?_) fun x40=>?_
     ·refine hop 4 (fun _=>Qh (enc:=Ah) (l:=p1.Nodes) (n:=s29.1) (fl:=false) (w:=3) (a:=a32) kr kr gE q33) <| hop 2 (fun _=>Qj (enc:=z1) (l:=a32.Rows) (fl:=false) kr gE) <| hbr 1 [47] (?_) ?_
      ·refine hop 9 (fun _=>Qh (enc:=Ah) (l:=p1.Nodes) (n:=s29.1) (fl:=false) (w:=3) (a:=a32) kr kr gE q33) <| hbd fun a37 q38=>hop 3 (fun _=>Qh (enc:=z1) (l:=a32.Rows) (n:=s34.1) (fl:=false) (w:=1) (a:=a37) kr kr gE q38) <| hoh 1 (fun _ _ h k=>Qfq (enc:=eI) (m:=a37) (w:=1) (bytes:=8) (nr':=true) (fl':=true) (a:=.nils) (b:=z1 a37) (rds:=[]) false kr (.inl rfl) (Jq (fun _=>rfl)) kr gE kr h k) <| hop 0 (fun _=>sg true 1 _ gE rfl) <| hoh 0 (fun _ _ h k=>Qxd (enc:=eI) (ls:=s34.2) (q:=a37) (bytes:=24) (ob:=8) (j:=10) (tm:=12) (m:=11) kr kr kr kr gE kr h k) <| hwk 2 (wk_trans (wk_dead 12 gE) (wk_adoptA 13 10 11 (w:=1) (fl:=true) (enc:=eI) (ls:=s34.2) (b:=a37) [2,3,4,5,6,7,8,39,40,41,42,43,44,45,46,47,9,50,51,52,53,54,55,56,57,58,59,60,61,63,64,65] kr kr kr (and2 (safeAll_hole 3 3 Ah s29.2 (zn y17.2) (.agg [vI a20.Card,.ref 5 0 a20.Parents.length,.ref 6 0 x28.length]) (fun a=>rfl) kr kr) kr) rfl)) <| hnx 3 (wk_gcH (live:=[2,3,4,5,6,7,8]) (keep:=[0,1,2,3,4,5,6,7,13,9,10]) 3 Ah s29.2 (zn y17.2) (.agg [vI a20.Card,.ref 5 0 a20.Parents.length,.ref 6 0 x28.length]) 3 (fun f a=>by cases a <;> rfl) kr kr)
      refine hdx 1 (wk_gcH (live:=[2,3,4,5,6,7]) (keep:=[0,1,2,3,4,5,6,7,8,9,10]) 3 Ah s29.2 (zn y17.2) (.agg [vI a20.Card,.ref 5 0 a20.Parents.length,.ref 6 0 x28.length]) 3 (fun f a=>by cases a <;> rfl) kr kr)
     refine hwk 0 (Qoe 8 10 (w:=1) (fl:=true) (enc:=eI) (ls:=x40)) <| hbs 2 [.keep,.lst true,.lst false] false [F eI a32.Parents,F z1 x40] <| hbd fun a41 q42=>hoh 0 (fun _ _ h k=>Q40 (enc:=Ah) (L:=s29.2) (m:=([(Ad.mk a32.Card a32.Parents x40)]:(List Ad))) (n:=(zn y17.2)) (a:=a41) (A0:=.agg [vI a20.Card,.ref 5 0 a20.Parents.length,.ref 6 0 x28.length]) (b:=.ref 11 0 1) (w:=3) (bytes:=56) (ob:=3) (fl:=false) (nr':=true) (fl':=false) (rds:=[11]) kr kr q42 kr gE kr h k) <| hnx 4 (wk_gcH (live:=[2,3,4,5,6]) (keep:=[0,1,2,12,5,6,9]) 12 Ah (s29.2++([(Ad.mk a32.Card a32.Parents x40)]:(List Ad))) (zn y17.2) (.agg [vI a20.Card,.ref 5 0 a20.Parents.length,.ref 6 0 x28.length]) 3 (fun f a=>by cases a <;> rfl) kr kr)
    refine hdx 1 (wk_gcH (live:=[2,3,4,5]) (keep:=[0,1,2,3,4,5,6]) 3 Ah s29.2 (zn y17.2) (.agg [vI a20.Card,.ref 4 0 a20.Parents.length,.ref 5 0 x28.length]) 3 (fun f a=>by cases a <;> rfl) kr kr)
   refine hbr 6 [74] (?_) ?_
   ·refine hjn 3 (Qji p1.Grain x44 (zn y17.2) a20.Card a20.Parents x28) (wk_gcH (live:=[4]) (keep:=[2,3,4,5,6]) 3 Ah x44 (zn y17.2) (.agg [vI a20.Card,.ref 4 0 a20.Parents.length,.ref 5 0 x28.length]) 3 (fun f a=>by cases a <;> rfl) kr kr)
   refine hoh 7 (fun _ _ h k=>Qq8 (k:=.i64) (a:=zw (p0.At)) (b:=(zn x44)) kr gE h k) <| hbd fun a51 q52=>hqe 0 (fun n53=>⟨Qbi++[(5,.ref 3 0 x44.length),(70,.ref 3 0 x44.length),(71,.ptr 1 0 1),(72,.ref 3 0 x44.length),(73,vI (zn x44)),(74,vB false),(76,.ref 3 0 x44.length),(77,.ptr 0 0 1),(78,.int .u8 p0.At),(79,vI (zw (p0.At))),(80,.ref 3 0 x44.length),(81,vI (zn x44)),(82,vI n53)],[(Qba p0),oX false false 2 (.agg [vI p1.Grain,.ref 3 0 x44.length]),Qbp,.row false false false false 3 (hole Ah x44 (zn y17.2) (.agg [vI a20.Card,.ref 4 0 a20.Parents.length,.ref 5 0 x28.length])),oR true 1 eI a20.Parents,.refs 6 (eF eI x28),.fam 1 true (eF eI x28)],323⟩) <| hop 0 (fun _=>Qcp (enc:=Ah) (L:=x44) (n:=(zn y17.2)) (a:=a51) (A:=.agg [vI a20.Card,.ref 4 0 a20.Parents.length,.ref 5 0 x28.length]) (ob:=3) (w:=3) (ro:=false) (nr:=false) (fl:=false) kr kr q52 gE) <| hop 5 (fun _=>Xo (enc:=Ah) (L:=x44) (n:=(zn y17.2)) (a:=a51) (A:=.agg [vI a20.Card,.ref 4 0 a20.Parents.length,.ref 5 0 x28.length]) (ob:=3) (w:=3) (c:=2) (ro:=false) (nr:=false) (fl:=false) kr kr q52 gE) <| hbr 2 [89] (?_) ?_
   ·refine hop 8 (fun _=>Xo (enc:=Ah) (L:=x44) (n:=(zn y17.2)) (a:=a51) (A:=.agg [vI a20.Card,.ref 4 0 a20.Parents.length,.ref 5 0 x28.length]) (ob:=3) (w:=3) (c:=2) (ro:=false) (nr:=false) (fl:=false) kr kr q52 gE) <| hoh 1 (fun _ _ h k=>Qq8 (k:=.i64) (a:=zw (p0.Row)) (b:=(zn x28)) kr gE h k) <| hjn 1 (g_ref05_Bend_Of_j2_ok (zt (zn y17.2)) (Int.tmod (zw (p0.Row)) (zn x28)) p0.What p0.At p0.Row p0.N p1.Grain 0 x44 (zn y17.2) a20.Card a20.Parents x28) (wk_gcH (live:=[2,3,4,10,11]) (keep:=[0,1,2,3,4,5,6]) 3 Ah x44 (zn y17.2) (.agg [vI a20.Card,.ref 4 0 a20.Parents.length,.ref 5 0 x28.length]) 3 (fun f a=>by cases a <;> rfl) kr kr)
   refine hjn 1 (g_ref05_Bend_Of_j2_ok (zt (zn y17.2)) (-1) p0.What p0.At p0.Row p0.N p1.Grain 0 x44 (zn y17.2) a20.Card a20.Parents x28) (wk_gcH (live:=[2,3,4,10,11]) (keep:=[0,1,2,3,4,5,6]) 3 Ah x44 (zn y17.2) (.agg [vI a20.Card,.ref 4 0 a20.Parents.length,.ref 5 0 x28.length]) 3 (fun f a=>by cases a <;> rfl) kr kr)
  refine hwk 1 (wl [2,3,4,5] [0,1,2,3]) <| hnn
 refine hbr 6 [74] (hjn 3 (Qjf p1.Grain x14) (wz [2,3])) <| ?_
 refine hnn
end
section
attribute [local irreducible] RW WP
noncomputable abbrev Quf (p0:Qc):AObj:=oX true false 2 (.agg [vI p0.Grain,eL false Ah p0.Nodes])
theorem Qdi (p0:Qc):Ct Tryd.prog 76 [.agg [vI p0.Grain,eL false Ah p0.Nodes]] (Vu p0) (fun x=>.ref 0 0 x.length) (fun x=>[oR true 1 (AV.int .u64) x]):=by
 refine hfn [] Tryd.func76 <| hop 0 (fun _=>sgL false [] [] false gE) <| hlp 3 (fun s1=>⟨[(1,.ptr 0 0 0),(3,.ref 1 0 s1.2.length),(4,vI s1.1)],[(Quf p0),oR true 1 (AV.int .u64) s1.2],43⟩) (fun v=>(.exit 0,⟨[(3,.ref 0 0 v.length)],[oR true 1 (AV.int .u64) v],43⟩)) (wk_trans (wk_gc (live:=[1,3,4]) (keep:=[0]) gE) (wk_trans (Ye 3 1 true true gE) (wk_gc (live:=[1,3,4]) (keep:=[0,1]) kr))) (fun s1=>?_) fun x14=>?_
 ·refine hop 3 (fun _=>Qj (enc:=Ah) (l:=p0.Nodes) (fl:=false) kr gE) <| hbr 1 [11] (?_) ?_
  ·refine hlp 3 (fun s4=>⟨[(1,.ptr 0 0 0),(3,.ref 1 0 s1.2.length),(4,vI s1.1),(5,.int .u64 s4.1),(6,vI s4.2)],[(Quf p0),oR true 1 (AV.int .u64) s1.2],43⟩) (fun v=>(.exit 2,⟨[(1,.ptr 0 0 0),(3,.ref 1 0 s1.2.length),(4,vI s1.1),(5,.int .u64 v)],[(Quf p0),oR true 1 (AV.int .u64) s1.2],43⟩)) (wz [0,1]) (fun s4=>?_) fun x12=>?_
   ·refine hbd fun a5 q6=>hop 4 (fun _=>Qh (enc:=Ah) (l:=p0.Nodes) (n:=s1.1) (fl:=false) (w:=3) (a:=a5) kr kr gE q6) <| hop 2 (fun _=>Qj (enc:=eI) (l:=a5.Parents) (fl:=true) kr gE) <| hbr 1 [22] (?_) ?_
    ·refine hop 5 (fun _=>Qh (enc:=Ah) (l:=p0.Nodes) (n:=s1.1) (fl:=false) (w:=3) (a:=a5) kr kr gE q6) <| hbd fun a9 q10=>hop 3 (fun _=>Qh (enc:=eI) (l:=a5.Parents) (n:=s4.2) (fl:=true) (w:=1) (a:=a9) kr kr gE q10) <| hoh 2 (fun _ _ h k=>Qeg (k:=.u64) (k':=.u64) (a:=1) (b:=zv (a9)) kr gE h k) <| hnx 5 (wz [0,1])
    refine hdx 1 (wz [0,1])
   refine hop 2 (fun _=>sgL false [] [] true gE) <| hoh 0 (fun _ _ h k=>Kp (enc:=(AV.int .u64)) (l:=s1.2) (m:=([x12]:(List Int))) (w:=1) (bytes:=8) (ob:=1) (nr:=true) (fl:=true) (nr':=true) (fl':=true) (b:=.ref 2 0 1) (rds:=[2]) false kr kr kr kr gE kr h k) <| hnx 4 (wz [0,3])
  refine hdx 1 (wz [1])
 refine hrt 3
theorem g_ref02_Places_ok (p0:(List Int)) (p1:Int):Ct Tryd.prog 104 [z1 p0,vI p1] (Ky p0 p1) (fun x=>vB x) (fun x=>[]):=by
 refine hfn [] Tryd.func104 <| hlp 2 (fun s1=>⟨[(0,z1 p0),(1,vI p1),(5,vI s1)],[],41⟩) (fun x=>match x with | .inl v=>(.ret,⟨[(4,vB false)],[],41⟩) | .inr v=>(.exit 0,⟨[],[],41⟩)) (wz []) (fun s1=>?_) (hsm (fun x17=>?_) (fun x18=>?_))
 ·refine hop 2 (fun _=>Qj (enc:=eI) (l:=p0) (fl:=true) kr gE) <| hbr 1 [9] (?_) ?_
  ·refine hbd fun a4 q5=>hop 4 (fun _=>Qh (enc:=eI) (l:=p0) (n:=s1) (fl:=true) (w:=1) (a:=a4) kr kr gE q5) <| hbr 3 [16,17] (hdx 25 (wz [])) <| ?_
   refine hop 2 (fun _=>Qh (enc:=eI) (l:=p0) (n:=s1) (fl:=true) (w:=1) (a:=a4) kr kr gE q5) <| hbr 5 [23,24,25] (hdx 17 (wz [])) <| ?_
   refine hbr 3 [27,28] (?_) ?_
   ·refine hop 2 (fun _=>Qh (enc:=eI) (l:=p0) (n:=s1) (fl:=true) (w:=1) (a:=a4) kr kr gE q5) <| hbd fun a12 q13=>hop 4 (fun _=>Qh (enc:=eI) (l:=p0) (n:=zw (s1 - 1)) (fl:=true) (w:=1) (a:=a12) kr kr gE q13) <| hbr 4 [38,39,40] (hdx 2 (wz [])) <| ?_
    refine hnx 4 (wz [])
   refine hnx 16 (wz [])
  refine hdx 1 (wz [])
 ·refine hrt 0
 refine hrt 2
theorem g_ref05_In_ok (p0:Int) (p1:Int):Ct Tryd.prog 111 [.int .u64 p0,vI p1] (Xm p0 p1) (fun x=>vB x) (fun x=>[]):=by
 refine hfn [] Tryd.func111 <| hoh 4 (fun _ _ h k=>Vi (k:=.u64) (k':=.u64) (a:=p0) (b:=zv (p1)) kr gE h k) <| hrt 4
theorem g_ref05_Up_ok (p0:(List Int)) (p1:Int):Ct Tryd.prog 122 [eL true (AV.int .u64) p0,.int .u64 p1] (Qb0 p0 p1) (fun x=>.int .u64 x) (fun x=>[]):=by
 refine hfn [] Tryd.func122 <| hlp 2 (fun s1=>⟨[(0,eL true (AV.int .u64) p0),(1,.int .u64 s1.1),(5,vI s1.2)],[],29⟩) (fun v=>(.exit 0,⟨[(1,.int .u64 v)],[],29⟩)) (wz []) (fun s1=>?_) fun x16=>?_
 ·refine hop 2 (fun _=>Qj (enc:=(AV.int .u64)) (l:=p0) (fl:=true) kr gE) <| hbr 1 [10] (?_) ?_
  ·refine hlp 2 (fun s4=>⟨[(0,eL true (AV.int .u64) p0),(1,.int .u64 s4.1),(5,vI s1.2),(6,vI s4.2)],[],29⟩) (fun v=>(.exit 2,⟨[(0,eL true (AV.int .u64) p0),(1,.int .u64 v),(5,vI s1.2)],[],29⟩)) (wz []) (fun s4=>?_) fun x14=>?_
   ·refine hop 2 (fun _=>Qj (enc:=(AV.int .u64)) (l:=p0) (fl:=true) kr gE) <| hbr 1 [16] (?_) ?_
    ·refine hcl 3 [] (g_ref05_In_ok s4.1 s4.2) fun x7 _=>hbr 0 [21] (hbd fun a11 q12=>hop 4 (fun _=>Qh (enc:=(AV.int .u64)) (l:=p0) (n:=s4.2) (fl:=true) (w:=1) (a:=a11) kr kr gE q12) <| hnx 6 (wz [])) <| ?_
     refine hnx 4 (wz [])
    refine hdx 1 (wz [])
   refine hnx 3 (wz [])
  refine hdx 1 (wz [])
 refine hrt 3
theorem Qk8 (p0:(List Int)):Ct Tryd.prog 105 [eL true (AV.int .u64) p0] (Kf p0) (fun x=>vB x) (fun x=>[]):=by
 refine hfn [] Tryd.func105 <| hlp 2 (fun s1=>⟨[(0,eL true (AV.int .u64) p0),(3,vI s1)],[],18⟩) (fun x=>match x with | .inl v=>(.ret,⟨[(2,vB false)],[],18⟩) | .inr v=>(.exit 0,⟨[],[],18⟩)) (wz []) (fun s1=>?_) (hsm (fun x13=>?_) (fun x14=>?_))
 ·refine hop 2 (fun _=>Qj (enc:=(AV.int .u64)) (l:=p0) (fl:=true) kr gE) <| hbr 1 [7] (?_) ?_
  ·refine hbd fun a4 q5=>hop 4 (fun _=>Qh (enc:=(AV.int .u64)) (l:=p0) (n:=s1) (fl:=true) (w:=1) (a:=a4) kr kr gE q5) <| hcl 1 [] (g_ref05_Up_ok p0 a4) fun x6 _=>hcl 1 [] (g_ref05_In_ok x6 s1) fun x8 _=>hbr 0 [17] (hdx 2 (wz [])) <| ?_
   refine hnx 4 (wz [])
  refine hdx 1 (wz [])
 ·refine hrt 0
 refine hrt 2
noncomputable abbrev o67_99 (p0:Qc):AObj:=oX true false 2 (.agg [vI p0.Grain,eL false Ah p0.Nodes])
noncomputable abbrev o67_100 (a36:Ad):AObj:=oX true false 3 (.agg [vI a36.Card,z1 a36.Parents,z2 a36.Rows])
theorem g_ref05_Right_ok (p0:Qc):Ct Tryd.prog 61 [.agg [vI p0.Grain,eL false Ah p0.Nodes]] (Jf p0) (fun x=>vB x) (fun x=>[]):=by
 refine hfn [] Tryd.func61 <| hop 0 (fun _=>sgL false [] [] false gE) <| hbr 5 [13,14] (hrt 19) <| ?_
 refine hbr 5 [17,18,19] (hrt 14) <| ?_
 refine hop 2 (fun _=>Qj (enc:=Ah) (l:=p0.Nodes) (fl:=false) kr gE) <| hbr 3 [23,24,25] (hrt 8) <| ?_
 refine hop 2 (fun _=>Qj (enc:=Ah) (l:=p0.Nodes) (fl:=false) kr gE) <| hbr 2 [29,30] (hrt 3) <| ?_
 refine hlp 3 (fun s9=>⟨[(1,.ptr 0 0 0),(3,vI s9.1),(4,vI s9.2)],[(o67_99 p0)],154⟩) (fun x=>match x with | .inl v=>(.ret,⟨[(2,vB false)],[],154⟩) | .inr v=>(.exit 0,⟨[(1,.ptr 0 0 0),(3,vI v)],[(o67_99 p0)],154⟩)) (wz [0]) (fun s9=>?_) (hsm (fun x23=>?_) (fun x24=>?_))
 ·refine hop 3 (fun _=>Qj (enc:=Ah) (l:=p0.Nodes) (fl:=false) kr gE) <| hbr 1 [35] (?_) ?_
  ·refine hbd fun a12 q13=>hop 4 (fun _=>Qh (enc:=Ah) (l:=p0.Nodes) (n:=s9.2) (fl:=false) (w:=3) (a:=a12) kr kr gE q13) <| hop 1 (fun _=>sgL false [] [] false gE) <| hbr 5 [45,46] (hdx 15 (wz [])) <| ?_
   refine hbr 5 [49,50,51] (hdx 10 (wz [])) <| ?_
   refine hop 4 (fun _=>Qj (enc:=Ah) (l:=p0.Nodes) (fl:=false) kr gE) <| hcl 0 [] (g_ref02_Places_ok a12.Parents (zn p0.Nodes)) fun x18 _=>hbr 2 [58,59] (hdx 2 (wz [])) <| ?_
   refine hnx 9 (wz [0])
  refine hdx 1 (wz [0])
 ·refine hrt 0
 refine hbr 3 [65,66] (hrt 8) <| ?_
 refine hcl 1 [] (Qdi p0) fun x27 _=>hcl 0 [F (AV.int .u64) x27] (Qk8 x27) fun x29 _=>hbr 2 [70,71] (hrt 3) <| ?_
 refine hlp 2 (fun s33=>⟨[(1,.ptr 0 0 0),(6,vI s33)],[(o67_99 p0)],154⟩) (fun x=>match x with | .inl v=>(.ret,⟨[(2,vB false)],[],154⟩) | .inr v=>(.exit 2,⟨[],[],154⟩)) (wz [0]) (fun s33=>?_) (hsm (fun x69=>?_) (fun x70=>?_))
 ·refine hop 3 (fun _=>Qj (enc:=Ah) (l:=p0.Nodes) (fl:=false) kr gE) <| hbr 1 [76] (?_) ?_
  ·refine hbd fun a36 q37=>hop 4 (fun _=>Qh (enc:=Ah) (l:=p0.Nodes) (n:=s33) (fl:=false) (w:=3) (a:=a36) kr kr gE q37) <| hop 1 (fun _=>sgL false [] [] false gE) <| hop 4 (fun _=>Qj (enc:=z1) (l:=a36.Rows) (fl:=false) kr gE) <| hcl 2 [] (us:=[.agg [vI p0.Grain,eL false Ah p0.Nodes],vI s33]) (rv:=fun x38=>z1 x38) (ro:=fun x38=>[]) (fun x38 q39=>Q3.froz (Ks p0 s33 x38 q39) (Jp (w:=1) (bx:=false) (ro:=false) (enc:=eI) (l:=x38) (fl:=true) rfl)) fun x38 _=>hcl 0 [] (Qd2 x38) fun x40 _=>hbr 1 [91] (hdx 2 (wz [])) <| ?_
   refine hlp 2 (fun s44=>⟨[(1,.ptr 0 0 0),(6,vI s33),(7,.ptr 1 0 0),(8,vI s44)],[(o67_99 p0),(o67_100 a36)],154⟩) (fun x=>match x with | .inl v=>(.ret,⟨[(2,vB false)],[],154⟩) | .inr v=>(.exit 4,⟨[(1,.ptr 0 0 0),(6,vI s33)],[(o67_99 p0)],154⟩)) (wz [0,1]) (fun s44=>?_) (hsm (fun x66=>?_) (fun x67=>?_))
   ·refine hop 3 (fun _=>Qj (enc:=z1) (l:=a36.Rows) (fl:=false) kr gE) <| hbr 1 [96] (?_) ?_
    ·refine hbd fun a47 q48=>hop 5 (fun _=>Qh (enc:=z1) (l:=a36.Rows) (n:=s44) (fl:=false) (w:=1) (a:=a47) kr kr gE q48) <| hop 1 (fun _=>Qj (enc:=eI) (l:=a47) (fl:=true) kr gE) <| hbr 3 [107] (hdx 2 (wz [])) <| ?_
     refine hlp 3 (fun s51=>⟨[(1,.ptr 0 0 0),(6,vI s33),(7,.ptr 1 0 0),(8,vI s44),(9,vI s51.1),(10,vI s51.2)],[(o67_99 p0),(o67_100 a36)],154⟩) (fun x=>match x with | .inl v=>(.ret,⟨[(2,vB false)],[],154⟩) | .inr v=>(.exit 6,⟨[(1,.ptr 0 0 0),(6,vI s33),(7,.ptr 1 0 0),(8,vI s44),(9,vI v)],[(o67_99 p0),(o67_100 a36)],154⟩)) (wz [0,1]) (fun s51=>?_) (hsm (fun x61=>?_) (fun x62=>?_))
     ·refine hop 4 (fun _=>Qh (enc:=z1) (l:=a36.Rows) (n:=s44) (fl:=false) (w:=1) (a:=a47) kr kr gE q48) <| hop 1 (fun _=>Qj (enc:=eI) (l:=a47) (fl:=true) kr gE) <| hbr 1 [115] (?_) ?_
      ·refine hop 5 (fun _=>Qh (enc:=z1) (l:=a36.Rows) (n:=s44) (fl:=false) (w:=1) (a:=a47) kr kr gE q48) <| hbd fun a54 q55=>hop 2 (fun _=>Qh (enc:=eI) (l:=a47) (n:=s51.2) (fl:=true) (w:=1) (a:=a54) kr kr gE q55) <| hbr 3 [126,127] (hdx 14 (wz [])) <| ?_
       refine hop 3 (fun _=>Qh (enc:=z1) (l:=a36.Rows) (n:=s44) (fl:=false) (w:=1) (a:=a47) kr kr gE q48) <| hop 2 (fun _=>Qh (enc:=eI) (l:=a47) (n:=s51.2) (fl:=true) (w:=1) (a:=a54) kr kr gE q55) <| hbr 5 [138,139] (hdx 2 (wz [])) <| ?_
       refine hop 5 (fun _=>Qh (enc:=z1) (l:=a36.Rows) (n:=s44) (fl:=false) (w:=1) (a:=a47) kr kr gE q48) <| hop 2 (fun _=>Qh (enc:=eI) (l:=a47) (n:=s51.2) (fl:=true) (w:=1) (a:=a54) kr kr gE q55) <| hnx 6 (wz [0,1])
      refine hdx 1 (wz [0,1])
     ·refine hdn 0
     refine hbr 4 [153] (hdx 2 (wz [])) <| ?_
     refine hnx 4 (wz [0,1])
    refine hdx 1 (wz [0])
   ·refine hdn 0
   refine hnx 3 (wz [0])
  refine hdx 1 (wz [])
 ·refine hrt 0
 refine hrt 2
end
section
attribute [local irreducible] RW WP
theorem g_ref32_Parts_ok (p0:Int) (p1:(Int × Int × Int × Int × Int × Int × Int × Int)):Ct Tryd.prog 30 [vI p0,.agg [.int .u8 p1.1,.int .u8 p1.2.1,.int .u8 p1.2.2.1,.int .u8 p1.2.2.2.1,.int .u8 p1.2.2.2.2.1,.int .u8 p1.2.2.2.2.2.1,.int .u8 p1.2.2.2.2.2.2.1,.int .u8 p1.2.2.2.2.2.2.2]] (Qci p0 p1) (fun x=>.agg [.int .u64 x.1,.int .u64 x.2.1,.int .u64 x.2.2.1,.int .u64 x.2.2.2]) (fun x=>[]):=by
 refine hfn [] Tryd.func30 <| hlp 4 (fun s1=>⟨[(0,vI p0),(3,.ptr 0 0 0),(4,.ptr 1 0 0),(5,.ptr 2 0 0),(6,vI s1.1)],[oX true true 8 (.agg [.int .u8 p1.1,.int .u8 p1.2.1,.int .u8 p1.2.2.1,.int .u8 p1.2.2.2.1,.int .u8 p1.2.2.2.2.1,.int .u8 p1.2.2.2.2.2.1,.int .u8 p1.2.2.2.2.2.2.1,.int .u8 p1.2.2.2.2.2.2.2]),oX true true 4 (.agg [.int .u64 0,.int .u64 0,.int .u64 0,.int .u64 0]),oX true true 4 (.agg [.int .u64 s1.2.1,.int .u64 s1.2.2.1,.int .u64 s1.2.2.2.1,.int .u64 s1.2.2.2.2])],29⟩) (fun v=>(.exit 0,⟨[(4,.ptr 0 0 0),(5,.ptr 1 0 0)],[oX true true 4 (.agg [.int .u64 0,.int .u64 0,.int .u64 0,.int .u64 0]),oX true true 4 (.agg [.int .u64 v.1,.int .u64 v.2.1,.int .u64 v.2.2.1,.int .u64 v.2.2.2])],29⟩)) (wz [0,1,2]) (fun s1=>?_) fun x11=>?_
 ·refine hbr 3 [10] (?_) ?_
  ·refine hbd fun a4 q5=>hop 2 (fun _=>Qq1 (l:=([p1.1,p1.2.1,p1.2.2.1,p1.2.2.2.1,p1.2.2.2.2.1,p1.2.2.2.2.2.1,p1.2.2.2.2.2.2.1,p1.2.2.2.2.2.2.2]:(List Int))) (n:=s1.1) (ob:=0) (a:=a4) kr q5 gE) <| hop 0 (fun _=>Qx2 (enc:=(AV.int .u8)) (l:=([p1.1,p1.2.1,p1.2.2.1,p1.2.2.2.1,p1.2.2.2.2.1,p1.2.2.2.2.2.1,p1.2.2.2.2.2.2.1,p1.2.2.2.2.2.2.2]:(List Int))) (n:=s1.1) (w:=8) (ob:=0) (bx:=true) (ro:=false) (nr:=true) (fl:=true) (a:=a4) kr kr q5 gE) <| hbr 4 [18] (?_) ?_
   ·refine hbd fun a8 q9=>hop 3 (fun _=>Qq1 (l:=([s1.2.1,s1.2.2.1,s1.2.2.2.1,s1.2.2.2.2]:(List Int))) (n:=Int.tmod a4 5) (ob:=2) (a:=a8) kr q9 gE) <| hop 0 (fun _=>Qx2 (enc:=(AV.int .u64)) (l:=([s1.2.1,s1.2.2.1,s1.2.2.2.1,s1.2.2.2.2]:(List Int))) (n:=Int.tmod a4 5) (w:=4) (ob:=2) (bx:=true) (ro:=false) (nr:=true) (fl:=true) (a:=a8) kr kr q9 gE) <| hoh 2 (fun _ _ h k=>Qeg (k:=.u64) (k':=.u64) (a:=1) (b:=zv (s1.1)) kr gE h k) <| hop 1 (fun _=>Qq1 (l:=([s1.2.1,s1.2.2.1,s1.2.2.2.1,s1.2.2.2.2]:(List Int))) (n:=Int.tmod a4 5) (ob:=2) (a:=a8) kr q9 gE) <| hop 0 (fun _=>Qs9 (enc:=(AV.int .u64)) (l:=([s1.2.1,s1.2.2.1,s1.2.2.2.1,s1.2.2.2.2]:(List Int))) (n:=Int.tmod a4 5) (w:=4) (ob:=2) (bx:=true) (nr:=true) (fl:=true) (a:=a8) (a':=zv (zb a8 ||| zb (zv (1*2^min (zt (zv (s1.1))) zk))).toNat) false kr kr q9 kr kr kr gE kr) <| hnx 3 (wz [0,1,2])
   refine hnx 4 (wz [0,1,2])
  refine hdx 1 (wz [1,2])
 refine hrt 3
theorem g_ref32_without_ok (p0:(List Int)) (p1:Int) (p2:Int):Ct Tryd.prog 121 [eL true (AV.int .u64) p0,.int .u64 p1,.int .u64 p2] (V8 p0 p1 p2) (fun x=>.ref 0 0 x.length) (fun x=>[oR true 1 (AV.int .u64) x]):=by
 refine hfn [] Tryd.func121 <| hlp 3 (fun s1=>⟨[(0,eL true (AV.int .u64) p0),(1,.int .u64 p1),(2,.int .u64 p2),(7,.ref 0 0 s1.2.length),(8,vI s1.1)],[oR true 1 (AV.int .u64) s1.2],30⟩) (fun v=>(.exit 0,⟨[(7,.ref 0 0 v.length)],[oR true 1 (AV.int .u64) v],30⟩)) (wk_trans (wk_gc (live:=[0,1,2,7,8]) (keep:=[]) gE) (wk_trans (Ye 7 1 true true gE) (wk_gc (live:=[0,1,2,7,8]) (keep:=[0]) kr))) (fun s1=>?_) fun x11=>?_
 ·refine hop 2 (fun _=>Qj (enc:=(AV.int .u64)) (l:=p0) (fl:=true) kr gE) <| hbr 1 [13] (?_) ?_
  ·refine hbd fun a4 q5=>hop 3 (fun _=>Qh (enc:=(AV.int .u64)) (l:=p0) (n:=s1.1) (fl:=true) (w:=1) (a:=a4) kr kr gE q5) <| hcl 6 [] (g_ref05_In_ok p1 s1.1) fun x6 _=>hbr 0 [24] (?_) ?_
   ·refine hop 4 (fun _=>sgL false [] [] true gE) <| hoh 0 (fun _ _ h k=>Kp (enc:=(AV.int .u64)) (l:=s1.2) (m:=([0]:(List Int))) (w:=1) (bytes:=8) (ob:=0) (nr:=true) (fl:=true) (nr':=true) (fl':=true) (b:=.ref 1 0 1) (rds:=[1]) false kr kr kr kr gE kr h k) <| hnx 4 (wz [2])
   refine hop 3 (fun _=>sgL false [] [] true gE) <| hoh 0 (fun _ _ h k=>Kp (enc:=(AV.int .u64)) (l:=s1.2) (m:=([zv (zb a4 &&& ~~~ zb p2).toNat]:(List Int))) (w:=1) (bytes:=8) (ob:=0) (nr:=true) (fl:=true) (nr':=true) (fl':=true) (b:=.ref 1 0 1) (rds:=[1]) false kr kr kr kr gE kr h k) <| hnx 4 (wz [2])
  refine hdx 1 (wz [0])
 refine hrt 3
noncomputable abbrev Qei (p0:(List Int)):Nat×AV:=(0,eL true (AV.int .u64) p0)
theorem Qnv (p0:(List Int)):Ct Tryd.prog 149 [eL true (AV.int .u64) p0] (Qcl p0) (fun x=>.ref 0 0 x.length) (fun x=>[oR true 1 (AV.int .u64) x]):=by
 refine hfn [] Tryd.func149 <| hop 2 (fun _=>Qj (enc:=(AV.int .u64)) (l:=p0) (fl:=true) kr gE) <| hoh 0 (fun _ _ h k=>mkL (enc:=(AV.int .u64)) (z:=(0:Int)) (z0:=.int .u64 0) (n:=(zn p0)) (m:=(zn p0)) (w:=1) (bytes:=8) [] true kr kr gE kr h k) <| hlp 2 (fun s1=>⟨[(Qei p0),(3,.ref 0 0 s1.2.length),(4,vI s1.1)],[oR true 1 (AV.int .u64) s1.2],78⟩) (fun v=>(.exit 0,⟨[(3,.ref 0 0 v.length)],[oR true 1 (AV.int .u64) v],78⟩)) (wz [0]) (fun s1=>?_) fun x52=>?_
 ·refine hop 2 (fun _=>Qj (enc:=(AV.int .u64)) (l:=p0) (fl:=true) kr gE) <| hbr 1 [14] (?_) ?_
  ·refine hlp 2 (fun s4=>⟨[(Qei p0),(3,.ref 0 0 s4.2.length),(4,vI s1.1),(5,vI s4.1)],[oR true 1 (AV.int .u64) s4.2],78⟩) (fun v=>(.exit 2,⟨[(Qei p0),(3,.ref 0 0 v.length),(4,vI s1.1)],[oR true 1 (AV.int .u64) v],78⟩)) (wz [0]) (fun s4=>?_) fun x50=>?_
   ·refine hop 2 (fun _=>Qj (enc:=(AV.int .u64)) (l:=p0) (fl:=true) kr gE) <| hbr 1 [20] (?_) ?_
    ·refine hbd fun a7 q8=>hop 3 (fun _=>Qh (enc:=(AV.int .u64)) (l:=p0) (n:=s1.1) (fl:=true) (w:=1) (a:=a7) kr kr gE q8) <| hcl 2 [] (g_ref05_In_ok a7 s4.1) fun x9 _=>hbr 1 [28,29] (?_) ?_
     ·refine hlp 9 (fun s13=>⟨[(Qei p0),(3,.ref 0 0 s4.2.length),(4,vI s1.1),(5,vI s4.1),(6,vB true),(7,vI s13)],[oR true 1 (AV.int .u64) s4.2],78⟩) (fun v=>(.exit 4,⟨[(Qei p0),(3,.ref 0 0 s4.2.length),(4,vI s1.1),(5,vI s4.1),(6,vB true)],[oR true 1 (AV.int .u64) s4.2],78⟩)) (wz [0]) (fun s13=>?_) fun x17=>?_
      ·refine hop 2 (fun _=>Qj (enc:=(AV.int .u64)) (l:=p0) (fl:=true) kr gE) <| hbr 1 [40] (hnx 22 (wz [0])) <| ?_
       refine hdx 1 (wz [0])
      refine hbr 4 [62,63] (?_) ?_
      ·refine hbd fun a20 q21=>hop 7 (fun _=>Qw (enc:=(AV.int .u64)) (l:=s4.2) (n:=s1.1) (w:=1) (ob:=0) (ro:=false) (nr:=true) (fl:=true) (a:=a20) kr kr gE q21) <| hop 0 (fun _=>Xa (enc:=(AV.int .u64)) (l:=s4.2) (n:=s1.1) (w:=1) (ob:=0) (c:=0) (bx:=false) (ro:=false) (nr:=true) (fl:=true) (a:=a20) kr kr q21 gE) <| hoh 2 (fun _ _ h k=>Qeg (k:=.u64) (k':=.u64) (a:=1) (b:=zv (s4.1)) kr gE h k) <| hop 1 (fun _=>Qw (enc:=(AV.int .u64)) (l:=s4.2) (n:=s1.1) (w:=1) (ob:=0) (ro:=false) (nr:=true) (fl:=true) (a:=a20) kr kr gE q21) <| hop 0 (fun _=>Xx (enc:=(AV.int .u64)) (l:=s4.2) (n:=s1.1) (ob:=0) (w:=1) (bx:=false) (nr:=true) (fl:=true) (c:=0) (a:=a20) (a':=zv (zb a20 ||| zb (zv (1*2^min (zt (zv (s4.1))) zk))).toNat) (v:=.int .u64 (zv (zb a20 ||| zb (zv (1*2^min (zt (zv (s4.1))) zk))).toNat)) false kr kr q21 kr kr kr gE kr) <| hkl 0 [3,66,68] (ls s4.2 (zt s1.1) (zv (zb a20 ||| zb (zv (1*2^min (zt (zv (s4.1))) zk))).toNat)) <| hnx 3 (wz [0])
      refine hnx 6 (wz [0])
     refine hbd fun a23 q24=>hop 2 (fun _=>Qh (enc:=(AV.int .u64)) (l:=p0) (n:=s4.1) (fl:=true) (w:=1) (a:=a23) kr kr gE q24) <| hcl 2 [] (g_ref05_In_ok a23 s1.1) fun x25 _=>hlp 3 (fun s27=>⟨[(Qei p0),(3,.ref 0 0 s4.2.length),(4,vI s1.1),(5,vI s4.1),(6,vB s27.1),(7,vI s27.2)],[oR true 1 (AV.int .u64) s4.2],78⟩) (fun v=>(.exit 4,⟨[(Qei p0),(3,.ref 0 0 s4.2.length),(4,vI s1.1),(5,vI s4.1),(6,vB v)],[oR true 1 (AV.int .u64) s4.2],78⟩)) (wz [0]) (fun s27=>?_) fun x41=>?_
     ·refine hop 2 (fun _=>Qj (enc:=(AV.int .u64)) (l:=p0) (fl:=true) kr gE) <| hbr 1 [40] (?_) ?_
      ·refine hbr 3 [6,43,44] (hnx 19 (wz [0])) <| ?_
       refine hbd fun a32 q33=>hop 2 (fun _=>Qh (enc:=(AV.int .u64)) (l:=p0) (n:=s27.2) (fl:=true) (w:=1) (a:=a32) kr kr gE q33) <| hcl 2 [] (g_ref05_In_ok a32 s1.1) fun x34 _=>hbr 1 [50,51] (?_) ?_
       ·refine hop 2 (fun _=>Qh (enc:=(AV.int .u64)) (l:=p0) (n:=s27.2) (fl:=true) (w:=1) (a:=a32) kr kr gE q33) <| hcl 2 [] (g_ref05_In_ok a32 s4.1) fun x38 _=>hnx 6 (wz [0])
       refine hnx 12 (wz [0])
      refine hdx 1 (wz [0])
     refine hbr 4 [62,63] (?_) ?_
     ·refine hbr 2 [6,64,65] (?_) ?_
      ·refine hbd fun a46 q47=>hop 5 (fun _=>Qw (enc:=(AV.int .u64)) (l:=s4.2) (n:=s1.1) (w:=1) (ob:=0) (ro:=false) (nr:=true) (fl:=true) (a:=a46) kr kr gE q47) <| hop 0 (fun _=>Xa (enc:=(AV.int .u64)) (l:=s4.2) (n:=s1.1) (w:=1) (ob:=0) (c:=0) (bx:=false) (ro:=false) (nr:=true) (fl:=true) (a:=a46) kr kr q47 gE) <| hoh 2 (fun _ _ h k=>Qeg (k:=.u64) (k':=.u64) (a:=1) (b:=zv (s4.1)) kr gE h k) <| hop 1 (fun _=>Qw (enc:=(AV.int .u64)) (l:=s4.2) (n:=s1.1) (w:=1) (ob:=0) (ro:=false) (nr:=true) (fl:=true) (a:=a46) kr kr gE q47) <| hop 0 (fun _=>Xx (enc:=(AV.int .u64)) (l:=s4.2) (n:=s1.1) (ob:=0) (w:=1) (bx:=false) (nr:=true) (fl:=true) (c:=0) (a:=a46) (a':=zv (zb a46 ||| zb (zv (1*2^min (zt (zv (s4.1))) zk))).toNat) (v:=.int .u64 (zv (zb a46 ||| zb (zv (1*2^min (zt (zv (s4.1))) zk))).toNat)) false kr kr q47 kr kr kr gE kr) <| hkl 0 [3,66,68] (ls s4.2 (zt s1.1) (zv (zb a46 ||| zb (zv (1*2^min (zt (zv (s4.1))) zk))).toNat)) <| hnx 3 (wz [0])
      refine hnx 4 (wz [0])
     refine hnx 6 (wz [0])
    refine hdx 1 (wz [0])
   refine hnx 3 (wz [0])
  refine hdx 1 (wz [0])
 refine hrt 3
theorem Qco (p0:(List Int)) (p1:Int) (p2:Int) (p3:Int):Ct Tryd.prog 123 [eL true (AV.int .u64) p0,.int .u64 p1,.int .u64 p2,.int .u64 p3] (Y8 p0 p1 p2 p3) (fun x=>vB x) (fun x=>[]):=by
 refine hfn [] Tryd.func123 <| hcl 7 [] (g_ref05_Up_ok p0 (zv (zb (zv (zb p1 ||| zb p2).toNat) ||| zb p3).toNat)) fun x1 _=>hlp 3 (fun s3=>⟨[(0,eL true (AV.int .u64) p0),(1,.int .u64 p1),(2,.int .u64 p2),(3,.int .u64 p3),(9,.int .u64 x1),(10,.ref 0 0 s3.2.length),(11,vI s3.1)],[oR true 1 (AV.int .u64) s3.2],80⟩) (fun v=>(.exit 0,⟨[(1,.int .u64 p1),(2,.int .u64 p2),(3,.int .u64 p3),(9,.int .u64 x1),(10,.ref 0 0 v.length)],[oR true 1 (AV.int .u64) v],80⟩)) (wk_trans (wk_gc (live:=[0,1,2,3,9,10,11]) (keep:=[]) gE) (wk_trans (Ye 10 1 true true gE) (wk_gc (live:=[0,1,2,3,9,10,11]) (keep:=[0]) kr))) (fun s3=>?_) fun x13=>?_
 ·refine hop 2 (fun _=>Qj (enc:=(AV.int .u64)) (l:=p0) (fl:=true) kr gE) <| hbr 1 [27] (?_) ?_
  ·refine hbd fun a6 q7=>hop 3 (fun _=>Qh (enc:=(AV.int .u64)) (l:=p0) (n:=s3.1) (fl:=true) (w:=1) (a:=a6) kr kr gE q7) <| hcl 4 [] (g_ref05_In_ok x1 s3.1) fun x8 _=>hbr 1 [37] (?_) ?_
   ·refine hop 4 (fun _=>sgL false [] [] true gE) <| hoh 0 (fun _ _ h k=>Kp (enc:=(AV.int .u64)) (l:=s3.2) (m:=([0]:(List Int))) (w:=1) (bytes:=8) (ob:=0) (nr:=true) (fl:=true) (nr':=true) (fl':=true) (b:=.ref 1 0 1) (rds:=[1]) false kr kr kr kr gE kr h k) <| hnx 4 (wz [2])
   refine hop 3 (fun _=>sgL false [] [] true gE) <| hoh 0 (fun _ _ h k=>Kp (enc:=(AV.int .u64)) (l:=s3.2) (m:=([a6]:(List Int))) (w:=1) (bytes:=8) (ob:=0) (nr:=true) (fl:=true) (nr':=true) (fl':=true) (b:=.ref 1 0 1) (rds:=[1]) false kr kr kr kr gE kr h k) <| hnx 4 (wz [2])
  refine hdx 1 (wz [0])
 refine hcl 1 [F (AV.int .u64) x13] (Qnv x13) fun x14 _=>hlp 4 (fun s16=>⟨[(2,.int .u64 p2),(3,.int .u64 p3),(9,.int .u64 x1),(13,.ref 0 0 x14.length),(14,.int .u64 s16.1),(15,vI s16.2)],[oR true 1 (AV.int .u64) x14],80⟩) (fun v=>(.exit 2,⟨[(2,.int .u64 p2),(3,.int .u64 p3),(14,.int .u64 v)],[],80⟩)) (wz [1]) (fun s16=>?_) fun x35=>?_
 ·refine hbr 4 [48] (?_) ?_
  ·refine hlp 2 (fun s19=>⟨[(2,.int .u64 p2),(3,.int .u64 p3),(9,.int .u64 x1),(13,.ref 0 0 x14.length),(14,.int .u64 s19.1),(15,vI s16.2),(16,vI s19.2)],[oR true 1 (AV.int .u64) x14],80⟩) (fun v=>(.exit 4,⟨[(2,.int .u64 p2),(3,.int .u64 p3),(9,.int .u64 x1),(13,.ref 0 0 x14.length),(14,.int .u64 v),(15,vI s16.2)],[oR true 1 (AV.int .u64) x14],80⟩)) (wz [0]) (fun s19=>?_) fun x33=>?_
   ·refine hbr 4 [54] (?_) ?_
    ·refine hcl 3 [] (g_ref05_In_ok s19.1 s19.2) fun x22 _=>hbr 1 [59,60] (?_) ?_
     ·refine hcl 2 [] (g_ref05_In_ok p3 s19.2) fun x26 _=>hbr 2 [64,65] (?_) ?_
      ·refine hbd fun a30 q31=>hop 4 (fun _=>Qw (enc:=(AV.int .u64)) (l:=x14) (n:=s19.2) (w:=1) (ob:=0) (ro:=false) (nr:=true) (fl:=true) (a:=a30) kr kr gE q31) <| hop 0 (fun _=>Xa (enc:=(AV.int .u64)) (l:=x14) (n:=s19.2) (w:=1) (ob:=0) (c:=0) (bx:=false) (ro:=false) (nr:=true) (fl:=true) (a:=a30) kr kr q31 gE) <| hnx 7 (wz [0])
      refine hnx 4 (wz [0])
     refine hnx 9 (wz [0])
    refine hdx 1 (wz [0])
   refine hnx 3 (wz [0])
  refine hdx 1 (wz [])
 refine hrt 8
theorem Qmv (p0:(List Int)) (p1:Int) (p2:Int) (p3:Int) (p4:Int) (p5:Int):Ct Tryd.prog 75 [eL true (AV.int .u64) p0,vI p1,.int .u64 p2,.int .u64 p3,.int .u64 p4,.int .u64 p5] (Qa5 p0 p1 p2 p3 p4 p5) (fun x=>vB x) (fun x=>[]):=by
 refine hfn [] Tryd.func75 <| hcl 3 [] (g_ref32_without_ok p0 p4 0) fun x1 _=>hbr 4 [19,18] (?_) ?_
 ·refine hcl 4 [] (g_ref32_without_ok p0 p4 p3) fun x5 _=>hcl 7 [F (AV.int .u64) x5] (Qco x5 p2 p3 (zv (zb p4 ||| zb p5).toNat)) fun x7 _=>hrt 2
 refine hbr 3 [25,24] (?_) ?_
 ·refine hcl 6 [F (AV.int .u64) x1] (g_ref05_Up_ok x1 p5) fun x11 _=>hcl 2 [] (g_ref32_without_ok p0 (zv (zb p4 ||| zb (zv (zb p3 &&& ~~~ zb x11).toNat)).toNat) 0) fun x13 _=>hcl 7 [F (AV.int .u64) x13] (Qco x13 p2 p3 (zv (zb p4 ||| zb p5).toNat)) fun x15 _=>hrt 2
 refine hcl 7 [F (AV.int .u64) x1] (Qco x1 p2 p3 (zv (zb p4 ||| zb p5).toNat)) fun x17 _=>hrt 2
theorem Qpo (p0:Qc) (p1:Int) (p2:Int) (p3:Int) (p4:Int) (p5:Int):Ct Tryd.prog 32 [.agg [vI p0.Grain,eL false Ah p0.Nodes],vI p1,.int .u64 p2,.int .u64 p3,.int .u64 p4,.int .u64 p5] (J0 p0 p1 p2 p3 p4 p5) (fun x=>.tup [vB x.1,vI x.2]) (fun x=>[]):=by
 refine hfn [] Tryd.func32 <| hop 0 (fun _=>sgL false [] [] false gE) <| hcl 3 [] (g_ref05_Right_ok p0) fun x1 _=>hbr 1 [16] (hrt 4) <| ?_
 refine hop 10 (fun _=>Qj (enc:=Ah) (l:=p0.Nodes) (fl:=false) kr gE) <| hoh 1 (fun _ _ h k=>Vi (k:=.u64) (k':=.u64) (a:=zv (zb (zv (zb (zv (zb p2 ||| zb p3).toNat) ||| zb p4).toNat) ||| zb p5).toNat) (b:=zv ((zn p0.Nodes))) kr gE h k) <| hbr 2 [29,30] (hrt 47) <| ?_
 refine hbr 4 [32,33,34] (hrt 43) <| ?_
 refine hbr 4 [36,37,38] (hrt 39) <| ?_
 refine hbr 6 [42,43,44] (hrt 33) <| ?_
 refine hbr 6 [48,49,50] (hrt 27) <| ?_
 refine hbr 6 [54,55,56] (hrt 21) <| ?_
 refine hbr 6 [60,61,62] (hrt 15) <| ?_
 refine hbr 6 [66,67,68] (hrt 9) <| ?_
 refine hbr 5 [72,73] (hrt 4) <| ?_
 refine hcl 2 [] (Qdi p0) fun x23 _=>hcl 5 [F (AV.int .u64) x23] (Qmv x23 p1 p2 p3 p4 p5) fun x25 _=>hrt 3
noncomputable abbrev o74_102 (p4:(Int × Int × Int × Int)):AObj:=oX true true 4 (.agg [.int .u64 p4.1,.int .u64 p4.2.1,.int .u64 p4.2.2.1,.int .u64 p4.2.2.2])
noncomputable abbrev o74_103 (x3:(Int × Int × Int × Int)):AObj:=oX true true 4 (.agg [.int .u64 x3.1,.int .u64 x3.2.1,.int .u64 x3.2.2.1,.int .u64 x3.2.2.2])
noncomputable abbrev e74_104 (x1 x5:Qc):Nat×AV:=(34,.agg [vI x1.Grain,eL false Ah x1.Nodes,vI x5.Grain,eL false Ah x5.Nodes])
noncomputable abbrev e74_105 (x3 p4:(Int × Int × Int × Int)):Nat×AV:=(49,.agg [.int .u64 x3.1,.int .u64 x3.2.1,.int .u64 x3.2.2.1,.int .u64 x3.2.2.2,.int .u64 p4.1,.int .u64 p4.2.1,.int .u64 p4.2.2.1,.int .u64 p4.2.2.2,.int .u64 x3.1,.int .u64 x3.2.1,.int .u64 x3.2.2.1,.int .u64 p4.2.2.2])
theorem g_law32_ActRules_ok (p0:Qd) (p1:Q9) (p2:(Int × Int × Int × Int × Int × Int × Int × Int)) (p3:Int) (p4:(Int × Int × Int × Int)):Ct Tryd.prog 7 [.agg [.int .u8 p0.Grain,eL false Aj p0.Nodes,eL true (AV.int .u8) p0.Order],.agg [.int .u8 p1.What,.int .u8 p1.At,.int .u8 p1.Row,vI p1.N],.agg [.int .u8 p2.1,.int .u8 p2.2.1,.int .u8 p2.2.2.1,.int .u8 p2.2.2.2.1,.int .u8 p2.2.2.2.2.1,.int .u8 p2.2.2.2.2.2.1,.int .u8 p2.2.2.2.2.2.2.1,.int .u8 p2.2.2.2.2.2.2.2],vI p3,.agg [.int .u64 p4.1,.int .u64 p4.2.1,.int .u64 p4.2.2.1,.int .u64 p4.2.2.2]] (Qcr p0 p1 p2 p3 p4) (fun x=>vB x) (fun x=>[]):=by
 refine hfn [] Tryd.func7 <| hop 0 (fun _=>sgL false [] [] false gE) <| hcl 5 [] (g_ref05_Draft_Net_ok p0) fun x1 _=>hop 0 (fun _=>sgL false [] [] false gE) <| hcl 5 [] (g_ref32_Parts_ok (zn x1.Nodes) (p2.1,p2.2.1,p2.2.2.1,p2.2.2.2.1,p2.2.2.2.2.1,p2.2.2.2.2.2.1,p2.2.2.2.2.2.2.1,p2.2.2.2.2.2.2.2)) fun x3 _=>hcl 6 [F Ah x1.Nodes] (Qmp p1 x1) fun x5 _=>hlp 2 (fun s7=>⟨[(3,vI p3),(9,.ptr 0 0 0),(12,.ptr 1 0 0),(e74_104 x1 x5),(35,vI s7)],[(o74_102 p4),(o74_103 x3)],98⟩) (fun x=>match x with | .inl v=>(.ret,⟨[(10,vB false)],[],98⟩) | .inr v=>(.exit 0,⟨[],[],98⟩)) (wk_trans (wk_gc (live:=[3,9,12,34,35]) (keep:=[3,6,4]) gE) (wk_trans (wsn 34 [F Ah x1.Nodes]) (wk_gc (live:=[3,9,12,34,35]) (keep:=[0,1]) kr))) (fun s7=>?_) (hsm (fun x37=>?_) (fun x38=>?_))
 ·refine hbr 1 [36] (?_) ?_
  ·refine hbd fun a10 q11=>hop 1 (fun _=>Qyb (enc:=Q0f) (l:=([x1,x5]:(List Qc))) (n:=s7) (a:=a10) (w:=2) (g:=true) (v:=.agg [vI a10.Grain,eL false Ah a10.Nodes]) kr (fun _=>rfl) kr q11 kr gE) <| hop 0 (fun _=>sgL false [] [] false gE) <| hlp 14 (fun s12=>⟨[(3,vI p3),(9,.ptr 0 0 0),(12,.ptr 1 0 0),(14,.ptr 2 0 0),(e74_104 x1 x5),(35,vI s7),(e74_105 x3 p4),(50,vI s12)],[(o74_102 p4),(o74_103 x3),oX true false 2 (.agg [vI a10.Grain,eL false Ah a10.Nodes])],98⟩) (fun x=>match x with | .inl v=>(.ret,⟨[(10,vB false)],[],98⟩) | .inr v=>(.exit 2,⟨[(3,vI p3),(9,.ptr 0 0 0),(12,.ptr 1 0 0),(e74_104 x1 x5),(35,vI s7)],[(o74_102 p4),(o74_103 x3)],98⟩)) (wz [0,1,2]) (fun s12=>?_) (hsm (fun x34=>?_) (fun x35=>?_))
   ·refine hbr 1 [51] (?_) ?_
    ·refine hbd fun a15 q16=>hop 1 (fun _=>Qyb (enc:=(fun x:(Int × Int × Int × Int)=>AV.agg [.int .u64 x.1,.int .u64 x.2.1,.int .u64 x.2.2.1,.int .u64 x.2.2.2])) (l:=([(x3.1,x3.2.1,x3.2.2.1,x3.2.2.2),(p4.1,p4.2.1,p4.2.2.1,p4.2.2.2),(x3.1,x3.2.1,x3.2.2.1,p4.2.2.2)]:(List (Int × Int × Int × Int)))) (n:=s12) (a:=a15) (w:=4) (g:=true) (v:=.agg [.int .u64 a15.1,.int .u64 a15.2.1,.int .u64 a15.2.2.1,.int .u64 a15.2.2.2]) kr (fun _=>rfl) kr q16 kr gE) <| hlp 5 (fun s17=>⟨[(3,vI p3),(9,.ptr 0 0 0),(12,.ptr 1 0 0),(14,.ptr 2 0 0),(16,.ptr 3 0 0),(e74_104 x1 x5),(35,vI s7),(e74_105 x3 p4),(50,vI s12),(54,.agg [vI 1,vI 2,vI 3,vI 0,vI p3]),(55,vI s17)],[(o74_102 p4),(o74_103 x3),oX true false 2 (.agg [vI a10.Grain,eL false Ah a10.Nodes]),oX true true 4 (.agg [.int .u64 a15.1,.int .u64 a15.2.1,.int .u64 a15.2.2.1,.int .u64 a15.2.2.2])],98⟩) (fun x=>match x with | .inl v=>(.ret,⟨[(10,vB false)],[],98⟩) | .inr v=>(.exit 4,⟨[(3,vI p3),(9,.ptr 0 0 0),(12,.ptr 1 0 0),(14,.ptr 2 0 0),(e74_104 x1 x5),(35,vI s7),(e74_105 x3 p4),(50,vI s12)],[(o74_102 p4),(o74_103 x3),oX true false 2 (.agg [vI a10.Grain,eL false Ah a10.Nodes])],98⟩)) (wz [0,1,2,3]) (fun s17=>?_) (hsm (fun x31=>?_) (fun x32=>?_))
     ·refine hbr 1 [56] (?_) ?_
      ·refine hbd fun a20 q21=>hop 1 (fun _=>Qyb (enc:=eI) (l:=([1,2,3,0,p3]:(List Int))) (n:=s17) (a:=a20) (w:=1) (g:=false) (v:=vI a20) kr (fun _=>rfl) kr q21 kr gE) <| hcl 11 [] (g_act_Rule_ok a10 a20 a15.1 a15.2.1 a15.2.2.1 a15.2.2.2) fun x22 _=>hcl 15 [] (Qpo a10 a20 a15.1 a15.2.1 a15.2.2.1 a15.2.2.2) fun x24 _=>hbr 9 [88,89] (hdx 6 (wz [])) <| ?_
       refine hbr 4 [92,93] (hdx 2 (wz [])) <| ?_
       refine hnx 3 (wz [0,1,2,3])
      refine hdx 1 (wz [0,1,2])
     ·refine hdn 0
     refine hnx 2 (wz [0,1,2])
    refine hdx 1 (wz [0,1])
   ·refine hdn 0
   refine hnx 2 (wz [0,1])
  refine hdx 1 (wz [])
 ·refine hrt 0
 refine hcl 0 [] (Qnt ) fun x39 _=>hrt 2
end
end Go.Ab
namespace Go.Ab
open Go
theorem Qh7 {σ ρ:Type} {body:σ->Option (Qe σ ρ)} (I:σ->Prop) (m:σ->Nat) (Q:ρ->Prop)
  (step:∀s,I s->(∃s',body s=some (.next s')/\I s'/\m s' < m s)\/(∃r,body s=some (.done r)/\Q r)) :
  ∀(n:Nat) (s:σ),I s->m s < n->∃r,Qb n body s=some r/\Q r
 | 0,s,_,h=>by omega
 | n+1,s,hI,h=>by
  unfold Qb
  rcases step s hI with ⟨s',h1,h2,h3⟩ | ⟨r,h1,h2⟩
  ·rw [h1]
   exact Qh7 I m Q step n s' h2 (by omega)
  rw [h1]
  exact ⟨r,rfl,h2⟩
theorem Vr {σ ρ:Type} {body:σ->Option (Qe σ ρ)} (I:σ->Prop) (m:σ->Nat) (Q:ρ->Prop)
  (step:∀s,I s->(∃s',body s=some (.next s')/\I s'/\m s' < m s)\/(∃r,body s=some (.done r)/\Q r)) (s:σ) (hI:I s) (hm:m s < 1152921504606846976):∃r,Qb fuel body s=some r/\Q r :=
 Qh7 I m Q step fuel s hI hm
theorem Qtt {σ ρ:Type} {body:σ->Option (Qe σ ρ)} (f:Nat -> σ) (n:Nat) (r:ρ) (step:∀k,k < n->body (f k)=some (.next (f (k+1)))) (done:body (f n)=some (.done r)) (hn:n < 1152921504606846976) :
  Qb fuel body (f 0)=some r:=by
 have key:∀(j N k:Nat),k+j=n->j < N->Qb N body (f k)=some r:=by
  intro j
  induction j with
  | zero =>
   intro N k hk hN
   obtain ⟨N,rfl⟩:∃M,N=M+1:=⟨N - 1,by omega⟩
   have:k=n:=by omega
   subst this
   simp [Qb,done]
  | succ j ih =>
   intro N k hk hN
   obtain ⟨N,rfl⟩:∃M,N=M+1:=⟨N - 1,by omega⟩
   simp only [Qb,step k (by omega)]
   exact ih N (k+1) (by omega) (by omega)
 exact key n fuel 0 (by omega) hn
theorem Qby {σ ρ:Type} {body:σ->Option (Qe σ ρ)} {s0:σ} (f:Nat -> σ) (n:Nat) (r:ρ) (h0:f 0=s0) (step:∀k,k < n->body (f k)=some (.next (f (k+1)))) (done:body (f n)=some (.done r)) (hn:n < 1152921504606846976) :
  Qb fuel body s0=some r:=by rw [<-h0]; exact Qtt f n r step done hn
theorem w64 {n:Int} (h:-9223372036854775808<=n/\n<=9223372036854775807):zw n=n:=by show IntKind.wrap .i64 n=n; rw [IntKind.wrap_i64]; omega
theorem Q0 {α:Type} {l:List α} {k:Nat} (h:k < l.length):lkI l (k:Int)=some l[k]:=by
 unfold lkI
 rw [aI (by omega),aR,aG h]
theorem Q2g {a b:Int} (h:0<=a):Int.tdiv a b=a / b:=Int.tdiv_eq_ediv_of_nonneg h
theorem Qbk {a b:Int} (h:0<=a):Int.tmod a b=a % b:=Int.tmod_eq_emod_of_nonneg h
end Go.Ab
namespace Go.Ab
open Go
def msk:Nat -> (Nat -> Bool)->Nat
 | 0,_=>0
 | n+1,p=>msk n p ||| (if p n then 2^n else 0)
theorem Q6 (n:Nat) (p:Nat -> Bool) (i:Nat):(msk n p).testBit i=(decide (i < n) && p i):=by
 induction n with
 | zero=>simp [msk]
 | succ n ih =>
  unfold msk
  rw [bH,ih]
  by_cases h:i=n
  ·subst h
   cases hp:p i <;> simp [hp]
  have e:decide (i < n+1)=decide (i < n):=by by_cases h2:i < n <;> simp [h2] <;> omega
  rw [e]
  cases hp:p n
  ·simp
  simp only [eM,dC]
  have e2:¬ n=i:=fun e=>h e.symm
  simp [e2]
theorem Yn {n:Nat} (h:n < 18446744073709551616):zv (n:Int)=(n:Int):=by
 simp [IntKind.wrap,IntKind.bits,IntKind.signed]; omega
theorem Vv {a:Nat} (h:a < 18446744073709551616):(zb (a:Int)).toNat = a:=by
 show (BitVec.ofInt IntKind.u64.bits (a:Int)).toNat = a
 rw [BitVec.ofInt_natCast,BitVec.toNat_ofNat]
 exact Nat.mod_eq_of_lt h
theorem Qt2 {a k:Nat}:Int.fdiv (a:Int) ((2:Int)^k)=((a / 2^k:Nat):Int):=by
 rw [Int.fdiv_eq_ediv_of_nonneg _ (by exact_mod_cast eE (2^k))]
 simp
theorem Qf0 {a k:Nat} (ha:a < 18446744073709551616) (hk:k < 64) :
  zv (zb (Int.fdiv (a:Int) (2^min (Int.toNat (k:Int)) zk)) &&& zb 1).toNat = ((a.testBit k).toNat : Int):=by
 have hb:zk=64:=rfl
 have e0:min (Int.toNat (k:Int)) zk=k:=by rw [hb,aR]; omega
 rw [e0,Qt2]
 have h1:a / 2^k < 18446744073709551616:=bX (Nat.div_le_self _ _) ha
 have e1:(zb ((a / 2^k:Nat):Int) &&& zb 1).toNat = (a / 2^k) % 2:=by
  rw [BitVec.toNat_and,Vv h1,show (zb 1).toNat = 1 from rfl,Nat.and_one_is_mod]
 rw [e1,Yn (by omega)]
 have e2:a.testBit k=((a / 2^k) % 2==1):=by rw [Nat.testBit_eq_decide_div_mod_eq]; rfl
 rw [e2]
 rcases Nat.mod_two_eq_zero_or_one (a / 2^k) with h | h <;> rw [h] <;> rfl
def cnt:Nat -> (Nat -> Bool)->Nat
 | 0,_=>0
 | n+1,p=>cnt n p+(p n).toNat
theorem Qhp {n:Nat} {p q:Nat -> Bool} (h:∀i,i < n->p i=q i):cnt n p=cnt n q:=by
 induction n with
 | zero=>rfl
 | succ n ih=>simp only [cnt]; rw [ih fun i hi=>h i (by omega),h n (by omega)]
theorem Qpt (n:Nat) (p:Nat -> Bool):cnt n p<=n:=by
 induction n with
 | zero=>exact bA _
 | succ n ih =>
  simp only [cnt]; have:(p n).toNat <= 1:=by cases p n <;> decide
  omega
theorem Qkf {n:Nat} {p q:Nat -> Bool} (h:∀i,i < n->p i=true->q i=true):cnt n p<=cnt n q:=by
 induction n with
 | zero=>exact bA _
 | succ n ih =>
  simp only [cnt]
  have h1:=ih fun i hi=>h i (by omega)
  have h2:=h n (by omega)
  cases hp:p n with
  | false =>
   have:false.toNat = 0:=rfl
   omega
  | true=>rw [h2 hp]; omega
theorem Q4n {n:Nat} {p:Nat -> Bool} {i:Nat} (hi:i < n) (h:p i=true):0 < cnt n p:=by
 induction n with
 | zero=>omega
 | succ n ih =>
  simp only [cnt]
  by_cases e:i=n
  ·subst e; rw [h]; show 0 < _+1; omega
  have:=ih (by omega); omega
theorem Qna {n v:Nat} {p:Nat -> Bool} (hv:v < n) (h:p v=true):cnt n (fun i=>p i && !decide (v=i))+1=cnt n p:=by
 induction n with
 | zero=>omega
 | succ n ih =>
  simp only [cnt]
  by_cases e:v=n
  ·subst e
   rw [Qhp (n:=v) (q:=p) fun i hi=>by simp; intro _; omega,h]
   simp
  have:=ih (by omega)
  have e2:(p n && !decide (v=n))=p n:=by simp; intro _; exact e
  rw [e2]; omega
theorem Z2 (k:Nat):(0:Int)<=(k:Int):=dB k
theorem Quz {k:Nat} (h:k < 9223372036854775807):zw ((k:Int)+1)=((k+1:Nat):Int):=by rw [w64 (by omega)]; omega
theorem Qee {τ ρ σ:Type} {n k0:Nat} (hk:k0<=n) (hn:n < 1152921504606846976) (mkS:Int->τ->σ) {body:σ->Option (Qe σ ρ)} (I:Nat -> τ->Prop) (Q:ρ->Prop)
  (step:∀(k:Nat) (t:τ),k0<=k->k < n->I k t->(∃t',body (mkS (k:Int) t)=some (.next (mkS (zw ((k:Int)+1)) t'))/\I (k+1) t')\/(∃r,body (mkS (k:Int) t)=some (.done r)/\Q r))
  (done:∀t,I n t->∃r,body (mkS (n:Int) t)=some (.done r)/\Q r) (t0:τ) (h0:I k0 t0):∃r,Qb fuel body (mkS (k0:Int) t0)=some r/\Q r:=by
 have key:∀(j N k:Nat) (t:τ),k+j=n->k0<=k->j < N->I k t->∃r,Qb N body (mkS (k:Int) t)=some r/\Q r:=by
  intro j
  induction j with
  | zero =>
   intro N k t e hk hN hI
   obtain ⟨N,rfl⟩:∃M,N=M+1:=⟨N - 1,by omega⟩
   have:k=n:=by omega
   subst this
   obtain ⟨r,b1,b2⟩:=done t hI
   simp only [Qb,b1]
   exact ⟨r,rfl,b2⟩
  | succ j ih =>
   intro N k t e hk hN hI
   obtain ⟨N,rfl⟩:∃M,N=M+1:=⟨N - 1,by omega⟩
   rcases step k t hk (by omega) hI with ⟨t',b1,b2⟩ | ⟨r,b1,b2⟩
   ·rw [Quz (by omega)] at b1
    simp only [Qb,b1]
    exact ih N (k+1) t' (by omega) (by omega) (by omega) b2
   simp only [Qb,b1]
   exact ⟨r,rfl,b2⟩
 exact key (n - k0) fuel k0 t0 (by omega) (bA _) (by show n - k0 < 1152921504606846976; omega) h0
theorem Zf {τ ρ σ:Type} {n k0:Nat} (hk:k0<=n) (hn:n < 1152921504606846976) (mkS:Int->τ->σ) {body:σ->Option (Qe σ ρ)} (T:Nat -> τ) (r:ρ)
  (step:∀(k:Nat),k0<=k->k < n->body (mkS (k:Int) (T k))=some (.next (mkS (zw ((k:Int)+1)) (T (k+1)))))
  (done:body (mkS (n:Int) (T n))=some (.done r)):Qb fuel body (mkS (k0:Int) (T k0))=some r:=by
 obtain ⟨r',h1,h2⟩:=Qee hk hn mkS (body:=body) (fun k t=>t=T k) (fun x=>x=r) (fun k t a b c=>.inl ⟨T (k+1),by rw [c]; exact step k a b,rfl⟩) (fun t h=>⟨r,by rw [h]; exact done,rfl⟩) (T k0) rfl
 rw [h1,h2]
theorem dlt {k n:Nat} (h:k < n):decide ((k:Int) < (n:Int))=true:=cV (by omega)
theorem nlt (n:Nat):¬ (decide ((n:Int) < (n:Int))=true):=by simp
def nI (l:List Nat):List Int:=l.map fun (k:Nat)=>(k:Int)
theorem Qao (l:List Nat):(nI l).length=l.length:=by simp [nI]
theorem Q3a {l:List Nat} {k:Nat} (h:k < l.length):lkI (nI l) (k:Int)=some (l[k]:Int):=by rw [Q0 (by rwa [Qao])]; simp [nI]
end Go.Ab
