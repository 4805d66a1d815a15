/- Functions. No conditions. -/
import Derived.Test.YtojklbpplceiiaaDoorProg
import Derived.Test.YtojklbpplceiiaaDoorW11
import Derived.KernelRfl
import Derived.Test.YtojklbpplceiiaaDoorW12
import Derived.Test.YtojklbpplceiiaaDoorW13
import Derived.Test.YtojklbpplceiiaaDoorEng7
set_option maxRecDepth 100000
set_option maxHeartbeats 4000000
set_option linter.all false
namespace Go.Ab
open Go Go.Proofs
section
attribute [local irreducible] RW WP
noncomputable abbrev i63_76 (p1:Int) (x3:(List Ac)):Int:=(zw ((Int.tmod (zw (p1)) (zn x3))+1))
noncomputable abbrev Qzo (p0:Ae):AObj:=oX true true 8 (.agg [.int .u8 p0.N,.int .u8 p0.Order.1,.int .u8 p0.Order.2.1,.int .u8 p0.Order.2.2.1,.int .u8 p0.Order.2.2.2.1,.int .u8 p0.Order.2.2.2.2.1,.int .u8 p0.Order.2.2.2.2.2,.int .u16 p0.Edges])
noncomputable abbrev Q00 (p1:Int) (x3 x20:(List Ac)):AObj:=oR true 3 eTapi_Fact (List.take ((zt (Int.tmod (zw (p1)) (zn x3)) - zt (0:Int))+(sub x20 (i63_76 p1 x3) (zn x20)).length) (ovr (ovr x20 (zt (Int.tmod (zw (p1)) (zn x3)) - zt (0:Int)) (sub x20 (i63_76 p1 x3) (zn x20))) (zt ((((zt (Int.tmod (zw (p1)) (zn x3)) - zt (0:Int))+(sub x20 (i63_76 p1 x3) (zn x20)).length):Nat):Int)) (List.replicate (zt (zn x20) - zt ((((zt (Int.tmod (zw (p1)) (zn x3)) - zt (0:Int))+(sub x20 (i63_76 p1 x3) (zn x20)).length):Nat):Int)) ((Ac.mk 0 0 0):Ac))))
theorem g_law31_EqualLearns_ok (p0:Ae) (p1:Int) (p2:Ac) (p3:Int) (p4:(List Ac)):Ct Tryd.prog 11 [.agg [.int .u8 p0.N,.int .u8 p0.Order.1,.int .u8 p0.Order.2.1,.int .u8 p0.Order.2.2.1,.int .u8 p0.Order.2.2.2.1,.int .u8 p0.Order.2.2.2.2.1,.int .u8 p0.Order.2.2.2.2.2,.int .u16 p0.Edges],.int .u8 p1,.agg [vI p2.X,vI p2.Y,.int .u64 p2.Z],vI p3,eL true eTapi_Fact p4] (Qbd p0 p1 p2 p3 p4) (fun x=>vB x) (fun x=>[]):=by
 refine hfn [] Tryd.func11 <| hcl 4 [] (g_ref31_Draft_Graph_ok (Ae.mk p0.N (p0.Order.1,p0.Order.2.1,p0.Order.2.2.1,p0.Order.2.2.2.1,p0.Order.2.2.2.2.1,p0.Order.2.2.2.2.2) p0.Edges) 5) fun x1 _=>hcl 2 [F (AV.int .u64) x1] (Qoh x1) fun x3 _=>hcl 2 [F eTapi_Fact x3] (g_slices_Clone_api_Fact_api_Fact_ok x3) fun x5 _=>hil 2 Tryd.func44 <| hlp 5 (fun s7=>⟨[(0,.ref 4 0 s7.2.2.length),(2,vI s7.1),(3,vI s7.2.1)],[(Qzo p0),oX true true 3 (.agg [vI p2.X,vI p2.Y,.int .u64 p2.Z]),oR true 1 (AV.int .u64) x1,oR true 3 eTapi_Fact x3,oR true 3 eTapi_Fact s7.2.2],28⟩) (fun v=>(.exit 0,⟨[],[(Qzo p0),oX true true 3 (.agg [vI p2.X,vI p2.Y,.int .u64 p2.Z]),oR true 1 (AV.int .u64) x1,oR true 3 eTapi_Fact x3,oR true 3 eTapi_Fact v],28⟩)) (wz []) (fun s7=>?_) fun x19=>?_
 ·refine hbr 3 [9] (?_) ?_
  ·refine hbd fun a10 q11=>hop 8 (fun _=>Qq (enc:=eTapi_Fact) (l:=s7.2.2) (n:=s7.2.1) (w:=3) (ob:=4) (ro:=false) (nr:=true) (fl:=true) (a:=a10) kr kr gE q11) <| hop 0 (fun _=>Zn (enc:=eTapi_Fact) (l:=s7.2.2) (n:=s7.2.1) (w:=3) (ob:=4) (c:=0) (bx:=false) (ro:=false) (nr:=true) (fl:=true) (a:=a10) kr kr q11 gE) <| hbd fun a12 q13=>hop 2 (fun _=>Qq (enc:=eTapi_Fact) (l:=s7.2.2) (n:=s7.1) (w:=3) (ob:=4) (ro:=false) (nr:=true) (fl:=true) (a:=a12) kr kr gE q13) <| hop 0 (fun _=>Zn (enc:=eTapi_Fact) (l:=s7.2.2) (n:=s7.1) (w:=3) (ob:=4) (c:=0) (bx:=false) (ro:=false) (nr:=true) (fl:=true) (a:=a12) kr kr q13 gE) <| hop 0 (fun _=>Qq (enc:=eTapi_Fact) (l:=s7.2.2) (n:=s7.1) (w:=3) (ob:=4) (ro:=false) (nr:=true) (fl:=true) (a:=a12) kr kr gE q13) <| hop 0 (fun _=>Xd (enc:=eTapi_Fact) (l:=s7.2.2) (n:=s7.1) (ob:=4) (w:=3) (bx:=false) (nr:=true) (fl:=true) (c:=0) (a:=a12) (a':=a10) (v:=.agg [vI a10.X,vI a10.Y,.int .u64 a10.Z]) false kr kr q13 kr kr kr gE kr) <| hkl 0 [0,14,16,18,22] (ls s7.2.2 (zt s7.1) a10) <| ?_
   refine hbd fun a14 q15=>hop 0 (fun _=>Qq (enc:=eTapi_Fact) (l:=(List.set s7.2.2 (zt s7.1) a10)) (n:=s7.2.1) (w:=3) (ob:=4) (ro:=false) (nr:=true) (fl:=true) (a:=a14) kr kr gE q15) <| hop 0 (fun _=>Xd (enc:=eTapi_Fact) (l:=(List.set s7.2.2 (zt s7.1) a10)) (n:=s7.2.1) (ob:=4) (w:=3) (bx:=false) (nr:=true) (fl:=true) (c:=0) (a:=a14) (a':=a12) (v:=.agg [vI a12.X,vI a12.Y,.int .u64 a12.Z]) false kr kr q15 kr kr kr gE kr) <| hkl 0 [0,14,16,18,22] (ls (List.set s7.2.2 (zt s7.1) a10) (zt s7.2.1) a12) <| hnx 6 (wz [])
  refine hdx 1 (wz [])
 refine hcl 1 [F eTapi_Fact x3] (g_slices_Clone_api_Fact_api_Fact_ok x3) fun x20 _=>hcl 1 [F eTapi_Fact x3] (g_slices_Clone_api_Fact_api_Fact_ok x3) fun x22 _=>hbs 2 [.lst true] false [F eTapi_Fact x3,F eTapi_Fact x3] <| hcl 0 [] (g_slices_Concat_api_Fact_api_Fact_ok [x3,x3]) fun x24 _=>hbr 6 [43] (?_) ?_
 ·refine hoh 5 (fun _ _ h k=>Q7w (k:=.i64) (a:=zw (p1)) (b:=(zn x3)) kr gE h k) <| hil 5 Tryd.func46 <| hoh 6 (fun _ _ h k=>Q43 (enc:=eTapi_Fact) (l:=x20) (ob:=5) (ro:=false) (nr:=true) (fl:=true) (k1:=.i64) (k2:=.i64) (k3:=.i64) (a:=Int.tmod (zw (p1)) (zn x3)) (b:=zw ((Int.tmod (zw (p1)) (zn x3))+1)) (c:=(zn x20)) (w:=3) kr kr gE h k) <| hbr 3 [16] (hnn) <| ?_
  refine hoq 7 (fun _ _ h k=>Qvh (enc:=eTapi_Fact) (l:=x20) (ob:=5) (ro:=false) (nr:=true) (fl:=true) (lo:=none) (hi:=(some (vI (Int.tmod (zw (p1)) (zn x3))))) (a:=0) (b:=Int.tmod (zw (p1)) (zn x3)) (w:=3) kr kr kr kr gE h k) fun _=>hoq 2 (fun _ _ h k=>Qvh (enc:=eTapi_Fact) (l:=x20) (ob:=5) (ro:=false) (nr:=true) (fl:=true) (lo:=(some (vI (i63_76 p1 x3)))) (hi:=none) (a:=zw ((Int.tmod (zw (p1)) (zn x3))+1)) (b:=(zn x20)) (w:=3) kr kr kr kr gE h k) fun q31=>hoq 0 (fun _ _ h k=>Q8t (enc:=eTapi_Fact) (l:=x20) (m:=(sub x20 (i63_76 p1 x3) (zn x20))) (w:=3) (bytes:=24) (ob:=5) (n0:=(zt (Int.tmod (zw (p1)) (zn x3)) - zt (0:Int))) (nr:=true) (fl:=true) (b:=.ref 5 (zt (i63_76 p1 x3)) (zt (zn x20) - zt (i63_76 p1 x3))) (rds:=[5]) kr kr (Qx4 (a:=zw ((Int.tmod (zw (p1)) (zn x3))+1)) (b:=(zn x20)) (ro:=false) kr q31) kr gE kr h k) fun q32=>hkl 0 [0,8,11,18,20,23] (show x20.length=(ovr x20 (zt (Int.tmod (zw (p1)) (zn x3)) - zt (0:Int)) (sub x20 (i63_76 p1 x3) (zn x20))).length from (Qgl ..)) <| hoq 5 (fun _ _ h k=>Q6x (enc:=eTapi_Fact) (l:=(ovr x20 (zt (Int.tmod (zw (p1)) (zn x3)) - zt (0:Int)) (sub x20 (i63_76 p1 x3) (zn x20)))) (ob:=5) (n:=((zt (Int.tmod (zw (p1)) (zn x3)) - zt (0:Int))+(sub x20 (i63_76 p1 x3) (zn x20)).length)) (ro:=false) (nr:=true) (fl:=true) (lo:=(some (vI ((((zt (Int.tmod (zw (p1)) (zn x3)) - zt (0:Int))+(sub x20 (i63_76 p1 x3) (zn x20)).length):Nat):Int)))) (hi:=(some (vI (zn x20)))) (a:=((((zt (Int.tmod (zw (p1)) (zn x3)) - zt (0:Int))+(sub x20 (i63_76 p1 x3) (zn x20)).length):Nat):Int)) (b:=(zn x20)) (w:=3) kr kr kr kr gE h k) fun _=>hoh 0 (fun _ _ h k=>Q6i (enc:=eTapi_Fact) (z0:=((Ac.mk 0 0 0):Ac)) (w:=3) (l:=(ovr x20 (zt (Int.tmod (zw (p1)) (zn x3)) - zt (0:Int)) (sub x20 (i63_76 p1 x3) (zn x20)))) (ob:=5) (i0:=(zt ((((zt (Int.tmod (zw (p1)) (zn x3)) - zt (0:Int))+(sub x20 (i63_76 p1 x3) (zn x20)).length):Nat):Int))) (n0:=(zt (zn x20) - zt ((((zt (Int.tmod (zw (p1)) (zn x3)) - zt (0:Int))+(sub x20 (i63_76 p1 x3) (zn x20)).length):Nat):Int))) (nr:=true) (fl:=true) kr kr gE kr kr kr h k) <| hkl 0 [8,11,18,20,23] (show (ovr x20 (zt (Int.tmod (zw (p1)) (zn x3)) - zt (0:Int)) (sub x20 (i63_76 p1 x3) (zn x20))).length=(ovr (ovr x20 (zt (Int.tmod (zw (p1)) (zn x3)) - zt (0:Int)) (sub x20 (i63_76 p1 x3) (zn x20))) (zt ((((zt (Int.tmod (zw (p1)) (zn x3)) - zt (0:Int))+(sub x20 (i63_76 p1 x3) (zn x20)).length):Nat):Int)) (List.replicate (zt (zn x20) - zt ((((zt (Int.tmod (zw (p1)) (zn x3)) - zt (0:Int))+(sub x20 (i63_76 p1 x3) (zn x20)).length):Nat):Int)) ((Ac.mk 0 0 0):Ac))).length from (Qgl ..)) <| hwk 2 (wl [6] []) <| hbd fun a36 q37=>?_
  refine hop 5 (fun _=>Qq (enc:=eTapi_Fact) (l:=x22) (n:=Int.tmod (zw (p1)) (zn x3)) (w:=3) (ob:=6) (ro:=false) (nr:=true) (fl:=true) (a:=a36) kr kr gE q37) <| hbd fun a38 q39=>hop 0 (fun _=>Xd (enc:=eTapi_Fact) (l:=x22) (n:=(Int.tmod (zw (p1)) (zn x3))) (ob:=6) (w:=3) (bx:=false) (nr:=true) (fl:=true) (c:=0) (a:=a38) (a':=p2) (v:=.agg [vI p2.X,vI p2.Y,.int .u64 p2.Z]) false kr kr q39 kr kr kr gE kr) <| hkl 0 [36,15,54] (ls x22 (zt (Int.tmod (zw (p1)) (zn x3))) p2) <| hop 2 (fun _=>Qn (enc:=eTapi_Fact) (l:=p4) (fl:=true) kr gE) <| hoh 1 (fun _ _ h k=>Q0l (enc:=eTapi_Fact) (l:=p4) (fl:=true) (lo:=none) (hi:=(some (vI (if 12 < (zn p4) then 12 else (zn p4))))) (a:=0) (b:=(if 12 < (zn p4) then 12 else (zn p4))) (w:=3) kr (fun _=>rfl) kr kr gE h k) <| hwk 1 (wsn 12 [F eTapi_Fact x3]) <| hcl 8 [] (g_slices_Clone_api_Fact_api_Fact_ok x3) fun x40 _=>hop 1 (fun _=>sgL false [] [] true gE) <| ?_
  refine hoh 0 (fun _ _ h k=>V5 (enc:=eTapi_Fact) (l:=x40) (m:=([p2]:(List Ac))) (w:=3) (bytes:=24) (ob:=9) (nr:=true) (fl:=true) (nr':=true) (fl':=true) (b:=.ref 10 0 1) (rds:=[10]) false kr kr kr kr gE kr h k) <| hwk 2 (wl [3,11,74,75] [2,4,5,6,8,11]) <| hwk 0 (Qwu 2 ((zt (Int.tmod (zw (p1)) (zn x3)) - zt (0:Int))+(sub x20 (i63_76 p1 x3) (zn x20)).length) (nr:=true) (fl:=true) (w:=3) (enc:=eTapi_Fact) (l:=(ovr (ovr x20 (zt (Int.tmod (zw (p1)) (zn x3)) - zt (0:Int)) (sub x20 (i63_76 p1 x3) (zn x20))) (zt ((((zt (Int.tmod (zw (p1)) (zn x3)) - zt (0:Int))+(sub x20 (i63_76 p1 x3) (zn x20)).length):Nat):Int)) (List.replicate (zt (zn x20) - zt ((((zt (Int.tmod (zw (p1)) (zn x3)) - zt (0:Int))+(sub x20 (i63_76 p1 x3) (zn x20)).length):Nat):Int)) ((Ac.mk 0 0 0):Ac)))) kr rfl) <| hkn 0 (fun n42=>⟨[(3,vI p3),(11,.ref 0 0 x1.length),(74,.agg [eL true eTapi_Fact x3,.ref 1 0 x5.length,.ref 2 0 n42,.ref 3 0 ((List.set x22 (zt (Int.tmod (zw (p1)) (zn x3))) p2).length),.ref 4 0 x24.length,eL true eTapi_Fact (sub p4 0 (if 12 < (zn p4) then 12 else (zn p4))),.ref 5 0 ((x40++([p2]:(List Ac))).length)]),(75,vI 0)],[oR true 1 (AV.int .u64) x1,oR true 3 eTapi_Fact x19,(Q00 p1 x3 x20),oR true 3 eTapi_Fact (List.set x22 (zt (Int.tmod (zw (p1)) (zn x3))) p2),oR true 3 eTapi_Fact x24,oR true 3 eTapi_Fact (x40++([p2]:(List Ac)))],107⟩) (show ((zt (Int.tmod (zw (p1)) (zn x3)) - zt (0:Int))+(sub x20 (i63_76 p1 x3) (zn x20)).length)=(List.take ((zt (Int.tmod (zw (p1)) (zn x3)) - zt (0:Int))+(sub x20 (i63_76 p1 x3) (zn x20)).length) (ovr (ovr x20 (zt (Int.tmod (zw (p1)) (zn x3)) - zt (0:Int)) (sub x20 (i63_76 p1 x3) (zn x20))) (zt ((((zt (Int.tmod (zw (p1)) (zn x3)) - zt (0:Int))+(sub x20 (i63_76 p1 x3) (zn x20)).length):Nat):Int)) (List.replicate (zt (zn x20) - zt ((((zt (Int.tmod (zw (p1)) (zn x3)) - zt (0:Int))+(sub x20 (i63_76 p1 x3) (zn x20)).length):Nat):Int)) ((Ac.mk 0 0 0):Ac)))).length from Qz9 (cD (cD q32.2 (Nat.le_of_eq (Qgl ..))) (Nat.le_of_eq (Qgl ..)))) <| hsq 0 (fun n76=>⟨[(3,vI p3),(11,.ref 0 0 x1.length),(74,.agg [eL true eTapi_Fact x3,.ref 1 0 n76,.ref 2 0 ((List.take ((zt (Int.tmod (zw (p1)) (zn x3)) - zt (0:Int))+(sub x20 (i63_76 p1 x3) (zn x20)).length) (ovr (ovr x20 (zt (Int.tmod (zw (p1)) (zn x3)) - zt (0:Int)) (sub x20 (i63_76 p1 x3) (zn x20))) (zt ((((zt (Int.tmod (zw (p1)) (zn x3)) - zt (0:Int))+(sub x20 (i63_76 p1 x3) (zn x20)).length):Nat):Int)) (List.replicate (zt (zn x20) - zt ((((zt (Int.tmod (zw (p1)) (zn x3)) - zt (0:Int))+(sub x20 (i63_76 p1 x3) (zn x20)).length):Nat):Int)) ((Ac.mk 0 0 0):Ac)))).length),.ref 3 0 ((List.set x22 (zt (Int.tmod (zw (p1)) (zn x3))) p2).length),.ref 4 0 x24.length,eL true eTapi_Fact (sub p4 0 (if 12 < (zn p4) then 12 else (zn p4))),.ref 5 0 ((x40++([p2]:(List Ac))).length)]),(75,vI 0)],[oR true 1 (AV.int .u64) x1,oR true 3 eTapi_Fact x19,(Q00 p1 x3 x20),oR true 3 eTapi_Fact (List.set x22 (zt (Int.tmod (zw (p1)) (zn x3))) p2),oR true 3 eTapi_Fact x24,oR true 3 eTapi_Fact (x40++([p2]:(List Ac)))],107⟩) <| hlp 0 (fun s44=>⟨[(3,vI p3),(11,.ref 0 0 x1.length),(74,.agg [eL true eTapi_Fact x3,eL true eTapi_Fact x19,eL true eTapi_Fact (List.take ((zt (Int.tmod (zw (p1)) (zn x3)) - zt (0:Int))+(sub x20 (i63_76 p1 x3) (zn x20)).length) (ovr (ovr x20 (zt (Int.tmod (zw (p1)) (zn x3)) - zt (0:Int)) (sub x20 (i63_76 p1 x3) (zn x20))) (zt ((((zt (Int.tmod (zw (p1)) (zn x3)) - zt (0:Int))+(sub x20 (i63_76 p1 x3) (zn x20)).length):Nat):Int)) (List.replicate (zt (zn x20) - zt ((((zt (Int.tmod (zw (p1)) (zn x3)) - zt (0:Int))+(sub x20 (i63_76 p1 x3) (zn x20)).length):Nat):Int)) ((Ac.mk 0 0 0):Ac)))),eL true eTapi_Fact (List.set x22 (zt (Int.tmod (zw (p1)) (zn x3))) p2),eL true eTapi_Fact x24,eL true eTapi_Fact (sub p4 0 (if 12 < (zn p4) then 12 else (zn p4))),eL true eTapi_Fact (x40++([p2]:(List Ac)))]),(75,vI s44)],[oR true 1 (AV.int .u64) x1],107⟩) (fun x=>match x with | .inl v=>(.ret,⟨[(10,vB false)],[],107⟩) | .inr v=>(.exit 0,⟨[],[],107⟩)) (wk_trans (wk_gc (live:=[3,11,74,75]) (keep:=[0,1,2,3,4,5]) gE) (wk_trans (wsn 74 [F eTapi_Fact x19,F eTapi_Fact (List.take ((zt (Int.tmod (zw (p1)) (zn x3)) - zt (0:Int))+(sub x20 (i63_76 p1 x3) (zn x20)).length) (ovr (ovr x20 (zt (Int.tmod (zw (p1)) (zn x3)) - zt (0:Int)) (sub x20 (i63_76 p1 x3) (zn x20))) (zt ((((zt (Int.tmod (zw (p1)) (zn x3)) - zt (0:Int))+(sub x20 (i63_76 p1 x3) (zn x20)).length):Nat):Int)) (List.replicate (zt (zn x20) - zt ((((zt (Int.tmod (zw (p1)) (zn x3)) - zt (0:Int))+(sub x20 (i63_76 p1 x3) (zn x20)).length):Nat):Int)) ((Ac.mk 0 0 0):Ac)))),F eTapi_Fact (List.set x22 (zt (Int.tmod (zw (p1)) (zn x3))) p2),F eTapi_Fact x24,F eTapi_Fact (x40++([p2]:(List Ac)))]) (wk_gc (live:=[3,11,74,75]) (keep:=[0]) kr))) (fun s44=>?_) (hsm (fun x72=>?_) (fun x73=>?_))
  ·refine hbr 1 [76] (?_) ?_
   ·refine hbd fun a47 q48=>hop 2 (fun _=>Q6n (enc:=(eL true eTapi_Fact)) (l:=([x3,x19,(List.take ((zt (Int.tmod (zw (p1)) (zn x3)) - zt (0:Int))+(sub x20 (i63_76 p1 x3) (zn x20)).length) (ovr (ovr x20 (zt (Int.tmod (zw (p1)) (zn x3)) - zt (0:Int)) (sub x20 (i63_76 p1 x3) (zn x20))) (zt ((((zt (Int.tmod (zw (p1)) (zn x3)) - zt (0:Int))+(sub x20 (i63_76 p1 x3) (zn x20)).length):Nat):Int)) (List.replicate (zt (zn x20) - zt ((((zt (Int.tmod (zw (p1)) (zn x3)) - zt (0:Int))+(sub x20 (i63_76 p1 x3) (zn x20)).length):Nat):Int)) ((Ac.mk 0 0 0):Ac)))),(List.set x22 (zt (Int.tmod (zw (p1)) (zn x3))) p2),x24,(sub p4 0 (if 12 < (zn p4) then 12 else (zn p4))),(x40++([p2]:(List Ac)))]:(List (List Ac)))) (n:=s44) (a:=a47) (w:=1) (g:=false) (v:=eL true eTapi_Fact a47) kr (fun _=>rfl) kr q48 kr gE) <| hbr 7 [82] (?_) ?_
    ·refine hcl 5 [] (g_equal_Learn_ok p3 a47) fun x51 _=>hop 3 (fun _=>sgL false [] [] false gE) <| hcl 4 [] (g_ref31_Learn_ok p3 a47) fun x53 _=>hop 3 (fun _=>sgL false [] [] false gE) <| hbr 6 [98,99] (hdx 7 (wz [])) <| ?_
     refine hcl 2 [F zp x51.1.Arrows,F zp x51.1.Lines,F zp x53.1.Arrows,F zp x53.1.Lines] (g_ref31_SameEssential_ok x51.1 x53.1) fun x57 _=>hbr 2 [103,104] (hdx 2 (wz [])) <| ?_
     refine hnx 3 (wz [0])
    refine hcl 3 [] (g_equal_Learn_ok (zn x1) a47) fun x61 _=>hop 3 (fun _=>sgL false [] [] false gE) <| hcl 4 [] (g_ref31_Learn_ok (zn x1) a47) fun x63 _=>hop 3 (fun _=>sgL false [] [] false gE) <| hbr 6 [98,99] (hdx 7 (wz [])) <| ?_
    refine hcl 2 [F zp x61.1.Arrows,F zp x61.1.Lines,F zp x63.1.Arrows,F zp x63.1.Lines] (g_ref31_SameEssential_ok x61.1 x63.1) fun x67 _=>hbr 2 [103,104] (hdx 2 (wz [])) <| ?_
    refine hnx 3 (wz [0])
   refine hdx 1 (wz [])
  ·refine hrt 0
  refine hcl 0 [] (Qg6 ) fun x74 _=>hrt 2
 refine hop 3 (fun _=>Qn (enc:=eTapi_Fact) (l:=p4) (fl:=true) kr gE) <| hoh 1 (fun _ _ h k=>Q0l (enc:=eTapi_Fact) (l:=p4) (fl:=true) (lo:=none) (hi:=(some (vI (if 12 < (zn p4) then 12 else (zn p4))))) (a:=0) (b:=(if 12 < (zn p4) then 12 else (zn p4))) (w:=3) kr (fun _=>rfl) kr kr gE h k) <| hwk 1 (wsn 12 [F eTapi_Fact x3]) <| hcl 8 [] (g_slices_Clone_api_Fact_api_Fact_ok x3) fun x78 _=>hop 1 (fun _=>sgL false [] [] true gE) <| hoh 0 (fun _ _ h k=>V5 (enc:=eTapi_Fact) (l:=x78) (m:=([p2]:(List Ac))) (w:=3) (bytes:=24) (ob:=9) (nr:=true) (fl:=true) (nr':=true) (fl':=true) (b:=.ref 10 0 1) (rds:=[10]) false kr kr kr kr gE kr h k) <| hwk 2 (wl [3,11,74,75] [2,4,5,6,8,11]) <| hsq 0 (fun n113=>⟨[(3,vI p3),(11,.ref 0 0 x1.length),(74,.agg [eL true eTapi_Fact x3,.ref 1 0 n113,.ref 2 0 x20.length,.ref 3 0 x22.length,.ref 4 0 x24.length,eL true eTapi_Fact (sub p4 0 (if 12 < (zn p4) then 12 else (zn p4))),.ref 5 0 ((x78++([p2]:(List Ac))).length)]),(75,vI 0)],[oR true 1 (AV.int .u64) x1,oR true 3 eTapi_Fact x19,oR true 3 eTapi_Fact x20,oR true 3 eTapi_Fact x22,oR true 3 eTapi_Fact x24,oR true 3 eTapi_Fact (x78++([p2]:(List Ac)))],107⟩) <| hlp 0 (fun s81=>⟨[(3,vI p3),(11,.ref 0 0 x1.length),(74,.agg [eL true eTapi_Fact x3,eL true eTapi_Fact x19,eL true eTapi_Fact x20,eL true eTapi_Fact x22,eL true eTapi_Fact x24,eL true eTapi_Fact (sub p4 0 (if 12 < (zn p4) then 12 else (zn p4))),eL true eTapi_Fact (x78++([p2]:(List Ac)))]),(75,vI s81)],[oR true 1 (AV.int .u64) x1],107⟩) (fun x=>match x with | .inl v=>(.ret,⟨[(10,vB false)],[],107⟩) | .inr v=>(.exit 0,⟨[],[],107⟩)) (wk_trans (wk_gc (live:=[3,11,74,75]) (keep:=[0,1,2,3,4,5]) gE) (wk_trans (wsn 74 [F eTapi_Fact x19,F eTapi_Fact x20,F eTapi_Fact x22,F eTapi_Fact x24,F eTapi_Fact (x78++([p2]:(List Ac)))]) (wk_gc (live:=[3,11,74,75]) (keep:=[0]) kr))) (fun s81=>?_) (hsm (fun x109=>?_) (fun x110=>?_))
 ·refine hbr 1 [76] (?_) ?_
  ·refine hbd fun a84 q85=>hop 2 (fun _=>Q6n (enc:=(eL true eTapi_Fact)) (l:=([x3,x19,x20,x22,x24,(sub p4 0 (if 12 < (zn p4) then 12 else (zn p4))),(x78++([p2]:(List Ac)))]:(List (List Ac)))) (n:=s81) (a:=a84) (w:=1) (g:=false) (v:=eL true eTapi_Fact a84) kr (fun _=>rfl) kr q85 kr gE) <| hbr 7 [82] (?_) ?_
   ·refine hcl 5 [] (g_equal_Learn_ok p3 a84) fun x88 _=>hop 3 (fun _=>sgL false [] [] false gE) <| hcl 4 [] (g_ref31_Learn_ok p3 a84) fun x90 _=>hop 3 (fun _=>sgL false [] [] false gE) <| hbr 6 [98,99] (hdx 7 (wz [])) <| ?_
    refine hcl 2 [F zp x88.1.Arrows,F zp x88.1.Lines,F zp x90.1.Arrows,F zp x90.1.Lines] (g_ref31_SameEssential_ok x88.1 x90.1) fun x94 _=>hbr 2 [103,104] (hdx 2 (wz [])) <| ?_
    refine hnx 3 (wz [0])
   refine hcl 3 [] (g_equal_Learn_ok (zn x1) a84) fun x98 _=>hop 3 (fun _=>sgL false [] [] false gE) <| hcl 4 [] (g_ref31_Learn_ok (zn x1) a84) fun x100 _=>hop 3 (fun _=>sgL false [] [] false gE) <| hbr 6 [98,99] (hdx 7 (wz [])) <| ?_
   refine hcl 2 [F zp x98.1.Arrows,F zp x98.1.Lines,F zp x100.1.Arrows,F zp x100.1.Lines] (g_ref31_SameEssential_ok x98.1 x100.1) fun x104 _=>hbr 2 [103,104] (hdx 2 (wz [])) <| ?_
   refine hnx 3 (wz [0])
  refine hdx 1 (wz [])
 ·refine hrt 0
 refine hcl 0 [] (Qg6 ) fun x111 _=>hrt 2
end
end Go.Ab
namespace Go.Ab
open Go
def msk:Nat -> (Nat -> Bool)->Nat
 | 0,_=>0
 | n+1,p=>msk n p ||| (if p n then 2^n else 0)
theorem Qv (n:Nat) (p:Nat -> Bool) (i:Nat):(msk n p).testBit i=(decide (i < n) && p i):=by
 induction n with
 | zero=>simp [msk]
 | succ n ih =>
  unfold msk
  rw [bJ,ih]
  by_cases h:i=n
  ·subst h
   cases hp:p i <;> simp [hp]
  have e:decide (i < n+1)=decide (i < n):=by by_cases h2:i < n <;> simp [h2] <;> omega
  rw [e]
  cases hp:p n
  ·simp
  simp only [eU,Nat.testBit_two_pow]
  have e2:¬ n=i:=fun e=>h e.symm
  simp [e2]
theorem msk_lt (n:Nat) (p:Nat -> Bool):msk n p < 2^n:=by
 induction n with
 | zero=>simp [msk]
 | succ n ih =>
  unfold msk
  refine eM (bR ih (aW (by omega) (by omega))) ?_
  split
  ·exact eV (by omega) (by omega)
  exact Nat.two_pow_pos _
theorem Qdw {n:Nat} {p:Nat -> Bool} {a:Nat} (ha:a < 2^n) (h:∀i,i < n->a.testBit i=p i):a=msk n p:=by
 apply eE
 intro i
 rw [Qv]
 by_cases hi:i < n
 ·simp [hi,h i hi]
 rw [Nat.testBit_lt_two_pow (bR ha (aW (by omega) (by omega)))]; simp [hi]
theorem Zs {n:Nat} {p q:Nat -> Bool} (h:∀i,i < n->p i=q i):msk n p=msk n q :=
 Qdw (msk_lt n p) fun i hi=>by rw [Qv,h i hi]; simp [hi]
theorem Qzl {n a:Nat} (hn:n<=10) (ha:a < 2^n):a < 1024:=bR ha (aW (n:=2) (by omega) hn)
theorem Q7n {n a:Nat} (hn:n<=10) (ha:a < 2^n):a < 18446744073709551616:=by have:=Qzl hn ha; omega
theorem Qb8 {n:Nat} (h:n < 18446744073709551616):zv (n:Int)=(n:Int):=by
 simp [IntKind.wrap,IntKind.bits,IntKind.signed]; omega
theorem Qbu {a:Nat} (h:a < 18446744073709551616):(zb (a:Int)).toNat = a:=by
 show (BitVec.ofInt IntKind.u64.bits (a:Int)).toNat = a
 rw [BitVec.ofInt_natCast,BitVec.toNat_ofNat]
 exact Nat.mod_eq_of_lt h
theorem Js {a k:Nat}:Int.fdiv (a:Int) ((2:Int)^k)=((a / 2^k:Nat):Int):=by
 rw [Int.fdiv_eq_ediv_of_nonneg _ (by exact_mod_cast eP (2^k))]
 simp
theorem Qzs {a j:Nat} (h:a < 18446744073709551616):(zb (a:Int)).getLsbD j=a.testBit j:=by unfold BitVec.getLsbD; rw [Qbu h]
theorem K3 {v:Nat} (hv:v < 64):zv (1*2^min (Int.toNat (v:Int)) zk)=((2^v:Nat):Int):=by
 have hb:zk=64:=rfl
 have e0:min (Int.toNat (v:Int)) zk=v:=by rw [hb,aS]; omega
 have hp:2^v < 18446744073709551616:=eV (n:=64) (by omega) hv
 rw [e0,show (1:Int)*2^v=((2^v:Nat):Int) by simp,Qb8 hp]
theorem Qac {v:Nat} (hv:v < 64):2^v < 18446744073709551616:=eV (n:=64) (by omega) hv
theorem Qt0 {n:Nat} {p q:Nat -> Bool} {a b:Nat} (hn:n<=64) (ha:a < 2^n) (hb:b < 18446744073709551616) (hp:∀i,i < n->a.testBit i=p i) (hq:∀i,i < n->b.testBit i=q i) :
  zv (zb (a:Int) &&& ~~~ zb (b:Int)).toNat = ((msk n fun i=>p i && !q i:Nat):Int):=by
 have ha':a < 18446744073709551616:=bR ha (aW (n:=2) (by omega) hn)
 have h1:(zb (a:Int) &&& ~~~ zb (b:Int)).toNat < 18446744073709551616:=BitVec.isLt _
 rw [Qb8 h1]
 congr 1
 refine Qdw ?_ fun i hi=>?_
 ·refine cC ?_ ha
  rw [BitVec.toNat_and,Qbu ha']
  exact Nat.and_le_left
 ·have:i < 64:=by omega
  have e:(zb (a:Int) &&& ~~~ zb (b:Int)).toNat.testBit i=(zb (a:Int) &&& ~~~ zb (b:Int)).getLsbD i:=rfl
  rw [e,BitVec.getLsbD_and,BitVec.getLsbD_not,Qzs ha',Qzs hb,hp i hi,hq i hi]
  have h64:i < zk:=this
  simp [h64]
theorem Q9c {n:Nat} {p q:Nat -> Bool} {a b:Nat} (hn:n<=64) (ha:a < 2^n) (hb:b < 2^n) (hp:∀i,i < n->a.testBit i=p i) (hq:∀i,i < n->b.testBit i=q i) :
  zv (zb (a:Int) ||| zb (b:Int)).toNat = ((msk n fun i=>p i || q i:Nat):Int):=by
 have h64:2^n<=2^64:=aW (n:=2) (by omega) hn
 have ha':a < 18446744073709551616:=bR ha h64
 have hb':b < 18446744073709551616:=bR hb h64
 rw [BitVec.toNat_or,Qbu ha',Qbu hb',Qb8 (eM (n:=64) ha' hb')]
 congr 1
 exact Qdw (eM ha hb) fun i hi=>by rw [bJ,hp i hi,hq i hi]
theorem Qo (v i:Nat):(2^v).testBit i=decide (v=i):=Nat.testBit_two_pow
theorem Q59 {n:Nat} {p:Nat -> Bool}:∀i,i < n->(msk n p).testBit i=p i:=fun i hi=>by rw [Qv]; simp [hi]
theorem Q8j {n v:Nat} {p:Nat -> Bool} (hn:n<=10) (hv:v < 64):zv (zb ((msk n p:Nat):Int) &&& ~~~ zb (zv (1*2^min (Int.toNat (v:Int)) zk))).toNat = ((msk n fun i=>p i && !decide (v=i):Nat):Int):=by
 rw [K3 hv]
 exact Qt0 (by omega) (msk_lt n p) (Qac hv) Q59 fun i _=>Qo v i
theorem Q8c {n v:Nat} {p:Nat -> Bool} (hn:n<=10) (hv:v < n):zv (zb ((msk n p:Nat):Int) ||| zb (zv (1*2^min (Int.toNat (v:Int)) zk))).toNat = ((msk n fun i=>p i || decide (v=i):Nat):Int):=by
 rw [K3 (by omega)]
 exact Q9c (by omega) (msk_lt n p) (eV (by omega) hv) Q59 fun i _=>Qo v i
theorem Qas {a k:Nat} (ha:a < 18446744073709551616) (hk:k < 64) :
  zv (zb (Int.fdiv (a:Int) (2^min (Int.toNat (k:Int)) zk)) &&& zb 1).toNat = ((a.testBit k).toNat : Int):=by
 have hb:zk=64:=rfl
 have e0:min (Int.toNat (k:Int)) zk=k:=by rw [hb,aS]; omega
 rw [e0,Js]
 have h1:a / 2^k < 18446744073709551616:=cC (Nat.div_le_self _ _) ha
 have e1:(zb ((a / 2^k:Nat):Int) &&& zb 1).toNat = (a / 2^k) % 2:=by
  rw [BitVec.toNat_and,Qbu h1,show (zb 1).toNat = 1 from rfl,Nat.and_one_is_mod]
 rw [e1,Qb8 (by omega)]
 have e2:a.testBit k=((a / 2^k) % 2==1):=by rw [Nat.testBit_eq_decide_div_mod_eq]; rfl
 rw [e2]
 rcases Nat.mod_two_eq_zero_or_one (a / 2^k) with h | h <;> rw [h] <;> rfl
theorem Qww (n:Nat):msk n (fun _=>true)=2^n - 1:=(Qdw (by have:=Nat.two_pow_pos n; omega) fun i hi=>by rw [bF]; simp [hi]).symm
theorem Q32 {n:Nat} (hn:n<=10):zv ((zv (1*2^min (Int.toNat (n:Int)) zk)) - 1)=((msk n fun _=>true:Nat):Int):=by
 rw [K3 (by omega),Qww]
 have h1:=Qac (v:=n) (by omega)
 have h2:=Nat.two_pow_pos n
 rw [show ((2^n:Nat):Int) - 1=((2^n - 1:Nat):Int) by omega,Qb8 (by omega)]
def cnt:Nat -> (Nat -> Bool)->Nat
 | 0,_=>0
 | n+1,p=>cnt n p+(p n).toNat
def tzN:Nat -> (Nat -> Bool)->Nat
 | 0,_=>0
 | n+1,p=>if p 0 then 0 else tzN n (fun i=>p (i+1))+1
def isS (x:Option Int) (y:Int):Bool:=match x with | some z=>z==y | none=>false
theorem Q53 {x:Option Int} {y:Int} (h:isS x y=true):x=some y:=by
 cases x with
 | none=>cases h
 | some z=>simp only [isS,dL] at h; rw [h]
theorem Q03 {p:Nat -> Bool} {n:Nat} (h:(List.range n).all p=true) {k:Nat} (hk:k < n):p k=true:=bU.1 h k (cX.2 hk)
theorem Q88:((List.range 1024).all fun R=>Nat.beq R 0 || (isS (Qu (R:Int)) (tzN 10 R.testBit:Int)))=true:=by kernel_rfl
theorem Q5x:((List.range 1024).all fun R=>Nat.beq R 0 || (zv (zb (R:Int) &&& zb (zv ((R:Int) - 1))).toNat == ((msk 10 fun i=>R.testBit i && !Nat.beq (tzN 10 R.testBit) i:Nat):Int)))=true:=by kernel_rfl
theorem Qlx {n:Nat} {p q:Nat -> Bool} (h:∀i,i < n->p i=q i):cnt n p=cnt n q:=by
 induction n with
 | zero=>rfl
 | succ n ih=>simp only [cnt]; rw [ih fun i hi=>h i (by omega),h n (by omega)]
theorem Qo5 (n:Nat) (p:Nat -> Bool):cnt n p<=n:=by
 induction n with
 | zero=>exact bC _
 | succ n ih =>
  simp only [cnt]; have:(p n).toNat <= 1:=by cases p n <;> decide
  omega
theorem Qeu {n:Nat} {p q:Nat -> Bool} (h:∀i,i < n->p i=true->q i=true):cnt n p<=cnt n q:=by
 induction n with
 | zero=>exact bC _
 | succ n ih =>
  simp only [cnt]
  have h1:=ih fun i hi=>h i (by omega)
  have h2:=h n (by omega)
  cases hp:p n with
  | false =>
   have:false.toNat = 0:=rfl
   omega
  | true=>rw [h2 hp]; omega
theorem Q2h {n:Nat} {p:Nat -> Bool} (h:∀i,i < n->p i=false):cnt n p=0:=by
 induction n with
 | zero=>rfl
 | succ n ih=>simp only [cnt]; rw [ih fun i hi=>h i (by omega),h n (by omega)]; rfl
theorem Q5r {n:Nat} {p:Nat -> Bool} {i:Nat} (hi:i < n) (h:p i=true):0 < cnt n p:=by
 induction n with
 | zero=>omega
 | succ n ih =>
  simp only [cnt]
  by_cases e:i=n
  ·subst e; rw [h]; show 0 < _+1; omega
  have:=ih (by omega); omega
theorem Qgq {n v:Nat} {p:Nat -> Bool} (hv:v < n) (h:p v=true):cnt n (fun i=>p i && !decide (v=i))+1=cnt n p:=by
 induction n with
 | zero=>omega
 | succ n ih =>
  simp only [cnt]
  by_cases e:v=n
  ·subst e
   rw [Qlx (n:=v) (q:=p) fun i hi=>by simp; intro _; omega,h]
   simp
  have:=ih (by omega)
  have e2:(p n && !decide (v=n))=p n:=by simp; intro _; exact e
  rw [e2]; omega
theorem Qos:∀(n:Nat) (p:Nat -> Bool),(∃i,i < n/\p i=true)->tzN n p < n/\p (tzN n p)=true/\∀i,i < tzN n p->p i=false
 | 0,p,⟨i,hi,_⟩=>by omega
 | n+1,p,⟨i,hi,h⟩=>by
  unfold tzN
  by_cases h0:p 0=true
  ·rw [aH h0]; exact ⟨by omega,h0,fun i hi=>by omega⟩
  rw [aJ h0]
  have hi0:i≠0:=fun e=>h0 (e ▸ h)
  obtain ⟨a,b,c⟩:=Qos n (fun i=>p (i+1)) ⟨i - 1,by omega,by rw [show i - 1+1=i by omega]; exact h⟩
  refine ⟨by omega,b,fun j hj=>?_⟩
  cases j with
  | zero=>simpa using h0
  | succ j=>exact c j (by omega)
theorem Q6j {n v:Nat} {p:Nat -> Bool} (hv:v < n) (h:p v=true) (hl:∀i,i < v->p i=false):tzN n p=v:=by
 obtain ⟨a,b,c⟩:=Qos n p ⟨v,hv,h⟩
 rcases Nat.lt_trichotomy (tzN n p) v with e | e | e
 ·rw [hl _ e] at b; cases b
 ·exact e
 rw [c v e] at h; cases h
theorem Q16 {n v:Nat} {p:Nat -> Bool} (hn:n<=10) (hv:v < n) (h:p v=true) (hl:∀i,i < v->p i=false) :
  (((msk n p:Nat):Int) != 0)=true/\Qu ((msk n p:Nat):Int)=some (v:Int) /\
  zv (zb ((msk n p:Nat):Int) &&& zb (zv (((msk n p:Nat):Int) - 1))).toNat = ((msk n fun i=>p i && !decide (v=i):Nat):Int):=by
 have hlt:=msk_lt n p
 have hR:=Qzl hn hlt
 have hb:(msk n p).testBit v=true:=by rw [Qv]; simp [hv,h]
 have h0:msk n p≠0:=fun e=>by rw [e] at hb; simp at hb
 have e0:Nat.beq (msk n p) 0=false:=by
  cases e:msk n p with
  | zero=>exact absurd e h0
  | succ k=>rfl
 have etz:tzN 10 (msk n p).testBit=v:=Q6j (by omega) hb fun i hi=>by rw [Qv,hl i hi]; simp
 have h1:=Q03 Q88 hR
 have h2:=Q03 Q5x hR
 simp only [e0,Bool.false_or,etz] at h1 h2
 refine ⟨by simp; omega,Q53 h1,?_⟩
 have h3:zv (zb ((msk n p:Nat):Int) &&& zb (zv (((msk n p:Nat):Int) - 1))).toNat = ((msk 10 fun i=>(msk n p).testBit i && !Nat.beq v i:Nat):Int):=by simpa using h2
 rw [h3]
 congr 1
 apply eE
 intro j
 rw [Qv,Qv,Qv]
 have e:Nat.beq v j=decide (v=j):=by
  by_cases e:v=j
  ·subst e; simp
  rw [decide_eq_false e,bN]; exact fun h=>e (aK h)
 rw [e]
 by_cases hj:j < n
 ·simp [hj,show j < 10 by omega]
 ·simp [hj]
theorem Ql (k:Nat):(0:Int)<=(k:Int):=Int.natCast_nonneg k
theorem Qmm {k:Nat} (h:k < 9223372036854775807):zw ((k:Int)+1)=((k+1:Nat):Int):=by rw [w64 (by omega)]; omega
theorem Zq {τ ρ σ:Type} {n k0:Nat} (hk:k0<=n) (hn:n < 1152921504606846976) (mkS:Int->τ->σ) {body:σ->Option (Qd σ ρ)} (I:Nat -> τ->Prop) (Q:ρ->Prop)
  (step:∀(k:Nat) (t:τ),k0<=k->k < n->I k t->(∃t',body (mkS (k:Int) t)=some (.next (mkS (zw ((k:Int)+1)) t'))/\I (k+1) t')\/(∃r,body (mkS (k:Int) t)=some (.done r)/\Q r))
  (done:∀t,I n t->∃r,body (mkS (n:Int) t)=some (.done r)/\Q r) (t0:τ) (h0:I k0 t0):∃r,Qa fuel body (mkS (k0:Int) t0)=some r/\Q r:=by
 have key:∀(j N k:Nat) (t:τ),k+j=n->k0<=k->j < N->I k t->∃r,Qa N body (mkS (k:Int) t)=some r/\Q r:=by
  intro j
  induction j with
  | zero =>
   intro N k t e hk hN hI
   obtain ⟨N,rfl⟩:∃M,N=M+1:=⟨N - 1,by omega⟩
   have:k=n:=by omega
   subst this
   obtain ⟨r,b1,b2⟩:=done t hI
   simp only [Qa,b1]
   exact ⟨r,rfl,b2⟩
  | succ j ih =>
   intro N k t e hk hN hI
   obtain ⟨N,rfl⟩:∃M,N=M+1:=⟨N - 1,by omega⟩
   rcases step k t hk (by omega) hI with ⟨t',b1,b2⟩ | ⟨r,b1,b2⟩
   ·rw [Qmm (by omega)] at b1
    simp only [Qa,b1]
    exact ih N (k+1) t' (by omega) (by omega) (by omega) b2
   simp only [Qa,b1]
   exact ⟨r,rfl,b2⟩
 exact key (n - k0) fuel k0 t0 (by omega) (bC _) (by show n - k0 < 1152921504606846976; omega) h0
theorem Zt {τ ρ σ:Type} {n k0:Nat} (hk:k0<=n) (hn:n < 1152921504606846976) (mkS:Int->τ->σ) {body:σ->Option (Qd σ ρ)} (T:Nat -> τ) (r:ρ)
  (step:∀(k:Nat),k0<=k->k < n->body (mkS (k:Int) (T k))=some (.next (mkS (zw ((k:Int)+1)) (T (k+1)))))
  (done:body (mkS (n:Int) (T n))=some (.done r)):Qa fuel body (mkS (k0:Int) (T k0))=some r:=by
 obtain ⟨r',h1,h2⟩:=Zq hk hn mkS (body:=body) (fun k t=>t=T k) (fun x=>x=r) (fun k t a b c=>.inl ⟨T (k+1),by rw [c]; exact step k a b,rfl⟩) (fun t h=>⟨r,by rw [h]; exact done,rfl⟩) (T k0) rfl
 rw [h1,h2]
theorem dlt {k n:Nat} (h:k < n):decide ((k:Int) < (n:Int))=true:=dB (by omega)
theorem nlt (n:Nat):¬ (decide ((n:Int) < (n:Int))=true):=by simp
def Qb4 {α:Type} (n:Nat) (F:Nat -> α):List α:=(List.range n).map F
theorem Qvd {α:Type} {n:Nat} {F:Nat -> α}:(Qb4 n F).length=n:=by simp [Qb4]
theorem Q2m {α:Type} {n:Nat} {F:Nat -> α} {k:Nat} (h:k < n):lkI (Qb4 n F) (k:Int)=some (F k):=by
 rw [Qs (by rw [Qvd]; exact h)]; simp [Qb4]
def Qc (n:Nat) (w:Nat -> Nat):List Int:=Qb4 n fun j=>(w j:Int)
theorem Q0 {n k:Nat} {w:Nat -> Nat} (h:k < n):lkI (Qc n w) (k:Int)=some (w k:Int):=Q2m h
theorem Zf {n:Nat} {w:Nat -> Nat}:(Qc n w).length=n:=Qvd
theorem Qhy {τ ρ σ:Type} {n:Nat} (hn:n < 1152921504606846976) (good:Nat -> Prop) (mkS:Int->τ->σ) {body:σ->Option (Qd σ ρ)} (T:Nat -> τ) (r rb:ρ)
  (step:∀k,k < n->(∀j,j < k->good j)->good k->body (mkS (k:Int) (T k))=some (.next (mkS (zw ((k:Int)+1)) (T (k+1)))))
  (bad:∀k,k < n->(∀j,j < k->good j)->¬ good k->body (mkS (k:Int) (T k))=some (.done rb))
  (done:(∀j,j < n->good j)->body (mkS (n:Int) (T n))=some (.done r)) :
  ((∀j,j < n->good j)/\Qa fuel body (mkS ((0:Nat):Int) (T 0))=some r)\/((¬ ∀j,j < n->good j)/\Qa fuel body (mkS ((0:Nat):Int) (T 0))=some rb):=by
 have h:=Zq (n:=n) (k0:=0) (by omega) hn mkS (body:=body) (fun k t=>t=T k/\∀j,j < k->good j) (fun x=>((∀j,j < n->good j)/\x=r)\/((¬ ∀j,j < n->good j)/\x=rb))
  (fun k t _ hk hI=>by
   obtain ⟨rfl,hI⟩:=hI
   by_cases hg:good k
   ·left
    exact ⟨_,step k hk hI hg,rfl,fun j hj=>by
     by_cases e:j=k
     ·rw [e]; exact hg
     exact hI j (by omega)⟩
   exact .inr ⟨_,bad k hk hI hg,.inr ⟨fun h=>hg (h k hk),rfl⟩⟩)
  (fun t hI=>by
   obtain ⟨rfl,hI⟩:=hI
   exact ⟨_,done hI,.inl ⟨hI,rfl⟩⟩) (T 0) ⟨rfl,fun j hj=>by omega⟩
 obtain ⟨x,h1,h2⟩:=h
 rcases h2 with ⟨a,rfl⟩ | ⟨a,rfl⟩
 ·exact .inl ⟨a,h1⟩
 ·exact .inr ⟨a,h1⟩
theorem Jo {a b:Nat} (ha:a < 18446744073709551616) (hb:b < 18446744073709551616):zv (zb (a:Int) ||| zb (b:Int)).toNat = ((a ||| b:Nat):Int):=by
 rw [BitVec.toNat_or,Qbu ha,Qbu hb,Qb8 (eM (n:=64) ha hb)]
theorem Jz {a v:Nat} (ha:a < 18446744073709551616) (hv:v < 64):Q7 (a:Int) (v:Int)=some (a.testBit v):=by
 unfold Q7
 rw [aH (Ql v),Qas ha hv]
 cases a.testBit v <;> rfl
def Zm (a b:Nat):Prop:=∀j,a.testBit j=true->b.testBit j=true
theorem Zm.refl {a:Nat}:Zm a a:=fun _ h=>h
theorem Zm.trans {a b c:Nat} (h:Zm a b) (k:Zm b c):Zm a c:=fun j hj=>k j (h j hj)
theorem Qhm {a b:Nat}:Zm a (a ||| b):=fun j h=>by rw [bJ,h]; rfl
theorem Qtw {a b:Nat}:Zm b (a ||| b):=fun j h=>by rw [bJ,h]; simp
theorem or_sub {a b c:Nat} (h:Zm a c) (k:Zm b c):Zm (a ||| b) c:=fun j hj=>by
 rw [bJ,aN] at hj
 rcases hj with e | e
 ·exact h j e
 exact k j e
theorem sub_anti {a b:Nat} (h:Zm a b) (k:Zm b a):a=b:=eE fun j=>by
 cases ha:a.testBit j with
 | true=>rw [h j ha]
 | false=>cases hb:b.testBit j with
  | true=>rw [k j hb] at ha; cases ha
  | false=>rfl
def upV (S:Nat -> Nat) (s v:Nat):Nat := if s.testBit v then s ||| S v else s
def upR (n:Nat) (S:Nat -> Nat) (s:Nat):Nat := (List.range n).foldl (upV S) s
def ups (n:Nat) (S:Nat -> Nat):Nat -> Nat -> Nat
 | 0,s=>s
 | k+1,s=>upR n S (ups n S k s)
theorem Qy6 {S:Nat -> Nat} {s v:Nat}:Zm s (upV S s v):=by
 unfold upV; split
 ·exact Qhm
 exact .refl
theorem Qnv {S:Nat -> Nat}:∀(l:List Nat) (s:Nat),Zm s (l.foldl (upV S) s)
 | [],s=>.refl
 | v::l,s=>Qy6.trans (Qnv l _)
theorem Qtk {S:Nat -> Nat} {v:Nat}:∀(l:List Nat) (s:Nat),v∈l->s.testBit v=true->Zm (S v) (l.foldl (upV S) s)
 | [],s,h,_=>by cases h
 | u::l,s,h,hs=>by
  simp only [List.foldl_cons]
  by_cases e:v=u
  ·subst e
   refine Zm.trans ?_ (Qnv l _)
   unfold upV; rw [aH hs]; exact Qtw
  exact Qtk l _ (by simpa [e] using h) (Qy6 v hs)
theorem Qjk {S:Nat -> Nat} {T:Nat}:∀(l:List Nat) (s:Nat),(∀v∈l,T.testBit v=true->Zm (S v) T)->Zm s T->Zm (l.foldl (upV S) s) T
 | [],s,_,h=>h
 | v::l,s,hT,h=>by
  simp only [List.foldl_cons]
  refine Qjk l _ (fun u hu=>hT u (cR _ hu)) ?_
  unfold upV; split
  ·rename_i hs; exact or_sub h (hT v (by simp) (h v hs))
  exact h
def Clo (n:Nat) (S:Nat -> Nat) (T:Nat):Prop:=∀v,v < n->T.testBit v=true->Zm (S v) T
theorem Jf {n:Nat} {S:Nat -> Nat} {s:Nat}:∀k,Zm s (ups n S k s)
 | 0=>.refl
 | k+1=>(Jf k).trans (Qnv _ _)
theorem Vp {n:Nat} {S:Nat -> Nat} {s T:Nat} (hT:Clo n S T) (h:Zm s T):∀k,Zm (ups n S k s) T
 | 0=>h
 | k+1=>Qjk _ _ (fun v hv=>hT v (cX.1 hv)) (Vp hT h k)
theorem Q48 {n:Nat} {S:Nat -> Nat} {s:Nat} (h:upR n S s=s):Clo n S s:=fun v hv hs=>by
 have:=Qtk (S:=S) (List.range n) s (cX.2 hv) hs
 unfold upR at h
 rwa [h] at this
theorem Qts {n a b:Nat} (h:Zm a b) (hb:∀j,b.testBit j=true->j < n) (hne:a≠b):cnt n a.testBit < cnt n b.testBit:=by
 have:∃j,b.testBit j=true/\a.testBit j=false:=by
  apply Classical.byContradiction
  intro hno
  exact hne (sub_anti h fun j hj=>by
   cases ha:a.testBit j with
   | true=>rfl
   | false=>exact absurd ⟨j,hj,ha⟩ hno)
 obtain ⟨j,h1,h2⟩:=this
 have e:=Qgq (n:=n) (p:=b.testBit) (hb j h1) h1
 have:cnt n a.testBit<=cnt n (fun i=>b.testBit i && !decide (j=i)):=Qeu fun i _ hi=>by
  have:j≠i:=fun e=>by subst e; rw [h2] at hi; cases hi
  simp [h i hi,this]
 omega
theorem Qb3 (n:Nat) {S:Nat -> Nat} (hS:∀v,v < n->∀j,(S v).testBit j=true->j < n):Clo n S (2^n - 1):=fun v hv _ j hj=>by
 rw [bF]; simpa using hS v hv j hj
theorem Qds {n:Nat} {S:Nat -> Nat} {s:Nat} (hS:∀v,v < n->∀j,(S v).testBit j=true->j < n) (hs:∀j,s.testBit j=true->j < n):Clo n S (ups n S n s):=by
 have hin:∀k j,(ups n S k s).testBit j=true->j < n:=fun k j hj=>by
  have:=Vp (Qb3 n hS) (s:=s) (fun j hj=>by rw [bF]; simpa using hs j hj) k j hj
  rw [bF] at this; simpa using this
 have key:∀k,upR n S (ups n S k s)=ups n S k s\/k+cnt n s.testBit<=cnt n (ups n S k s).testBit:=by
  intro k
  induction k with
  | zero=>right; simp [ups]
  | succ k ih =>
   by_cases hf:upR n S (ups n S k s)=ups n S k s
   ·left; simp only [ups]; rw [hf,hf]
   right
   rcases ih with h | h
   ·exact absurd h hf
   have:=Qts (n:=n) (Qnv (S:=S) (List.range n) (ups n S k s)) (hin (k+1)) (fun e=>hf e.symm)
   show k+1+_<=cnt n (upR n S (ups n S k s)).testBit
   unfold upR; omega
 rcases key n with h | h
 ·exact Q48 h
 have h0:=Qo5 n (ups n S n s).testBit
 have hz:cnt n s.testBit=0:=by omega
 have:s=0:=eE fun j=>by
  rw [Nat.zero_testBit,bN]
  intro hj
  have:=Q5r (n:=n) (hs j hj) hj; omega
 subst this
 have h1:=Vp (n:=n) (S:=S) (s:=0) (T:=0) (fun v _ hv=>by rw [Nat.zero_testBit] at hv; cases hv) .refl n
 intro v hv hb
 have:=h1 v hb
 rw [Nat.zero_testBit] at this; cases this
theorem Jc {n s:Nat} (h:∀j,s.testBit j=true->j < n):s < 2^n:=by
 apply Nat.lt_pow_two_of_testBit
 intro i hi
 rw [bN]; intro hj
 have:=h i hj; omega
theorem Qtc {n:Nat} {S:Nat -> Nat} {s:Nat} (hn:n<=8) (hS:∀v,v < n->∀j,(S v).testBit j=true->j < n) (hs:∀j,s.testBit j=true->j < n):Qaw (Qc n S) (s:Int)=some ((ups n S n s:Nat):Int):=by
 have hlen:(Qc n S).length=n:=Zf
 have hfull:=Qb3 n hS
 have hs0:Zm s (2^n - 1):=fun j hj=>by rw [bF]; simpa using hs j hj
 have p8:(2:Nat)^n<=256:=aW (n:=2) (by omega) hn
 have hlt:∀{t:Nat},Zm t (2^n - 1)->t < 18446744073709551616:=fun h=>by
  have:=Jc (n:=n) fun j hj=>by have:=h j hj; rw [bF] at this; simpa using this
  omega
 have inner:∀t,Zm t (2^n - 1)->Qa fuel (J5 (Qc n S)) ((t:Int),(0:Int))=some ((upR n S t:Nat):Int):=fun t ht=>by
  have h:=Zt (n:=n) (k0:=0) (by omega) (by omega) (fun i (x:Int)=>(x,i)) (body:=J5 (Qc n S)) (fun k=>(((List.range k).foldl (upV S) t:Nat):Int)) ((upR n S t:Nat):Int)
   (fun k _ hk=>by
    have hsub:=Qjk (S:=S) (T:=2^n - 1) (List.range k) t (fun v hv=>hfull v (by have:=cX.1 hv; omega)) ht
    unfold J5
    dsimp only
    rw [hlen,aH (dlt hk),Jz (hlt hsub) (by omega),aC,List.range_succ,List.foldl_append]
    simp only [List.foldl_cons,List.foldl_nil]
    unfold upV
    by_cases c:((List.range k).foldl (upV S) t).testBit k=true
    ·unfold upV at c
     rw [aH c,Q0 hk,aC,aH c]
     have hsub':=hsub
     unfold upV at hsub'
     rw [Jo (hlt hsub') (by
      have:=Jc (hS k hk); omega)]
    unfold upV at c
    rw [aJ c,aJ c])
   (by unfold J5; dsimp only; rw [hlen,aJ (nlt n)]; rfl)
  rw [show ((0:Nat):Int)=0 from rfl] at h
  exact h
 have h:=Zt (n:=n) (k0:=0) (by omega) (by omega) (fun i (x:Int)=>(x,i)) (body:=Qat (Qc n S)) (fun k=>((ups n S k s:Nat):Int)) ((ups n S n s:Nat):Int)
  (fun k _ hk=>by
   unfold Qat
   dsimp only
   rw [hlen,aH (dlt hk),inner _ (Vp hfull hs0 k)]; rfl)
  (by unfold Qat; dsimp only; rw [hlen,aJ (nlt n)])
 rw [show ((0:Nat):Int)=0 from rfl] at h
 unfold Qaw
 rw [show ups n S 0 s=s from rfl] at h
 rw [h]; rfl
end Go.Ab
namespace Go.Ab
open Go
def Qm4 (a p:Nat):Bool:=(a ||| p)==p
theorem Qkz {a p:Nat}:Qm4 a p=true↔Zm a p:=by
 unfold Qm4
 rw [dL]
 constructor
 ·intro h j hj
  have:(a ||| p).testBit j=p.testBit j:=by rw [h]
  rw [bJ,hj] at this; simpa using this.symm
 intro h
 exact sub_anti (or_sub h .refl) Qtw
theorem Q3m {a p:Nat} (ha:a < 18446744073709551616) (hp:p < 18446744073709551616) :
  ((zv (zb (a:Int) &&& ~~~ zb (p:Int)).toNat)==0)=Qm4 a p:=by
 rw [Qt0 (n:=64) (p:=a.testBit) (q:=p.testBit) (by omega) ha hp (fun _ _=>rfl) (fun _ _=>rfl)]
 rw [aQ,dL,Qkz]
 constructor
 ·intro h j hj
  have h0:(msk 64 fun i=>a.testBit i && !p.testBit i)=0:=by exact_mod_cast h
  have hj64:j < 64:=by
   apply Classical.byContradiction
   intro hn
   rw [Nat.testBit_lt_two_pow (bR (show a < 2^64 from ha) (aW (by omega) (by omega)))] at hj; cases hj
  have:=Qv 64 (fun i=>a.testBit i && !p.testBit i) j
  rw [h0] at this
  simp [hj64,hj] at this
  exact this
 ·intro h
  have:(msk 64 fun i=>a.testBit i && !p.testBit i)=msk 64 (fun _=>false):=Zs fun i _=>by
   cases e:a.testBit i with
   | false=>rfl
   | true=>rw [h i e]; rfl
  rw [this]
  rfl
def plV (S:Nat -> Nat) (p v:Nat):Nat := if Qm4 (S v) p=true then p ||| 2^v else p
def plR (n:Nat) (S:Nat -> Nat) (p:Nat):Nat := (List.range n).foldl (plV S) p
def pls (n:Nat) (S:Nat -> Nat):Nat -> Nat
 | 0=>0
 | k+1=>plR n S (pls n S k)
theorem Qzr {S:Nat -> Nat} {p v:Nat}:Zm p (plV S p v):=by
 unfold plV; split
 ·exact Qhm
 exact .refl
theorem Qu0 {S:Nat -> Nat}:∀(l:List Nat) (p:Nat),Zm p (l.foldl (plV S) p)
 | [],_=>.refl
 | v::l,p=>Qzr.trans (Qu0 l _)
theorem Qwp {S:Nat -> Nat} {v:Nat}:∀(l:List Nat) (p:Nat),v∈l->Zm (S v) p->(l.foldl (plV S) p).testBit v=true
 | [],_,h,_=>by cases h
 | u::l,p,h,hs=>by
  simp only [List.foldl_cons]
  by_cases e:v=u
  ·subst e
   refine Qu0 l _ v ?_
   unfold plV; rw [aH (Qkz.2 hs),bJ,Qo]; simp
  exact Qwp l _ (by simpa [e] using h) (hs.trans Qzr)
def Rk (n:Nat) (S:Nat -> Nat) (p:Nat):Prop:=(∀j,p.testBit j=true->j < n)/\∃(r:Nat -> Nat) (M:Nat),(∀x,r x<=M)/\∀v,p.testBit v=true->∀j,(S v).testBit j=true->p.testBit j=true/\r j < r v
theorem Q4z {n:Nat} {S:Nat -> Nat} {p v:Nat} (hv:v < n) (h:Rk n S p):Rk n S (plV S p v):=by
 unfold plV
 split
 rotate_left
 ·exact h
 rename_i hs
 have hs:=Qkz.1 hs
 obtain ⟨h1,r,M,h2,h3⟩:=h
 by_cases hp:p.testBit v=true
 ·have e:p ||| 2^v=p:=sub_anti (or_sub .refl fun j hj=>by rw [Qo] at hj; have:=aR hj; subst this; exact hp) Qhm
  rw [e]; exact ⟨h1,r,M,h2,h3⟩
 refine ⟨fun j hj=>?_,fun x=>if x=v then M+1 else r x,M+1,fun x=>?_,fun w hw j hj=>?_⟩
 ·rw [bJ,Qo,aN] at hj
  rcases hj with hj | hj
  ·exact h1 j hj
  have:=aR hj; omega
 ·show (if x=v then M+1 else r x)<=M+1
  split
  ·omega
  have:=h2 x; omega
 rw [bJ,Qo,aN] at hw
 by_cases e:w=v
 ·subst e
  have hjp:=hs j hj
  have:¬ j=w:=fun e=>hp (e ▸ hjp)
  refine ⟨Qhm j hjp,?_⟩
  show (if j=w then M+1 else r j) < (if w=w then M+1 else r w)
  rw [aJ this,aH rfl]; have:=h2 j; omega
 have hw:p.testBit w=true:=hw.resolve_right fun h=>e (aR h).symm
 obtain ⟨h4,h5⟩:=h3 w hw j hj
 have:¬ j=v:=fun e=>hp (e ▸ h4)
 refine ⟨Qhm j h4,?_⟩
 show (if j=v then M+1 else r j) < (if w=v then M+1 else r w)
 rw [aJ this,aJ e]; exact h5
theorem Qqf {n:Nat} {S:Nat -> Nat}:∀(l:List Nat) (p:Nat),(∀v∈l,v < n)->Rk n S p->Rk n S (l.foldl (plV S) p)
 | [],_,_,h=>h
 | v::l,p,hl,h=>Qqf l _ (fun u hu=>hl u (cR _ hu)) (Q4z (hl v (by simp)) h)
theorem Qo2 {n:Nat} {S:Nat -> Nat}:∀k,Rk n S (pls n S k)
 | 0=>⟨fun j hj=>by simp [pls] at hj,fun _=>0,0,fun _=>bC _,fun v hv=>by simp [pls] at hv⟩
 | k+1=>Qqf _ _ (fun v hv=>cX.1 hv) (Qo2 k)
structure Gd (n:Nat) (S:Nat -> Nat):Prop where
 inn:∀v,v < n->∀j,(S v).testBit j=true->j < n
 acyc:∀v,v < n->¬ (ups n S n (S v)).testBit v=true
theorem Qop {n p:Nat} (h:∀j,p.testBit j=true->j < n):p=2^n - 1↔∀j,j < n->p.testBit j=true:=by
 constructor
 ·intro e j hj; rw [e,bF]; simpa using hj
 intro k
 apply eE
 intro j
 rw [bF]
 by_cases hj:j < n
 ·rw [k j hj]; simp [hj]
 have:p.testBit j=false:=by rw [bN]; exact fun e=>hj (h j e)
 rw [this]; simp [hj]
theorem Qui {n:Nat} {S:Nat -> Nat}:pls n S n=2^n - 1↔Gd n S:=by
 have hrk:=Qo2 (n:=n) (S:=S)
 constructor
 ·intro h
  obtain ⟨h1,r,M,h2,h3⟩:=hrk n
  have hall:=(Qop h1).1 h
  refine ⟨fun v hv j hj=>h1 j (h3 v (hall v hv) j hj).1,fun v hv hb=>?_⟩
  have hT:Clo n S (msk n fun j=>decide (r j < r v)):=fun w hw hb j hj=>by
   rw [Qv] at hb ⊢
   simp only [aE,aO] at hb ⊢
   have:=h3 w (hall w hw) j hj
   exact ⟨h1 j this.1,by omega⟩
  have hs:Zm (S v) (msk n fun j=>decide (r j < r v)):=fun j hj=>by
   rw [Qv]
   simp only [aE,aO]
   have:=h3 v (hall v hv) j hj
   exact ⟨h1 j this.1,this.2⟩
  have:=Vp hT hs n v hb
  rw [Qv] at this
  simp at this
 intro h
 have key:∀k,plR n S (pls n S k)=pls n S k\/k<=cnt n (pls n S k).testBit:=by
  intro k
  induction k with
  | zero=>right; exact eP _
  | succ k ih =>
   by_cases hf:plR n S (pls n S k)=pls n S k
   ·left; simp only [pls]; rw [hf,hf]
   right
   rcases ih with h | h
   ·exact absurd h hf
   have:=Qts (n:=n) (Qu0 (S:=S) (List.range n) (pls n S k)) (hrk (k+1)).1 (fun e=>hf e.symm)
   show k+1<=cnt n (plR n S (pls n S k)).testBit
   unfold plR; omega
 refine (Qop (hrk n).1).2 ?_
 rcases key n with hst | hc
 ·generalize pls n S n=P at *
  have main:∀c v,v < n->¬ P.testBit v=true->cnt n (ups n S n (S v)).testBit=c->False:=by
   intro c
   induction c using Nat.strongRecOn with
   | _ c ih =>
    intro v hv hp hc
    have hns:¬ Zm (S v) P:=fun hs=>hp (by
     have:=Qwp (List.range n) P (cX.2 hv) hs
     unfold plR at hst
     rwa [hst] at this)
    obtain ⟨j,hj,hjp⟩:∃j,(S v).testBit j=true/\¬ P.testBit j=true:=by
     apply Classical.byContradiction
     intro hno
     exact hns fun j hj=>Classical.byContradiction fun hp=>hno ⟨j,hj,hp⟩
    have hjn:=h.inn v hv j hj
    have hclo:=Qds h.inn (s:=S v) (h.inn v hv)
    have hin:(ups n S n (S v)).testBit j=true:=Jf n j hj
    have hsub:Zm (ups n S n (S j)) (ups n S n (S v)):=Vp hclo (hclo j hjn hin) n
    have hb:∀i,(ups n S n (S v)).testBit i=true->i < n:=fun i hi=>by
     have:=Vp (Qb3 n h.inn) (s:=S v) (fun i hi=>by rw [bF]; simpa using h.inn v hv i hi) n i hi
     rw [bF] at this; simpa using this
    have:=Qts (n:=n) hsub hb fun e=>h.acyc j hjn (by rw [e]; exact hin)
    exact ih _ (by omega) j hjn hjp rfl
  exact fun j hj=>Classical.byContradiction fun hp=>main _ j hj hp rfl
 intro j hj
 apply Classical.byContradiction
 intro hp
 have h1:cnt n (pls n S n).testBit < n:=by
  have e:=Qgq (n:=n) (p:=fun _=>true) hj rfl
  have:cnt n (pls n S n).testBit<=cnt n (fun i=>true && !decide (j=i)):=Qeu fun i _ hi=>by
   have:j≠i:=fun e=>hp (e ▸ hi)
   simp [this]
  have:=Qo5 n (fun _=>true)
  omega
 omega
theorem Q77 {n:Nat} (hn:n<=8) {S:Nat -> Nat} {p:Nat} (h:Rk n S p):p < 18446744073709551616:=by
 have:=Jc h.1
 have:(2:Nat)^n<=256:=aW (n:=2) (by omega) hn
 omega
def L64 (n:Nat) (S:Nat -> Nat):Prop:=∀v,v < n->S v < 18446744073709551616
theorem Qv6 {n:Nat} {S:Nat -> Nat} (hn:n<=8) (hS:L64 n S):Jl (Qc n S)=some (pls n S n==2^n - 1):=by
 have hlen:(Qc n S).length=n:=Zf
 have inner:∀p,Rk n S p->Qa fuel (V9 (Qc n S)) ((p:Int),(0:Int))=some ((plR n S p:Nat):Int):=fun p hp=>by
  have h:=Zt (n:=n) (k0:=0) (by omega) (by omega) (fun i (x:Int)=>(x,i)) (body:=V9 (Qc n S)) (fun k=>(((List.range k).foldl (plV S) p:Nat):Int)) ((plR n S p:Nat):Int)
   (fun k _ hk=>by
    have hr:=Qqf (List.range k) p (fun v hv=>by have:=cX.1 hv; omega) hp
    have hlt:=Q77 hn hr
    unfold V9
    dsimp only
    rw [hlen,aH (dlt hk),Q0 hk,aC,Q3m (hS k hk) hlt,List.range_succ,List.foldl_append]
    simp only [List.foldl_cons,List.foldl_nil]
    generalize (List.range k).foldl (plV S) p=q at *
    unfold plV
    by_cases c:Qm4 (S k) q=true
    ·rw [aH c,aH (Ql k),aH c,K3 (by omega),Jo hlt (Qac (by omega))]
    rw [aJ c,aJ c])
   (by unfold V9; dsimp only; rw [hlen,aJ (nlt n)]; rfl)
  rw [show ((0:Nat):Int)=0 from rfl] at h
  exact h
 have h:=Zt (n:=n) (k0:=0) (by omega) (by omega) (fun i (x:Int)=>(x,i)) (body:=Kx (Qc n S)) (fun k=>((pls n S k:Nat):Int)) ((pls n S n:Nat):Int)
  (fun k _ hk=>by
   unfold Kx
   dsimp only
   rw [hlen,aH (dlt hk),inner _ (Qo2 k)]; rfl)
  (by unfold Kx; dsimp only; rw [hlen,aJ (nlt n)])
 rw [show ((0:Nat):Int)=0 from rfl] at h
 unfold Jl
 rw [show ((0:Int),(0:Int))=(((pls n S 0:Nat):Int),(0:Int)) from rfl,h,aC,hlen,aH (Ql n),Q32 (by omega),Qww]
 congr 1
 rw [aQ,dL,dL]
 exact dE
theorem Kz {a n:Nat} (hn:n<=64):((Int.fdiv (a:Int) (2^min (Int.toNat (n:Int)) zk)) != 0)=!decide (a < 2^n):=by
 have hb:zk=64:=rfl
 have e0:min (Int.toNat (n:Int)) zk=n:=by rw [hb,aS]; omega
 rw [e0,Js,aQ]
 simp only [dK,ne_eq,bK,decide_eq_false_iff_not]
 have:a / 2^n=0↔a < 2^n:=Nat.div_eq_zero_iff_lt (Nat.two_pow_pos n)
 rw [<-this]
 exact not_congr ⟨fun h=>by exact_mod_cast h,fun h=>by rw [h]; rfl⟩
theorem Jp {a n:Nat}:a < 2^n↔∀j,a.testBit j=true->j < n:=by
 constructor
 ·intro h j hj
  apply Classical.byContradiction
  intro hn
  rw [Nat.testBit_lt_two_pow (bR h (aW (by omega) (by omega)))] at hj; cases hj
 exact Jc
theorem Qru {n m:Nat} {S:Nat -> Nat} (hn:n<=7) (hS:L64 n S):∃c,Qcx (Qc n S) (m:Int)=some c/\(c=true↔(1<=n/\n<=m)/\Gd n S):=by
 have hlen:(Qc n S).length=n:=Zf
 unfold Qcx
 rw [hlen]
 by_cases h1:(n:Int) < 1
 ·exact ⟨false,by simp [h1],by simp; omega⟩
 by_cases h2:(n:Int) > m
 ·exact ⟨false,by simp [h1,h2],by simp; omega⟩
 simp only [aO,h1,h2,eT]
 rcases Qhy (n:=n) (by omega) (fun k=>S k < 2^n) (fun i (_:Unit)=>i) (body:=Ka (Qc n S)) (fun _=>()) (.inr ()) (.inl ())
  (fun k hk _ hg=>by
   unfold Ka
   rw [hlen,aH (dlt hk),Q0 hk,aC,aH (Ql n),Kz (by omega),aJ (by simpa using hg)])
  (fun k hk _ hg=>by
   unfold Ka
   rw [hlen,aH (dlt hk),Q0 hk,aC,aH (Ql n),Kz (by omega),aH (by simpa using hg)])
  (fun _=>by unfold Ka; rw [hlen,aJ (nlt n)]) with ⟨hg,h⟩ | ⟨hg,h⟩
 ·rw [show ((0:Nat):Int)=0 from rfl] at h
  rw [h,aC]
  dsimp only
  have hinn:∀v,v < n->∀j,(S v).testBit j=true->j < n:=fun v hv=>Jp.1 (hg v hv)
  rcases Qhy (n:=n) (by omega) (fun k=>¬ (ups n S n (S k)).testBit k=true) (fun i (_:Unit)=>i) (body:=Kf (Qc n S)) (fun _=>()) (.inr ()) (.inl ())
   (fun k hk _ hg=>by
    have hu:ups n S n (S k) < 18446744073709551616:=by
     have:=Jc (n:=n) fun j hj=>by
      have:=Vp (Qb3 n hinn) (s:=S k) (fun i hi=>by rw [bF]; simpa using hinn k hk i hi) n j hj
      rw [bF] at this; simpa using this
     have:(2:Nat)^n<=256:=aW (n:=2) (by omega) (show n<=8 by omega)
     omega
    unfold Kf
    rw [hlen,aH (dlt hk),Q0 hk,aC,Qtc (by omega) hinn (hinn k hk),aC,Jz hu (by omega),aC,aJ hg])
   (fun k hk _ hg=>by
    have hu:ups n S n (S k) < 18446744073709551616:=by
     have:=Jc (n:=n) fun j hj=>by
      have:=Vp (Qb3 n hinn) (s:=S k) (fun i hi=>by rw [bF]; simpa using hinn k hk i hi) n j hj
      rw [bF] at this; simpa using this
     have:(2:Nat)^n<=256:=aW (n:=2) (by omega) (show n<=8 by omega)
     omega
    unfold Kf
    rw [hlen,aH (dlt hk),Q0 hk,aC,Qtc (by omega) hinn (hinn k hk),aC,Jz hu (by omega),aC,aH (Classical.not_not.1 hg)])
   (fun _=>by unfold Kf; rw [hlen,aJ (nlt n)]) with ⟨hg2,h⟩ | ⟨hg2,h⟩
  ·rw [show ((0:Nat):Int)=0 from rfl] at h
   rw [h,aC]
   exact ⟨true,rfl,by simp only [true_iff]; exact ⟨by omega,hinn,hg2⟩⟩
  rw [show ((0:Nat):Int)=0 from rfl] at h
  rw [h,aC]
  exact ⟨false,rfl,by simp only [aV,false_iff]; exact fun h=>hg2 h.2.acyc⟩
 rw [show ((0:Nat):Int)=0 from rfl] at h
 rw [h,aC]
 exact ⟨false,rfl,by simp only [aV,false_iff]; exact fun h=>hg fun v hv=>Jc (h.2.inn v hv)⟩
end Go.Ab
namespace Go.Ab
open Go
def apL {α:Type} (L:Nat -> List α) (k0:Nat):Nat -> List α
 | 0=>[]
 | j+1=>apL L k0 j++L (k0+j)
theorem Zl {α:Type} {L:Nat -> List α} {k0 m:Nat} (h:∀k,(L k).length<=m):∀j,(apL L k0 j).length<=j*m
 | 0=>by simp [apL]
 | j+1=>by
  have:=Zl (k0:=k0) h j
  have:=h (k0+j)
  simp only [apL,aP,eD]; omega
theorem Z3 {α:Type} {L:Nat -> List α} {k0:Nat} {x:α}:∀j,x∈apL L k0 j↔∃i,k0<=i/\i < k0+j/\x∈L i
 | 0=>by simp [apL]; intros; omega
 | j+1=>by
  simp only [apL,bY,Z3 j]
  constructor
  ·rintro (⟨i,h1,h2,h3⟩ | h)
   ·exact ⟨i,h1,by omega,h3⟩
   exact ⟨k0+j,by omega,by omega,h⟩
  rintro ⟨i,h1,h2,h3⟩
  by_cases e:i=k0+j
  ·right; rw [<-e]; exact h3
  left; exact ⟨i,h1,by omega,h3⟩
theorem Q5 {α:Type} {L L':Nat -> List α} {k0:Nat}:∀j,(∀i,k0<=i->i < k0+j->L i=L' i)->apL L k0 j=apL L' k0 j
 | 0,_=>rfl
 | j+1,h=>by
  simp only [apL]
  rw [Q5 j fun i h1 h2=>h i h1 (by omega),h (k0+j) (by omega) (by omega)]
theorem Z1 {α σ ρ:Type} {n k0 m c:Nat} (hk:k0<=n) (hn:n < 1152921504606846976) (mkS:Int->List α->σ) {body:σ->Option (Qd σ ρ)} (L:Nat -> List α) (fin:List α->ρ) (hL:∀k,(L k).length<=m) {out:List α} (hout:out.length<=c)
  (step:∀k o,k0<=k->k < n->o.length<=c+n*m->body (mkS (k:Int) o)=some (.next (mkS (zw ((k:Int)+1)) (o++L k))))
  (done:∀o,body (mkS (n:Int) o)=some (.done (fin o))):Qa fuel body (mkS (k0:Int) out)=some (fin (out++apL L k0 (n - k0))):=by
 have h:=Zt hk hn mkS (body:=body) (fun k=>out++apL L k0 (k - k0)) (fin (out++apL L k0 (n - k0)))
  (fun k h1 h2=>by
   have hb:=Zl (k0:=k0) hL (k - k0)
   have:(k - k0)*m<=n*m:=aU _ (by omega)
   rw [step k _ h1 h2 (by rw [aP]; omega)]
   have e:k+1 - k0=(k - k0)+1:=by omega
   rw [e]
   simp only [apL]
   rw [show k0+(k - k0)=k by omega,dT])
  (done _)
 rw [show k0 - k0=0 by omega] at h
 simpa [apL] using h
def Qj (X:Nat -> Int):Int × Int × Int × Int × Int × Int:=(X 0,X 1,X 2,X 3,X 4,X 5)
def Qab (x p:Int):Int:=zv (zb x ||| zb (zv (1*2^min (Int.toNat p) zk))).toNat
def sx (X:Nat -> Int) (v:Nat) (y:Int):Nat -> Int:=fun i=>if i=v then y else X i
theorem Q6g {L:List Int} {a:Int} {v p:Nat} {X:Nat -> Int} (hv:v < 6) (hp:p < 6) (h1:decide ((p:Int) < (L.length:Int))=true)
  (hb:((zv (zb (Int.fdiv a (2^min (Int.toNat (p:Int)) zk)) &&& zb 1).toNat)==1)=true) :
  Zr L a ((v:Int),(v:Int),(p:Int),Qj X)=some (.next ((v:Int),(v:Int),zw ((p:Int)+1),Qj (sx (sx X v (Qab (X v) p)) p (Qab (sx X v (Qab (X v) p) p) v)))):=by
 unfold Zr
 dsimp only
 rw [aH h1,aH (Ql p),aH hb]
 have hv':v=0\/v=1\/v=2\/v=3\/v=4\/v=5:=by omega
 have hp':p=0\/p=1\/p=2\/p=3\/p=4\/p=5:=by omega
 clear hb h1
 rcases hv' with rfl | rfl | rfl | rfl | rfl | rfl <;> rcases hp' with rfl | rfl | rfl | rfl | rfl | rfl <;> rfl
theorem Q4h {L:List Int} {a:Int} {v p:Nat} {X:Nat -> Int} (h1:decide ((p:Int) < (L.length:Int))=true)
  (hb:¬ ((zv (zb (Int.fdiv a (2^min (Int.toNat (p:Int)) zk)) &&& zb 1).toNat)==1)=true) :
  Zr L a ((v:Int),(v:Int),(p:Int),Qj X)=some (.next ((v:Int),(v:Int),zw ((p:Int)+1),Qj X)):=by
 unfold Zr
 dsimp only
 rw [aH h1,aH (Ql p),aJ hb]
def mI (N:Nat -> Nat -> Bool):Nat -> Int:=fun i=>((msk 6 (N i):Nat):Int)
theorem Qgm {f:Nat -> Bool} {p:Nat} (hp:p < 6):Qab ((msk 6 f:Nat):Int) (p:Int)=((msk 6 (fun i=>f i || decide (p=i)):Nat):Int):=Q8c (by omega) hp
theorem Q7t {N:Nat -> Nat -> Bool} {v p:Nat} (hv:v < 6) (hp:p < 6) :
  sx (sx (mI N) v (Qab (mI N v) p)) p (Qab (sx (mI N) v (Qab (mI N v) p) p) v)=mI fun u w=>N u w || (decide (u=v) && decide (p=w)) || (decide (u=p) && decide (v=w)):=by
 funext i
 by_cases h1:i=p
 ·subst h1
  simp only [sx,eU]
  by_cases h2:i=v
  ·subst h2
   simp only [eU,mI]
   rw [Qgm hp,Qgm hp]
   congr 2
   try (funext w; simp)
  ·rw [aJ h2]
   simp only [mI]
   rw [Qgm hv]
   congr 2
   funext w
   simp [h2]
 ·simp only [sx,h1,eT]
  by_cases h2:i=v
  ·subst h2
   simp only [eU,mI]
   rw [Qgm hp]
   congr 2
   funext w
   simp [h1]
  ·rw [aJ h2]
   simp only [mI]
   congr 2
   funext w
   simp [h1,h2]
theorem Qs7 {N N':Nat -> Nat -> Bool} (h:∀u w,u < 6->w < 6->N u w=N' u w):Qj (mI N)=Qj (mI N'):=by
 have:∀i,i < 6->mI N i=mI N' i:=fun i hi=>by unfold mI; rw [Zs fun w hw=>h i w hi hw]
 unfold Qj
 rw [this 0 (by omega),this 1 (by omega),this 2 (by omega),this 3 (by omega),this 4 (by omega),this 5 (by omega)]
def dn (v p a b:Nat):Bool:=decide (a < v) || (decide (a=v) && decide (b < p))
def nrP (S:Nat -> Nat) (v p u w:Nat):Bool:=(dn v p u w && (S u).testBit w) || (dn v p w u && (S w).testBit u)
def near (S:Nat -> Nat) (u w:Nat):Bool:=(S u).testBit w || (S w).testBit u
def nrN (n:Nat) (S:Nat -> Nat) (u w:Nat):Bool:=(decide (u < n) && (S u).testBit w) || (decide (w < n) && (S w).testBit u)
theorem Qjg {n:Nat} {S:Nat -> Nat} (hn:n<=6) (h:Gd n S):Zy (Qc n S)=some ⟨(n:Int),Qj (mI (nrN n S))⟩:=by
 have hlen:(Qc n S).length=n:=Zf
 have h64:∀v,v < n->S v < 18446744073709551616:=fun v hv=>by
  have:=Jc (h.inn v hv)
  have:(2:Nat)^n<=256:=aW (n:=2) (by omega) (show n<=8 by omega)
  omega
 have inner:∀v,v < n->Qa fuel (Zr (Qc n S) (S v:Int)) ((v:Int),(v:Int),(0:Int),Qj (mI (nrP S v 0)))=some ((v:Int),Qj (mI (nrP S v n))):=fun v hv=>by
  have h1:=Zt (n:=n) (k0:=0) (by omega) (by omega) (fun i (x:Int × Int × Int × Int × Int × Int)=>((v:Int),(v:Int),i,x)) (body:=Zr (Qc n S) (S v:Int)) (fun k=>Qj (mI (nrP S v k))) ((v:Int),Qj (mI (nrP S v n)))
   (fun k _ hk=>by
    have hd:decide ((k:Int) < ((Qc n S).length:Int))=true:=by rw [hlen]; exact dlt hk
    by_cases hb:(S v).testBit k=true
    ·rw [Q6g (by omega) (by omega) hd (by rw [Qas (h64 v hv) (by omega),hb]; rfl),Q7t (by omega) (by omega)]
     refine congrArg (fun X=>some (Qd.next ((v:Int),(v:Int),zw ((k:Int)+1),Qj (mI X)))) ?_
     funext u w
     unfold nrP dn
     by_cases e1:u=v
     ·by_cases e2:w=k
      ·subst e1; subst e2; simp [hb]
      have e3:decide (w < k+1)=decide (w < k):=by rw [aQ]; simp; omega
      have e3':¬ k=w:=fun e=>e2 e.symm
      subst e1
      simp only [e3,e3',decide_false,Bool.and_false,Bool.or_false,decide_true,eK]
      by_cases e4:w=u
      ·subst e4
       by_cases e5:w=k
       ·exact absurd e5 e2
       have e6:decide (w < k+1)=decide (w < k):=by rw [aQ]; simp; omega
       simp [e6,e2]
      have e7:¬ u=w:=fun e=>e4 e.symm
      simp [e4,e7]
     have e1':¬ v=u:=fun e=>e1 e.symm
     by_cases e2:w=v
     ·by_cases e3:u=k
      ·subst e2; subst e3; simp [hb]
      subst e2
      have e4:decide (u < k+1)=decide (u < k):=by rw [aQ]; simp; omega
      simp [e1,e3,e4]
     have e2':¬ v=w:=fun e=>e2 e.symm
     simp [e1,e2,e1',e2']
    rw [Q4h hd (by rw [Qas (h64 v hv) (by omega),bN.2 hb]; simp)]
    refine congrArg (fun X=>some (Qd.next ((v:Int),(v:Int),zw ((k:Int)+1),Qj (mI X)))) ?_
    have hb':=bN.2 hb
    funext u w
    unfold nrP dn
    have e1:((decide (u < v) || decide (u=v) && decide (w < k)) && (S u).testBit w)=((decide (u < v) || decide (u=v) && decide (w < k+1)) && (S u).testBit w):=by
     by_cases e:u=v
     ·subst e
      by_cases e2:w=k
      ·subst e2; simp [hb']
      have e3:decide (w < k+1)=decide (w < k):=by rw [aQ]; simp; omega
      rw [e3]
     simp [e]
    have e2:((decide (w < v) || decide (w=v) && decide (u < k)) && (S w).testBit u)=((decide (w < v) || decide (w=v) && decide (u < k+1)) && (S w).testBit u):=by
     by_cases e:w=v
     ·subst e
      by_cases e2:u=k
      ·subst e2; simp [hb']
      have e3:decide (u < k+1)=decide (u < k):=by rw [aQ]; simp; omega
      rw [e3]
     simp [e]
    rw [e1,e2])
   (by unfold Zr; dsimp only; rw [hlen,aJ (nlt n)])
  rw [show ((0:Nat):Int)=0 from rfl] at h1
  exact h1
 have h2:=Zt (n:=n) (k0:=0) (by omega) (by omega) (fun i (x:Int × Int × Int × Int × Int × Int)=>(i,x)) (body:=Jk (Qc n S)) (fun k=>Qj (mI (nrP S k 0))) (Qj (mI (nrN n S)))
  (fun k _ hk=>by
   unfold Jk
   dsimp only
   rw [hlen,aH (dlt hk),Q0 hk,aC]
   have:=inner k hk
   unfold Qj at this ⊢
   rw [this,aC]
   dsimp only
   have e:Qj (mI (nrP S k n))=Qj (mI (nrP S (k+1) 0)):=Qs7 fun u w hu hw=>by
    unfold nrP dn
    have key:∀a b,((decide (a < k) || decide (a=k) && decide (b < n)) && (S a).testBit b)=((decide (a < k+1) || decide (a=k+1) && decide (b < 0)) && (S a).testBit b):=fun a b=>by
     by_cases e:a=k
     ·subst e
      cases hb:(S a).testBit b with
      | false=>simp
      | true=>have:=h.inn a hk b hb; simp [this]
     have e3:decide (a < k+1)=decide (a < k):=by rw [aQ]; simp; omega
     simp [e,e3]
    rw [key u w,key w u]
   unfold Qj at e
   rw [e])
  (by
   unfold Jk
   dsimp only
   rw [hlen,aJ (nlt n)]
   have e:Qj (mI (nrP S n 0))=Qj (mI (nrN n S)):=Qs7 fun u w hu hw=>by
    unfold nrP nrN dn; simp
   unfold Qj at e ⊢
   rw [e])
 rw [show ((0:Nat):Int)=0 from rfl] at h2
 have e0:Qj (mI (nrP S 0 0))=(0,0,0,0,0,0):=by
  have:mI (nrP S 0 0)=fun _=>0:=by
   funext i
   unfold mI
   rw [Zs (q:=fun _=>false) fun w _=>by unfold nrP dn; simp]
   rfl
  rw [this]; rfl
 rw [e0] at h2
 unfold Zy
 rw [h2,hlen]
 rfl
theorem Qd2 {m:Int} {N:Nat -> Nat -> Bool} {a c:Nat} (ha:a < 6) (hc:c < 64):Qi ⟨m,Qj (mI N)⟩ (a:Int) (c:Int)=some ((msk 6 (N a)).testBit c):=by
 have hlt:∀i,msk 6 (N i) < 18446744073709551616:=fun i=>Q7n (by omega) (msk_lt 6 _)
 have key:∀i,((zv (zb (Int.fdiv (mI N i) (2^min (Int.toNat (c:Int)) zk)) &&& zb 1).toNat)==1)=(msk 6 (N i)).testBit c:=fun i=>by
  unfold mI
  rw [Qas (hlt i) hc]
  cases (msk 6 (N i)).testBit c <;> rfl
 have ha':a=0\/a=1\/a=2\/a=3\/a=4\/a=5:=by omega
 unfold Qi Qj
 dsimp only
 simp only [key,aH (Ql c)]
 rcases ha' with rfl | rfl | rfl | rfl | rfl | rfl <;> rfl
theorem Qhb {n:Nat} {S:Nat -> Nat} {u w:Nat} (hu:u < n) (hw:w < n):nrN n S u w=near S u w:=by simp [nrN,near,hu,hw]
def prs (n:Nat) (N:Nat -> Nat -> Bool):List (Int × Int):=apL (fun i=>apL (fun j=>if N i j=true then [((i:Int),(j:Int))] else []) (i+1) (n - (i+1))) 0 n
def cls (n:Nat) (S:Nat -> Nat):List (Int × Int × Int) :=
 apL (fun a=>apL (fun b=>apL (fun c=>if ((S b).testBit a && (S b).testBit c && !near S a c)=true then [((a:Int),(b:Int),(c:Int))] else []) (a+1) (n - (a+1))) 0 n) 0 n
theorem Y0 {α:Type} {c:Bool} {x:α}:(if c=true then [x] else []).length<=1:=by split <;> simp
theorem Qdn {k:Nat} (h:k < 100):zw ((k:Int)+1)=((k+1:Nat):Int):=Qmm (by omega)
end Go.Ab
namespace Go.Ab
open Go
theorem Qkb {n:Nat} {S:Nat -> Nat} (hn:n<=8) (h:Gd n S):L64 n S:=fun v hv=>by
 have:=Jc (h.inn v hv)
 have:(2:Nat)^n<=256:=aW (n:=2) (by omega) hn
 omega
def Qb1 (n:Nat) (S:Nat -> Nat) (a b:Nat):List (Int × Int × Int):=apL (fun c=>if ((S b).testBit a && (S b).testBit c && !near S a c)=true then [((a:Int),(b:Int),(c:Int))] else []) (a+1) (n - (a+1))
theorem Qhe {n:Nat} {S:Nat -> Nat} {a b:Nat}:(Qb1 n S a b).length<=n:=by
 have:=Zl (L:=fun c=>if ((S b).testBit a && (S b).testBit c && !near S a c)=true then [((a:Int),(b:Int),(c:Int))] else []) (k0:=a+1) (m:=1) (fun _=>Y0) (n - (a+1))
 unfold Qb1; omega
theorem Qut {n:Nat} {S:Nat -> Nat}:cls n S=apL (fun a=>apL (fun b=>Qb1 n S a b) 0 n) 0 n:=rfl
theorem Qk4 {n:Nat} {S:Nat -> Nat} (hn:n<=6) (h:Gd n S):Zv (Qc n S)=some (cls n S):=by
 have hlen:(Qc n S).length=n:=Zf
 have h64:=Qkb (by omega) h
 generalize hK:(⟨(n:Int),Qj (mI (nrN n S))⟩:Ad)=K
 have hj:∀a c,a < n->c < n->Qi K (a:Int) (c:Int)=some (near S a c):=fun a c ha hc=>by
  rw [<-hK,Qd2 (by omega) (by omega),Qv,Qhb ha hc]
  have:c < 6:=by omega
  simp [this]
 have inner:∀a b (o o1 o2:List (Int × Int × Int)),a < n->b < n->o.length<=1000->Qa fuel (Ve (Qc n S) ((a:Int),o1) (S b:Int) K ((b:Int),o2)) (((a+1:Nat):Int),o)=some (o++Qb1 n S a b):=fun a b o o1 o2 ha hb ho =>
  Z1 (m:=1) (c:=1000) (by omega) (by omega) (fun k (x:List (Int × Int × Int))=>(k,x)) (body:=Ve (Qc n S) ((a:Int),o1) (S b:Int) K ((b:Int),o2)) _ id (fun _=>Y0) ho
   (fun k x h1 h2 hx=>by
    unfold Ve
    dsimp only
    rw [hlen,aH (dlt h2),aH (Ql a),Qas (h64 b hb) (by omega)]
    by_cases c1:(S b).testBit a=true
    ·rw [aH (by rw [c1]; rfl),aH (Ql k),Qas (h64 b hb) (by omega)]
     by_cases c2:(S b).testBit k=true
     ·rw [aH (by rw [c2]; rfl)]
      rw [hj a k ha h2,aC]
      by_cases c3:near S a k=true
      ·rw [c3]; simp
      rw [bN.2 c3,aH (by rfl),aH (by rw [aP]; simp; omega),c1,c2]; simp
     rw [bN.2 c2]; simp
    rw [bN.2 c1]; simp)
   (fun x=>by unfold Ve; dsimp only; rw [hlen,aJ (nlt n)]; rfl)
 have mid:∀a (o o1:List (Int × Int × Int)),a < n->o.length<=500->Qa fuel (Vf (Qc n S) ((a:Int),o1) K) (((0:Nat):Int),o)=some (o++apL (fun b=>if b < n then Qb1 n S a b else []) 0 n):=fun a o o1 ha ho=>by
  have:=Z1 (n:=n) (k0:=0) (m:=6) (c:=500) (by omega) (by omega) (fun k (x:List (Int × Int × Int))=>(k,x)) (body:=Vf (Qc n S) ((a:Int),o1) K) (fun b=>if b < n then Qb1 n S a b else []) id (fun b=>by
    split
    ·have:=Qhe (n:=n) (S:=S) (a:=a) (b:=b); omega
    ·simp) ho
   (fun k x _ h2 hx=>by
    unfold Vf
    dsimp only
    rw [hlen,aH (dlt h2),Q0 h2,aC,Qdn (by omega),inner a k x o1 x ha h2 (by omega),aC,aH h2])
   (fun x=>by unfold Vf; dsimp only; rw [hlen,aJ (nlt n)]; rfl)
  exact this
 have midl:∀a,(apL (fun b=>if b < n then Qb1 n S a b else []) 0 n).length<=36:=fun a=>by
  have:=Zl (L:=fun b=>if b < n then Qb1 n S a b else []) (k0:=0) (m:=6) (fun b=>by
   split
   ·have:=Qhe (n:=n) (S:=S) (a:=a) (b:=b); omega
   simp) n
  omega
 have outer:=Z1 (n:=n) (k0:=0) (m:=36) (c:=0) (by omega) (by omega) (fun k (x:List (Int × Int × Int))=>(k,x)) (body:=J1 (Qc n S) K)
  (fun a=>apL (fun b=>if b < n then Qb1 n S a b else []) 0 n) id midl (out:=[]) (by simp)
  (fun k o _ hk ho=>by
   unfold J1
   dsimp only
   have:=mid k o o hk (by omega)
   rw [show ((0:Nat):Int)=0 from rfl] at this
   rw [hlen,aH (dlt hk),this,aC])
  (fun o=>by unfold J1; dsimp only; rw [hlen,aJ (nlt n)]; rfl)
 unfold Zv
 rw [Qjg hn h,aC,hK]
 rw [show ((0:Nat):Int)=0 from rfl] at outer
 rw [outer,aC,dC,dI,Qut]
 show some (apL _ 0 n)=_
 congr 1
 exact Q5 n fun a _ ha=>Q5 n fun b _ hb=>by rw [aH (by omega)]
theorem Qov {n:Nat} {S:Nat -> Nat} (hn:n<=7) (h64:L64 n S) {i j:Nat} (hi:i < n) (hj:j < n):Qaf (Qc n S) (i:Int) (j:Int)=some (near S i j):=by
 unfold Qaf near
 rw [Q0 hi,aC,Jz (h64 i hi) (by omega),aC]
 cases (S i).testBit j with
 | true=>rfl
 | false=>simp only [aV,eT,Bool.false_or]; rw [Q0 hj,aC,Jz (h64 j hj) (by omega),aC]
theorem Quy {n:Nat} {S:Nat -> Nat} (hn:n<=7) (h64:L64 n S):Qap (Qc n S)=some (prs n (near S)):=by
 have hlen:(Qc n S).length=n:=Zf
 have inner:∀i o o1,i < n->o.length<=100->Qa fuel (Vq (Qc n S) ((i:Int),o1)) (((i+1:Nat):Int),o)=some (o++apL (fun j=>if near S i j=true then [((i:Int),(j:Int))] else []) (i+1) (n - (i+1))):=fun i o o1 hi ho =>
  Z1 (m:=1) (c:=100) (by omega) (by omega) (fun k (x:List (Int × Int))=>(k,x)) (body:=Vq (Qc n S) ((i:Int),o1)) _ id (fun _=>Y0) ho
   (fun k x h1 h2 hx=>by
    unfold Vq
    dsimp only
    rw [hlen,aH (dlt h2),Qov hn h64 hi h2,aC]
    by_cases hb:near S i k=true
    ·rw [aH hb,aH hb,aH (by rw [aP]; simp; omega)]
    rw [aJ hb,aJ hb,dD])
   (fun x=>by unfold Vq; dsimp only; rw [hlen,aJ (nlt n)]; rfl)
 have outer:=Z1 (n:=n) (k0:=0) (m:=7) (c:=0) (by omega) (by omega) (fun k (x:List (Int × Int))=>(k,x)) (body:=Km (Qc n S))
  (fun i=>if i < n then apL (fun j=>if near S i j=true then [((i:Int),(j:Int))] else []) (i+1) (n - (i+1)) else []) id (fun i=>by
   split
   ·have:=Zl (L:=fun j=>if near S i j=true then [((i:Int),(j:Int))] else []) (k0:=i+1) (m:=1) (fun _=>Y0) (n - (i+1)); omega
   simp) (out:=[]) (by simp)
  (fun k o _ hk ho=>by
   unfold Km
   dsimp only
   rw [hlen,aH (dlt hk),Qdn (by omega),inner k o o hk (by omega),aC,aH hk])
  (fun o=>by unfold Km; dsimp only; rw [hlen,aJ (nlt n)]; rfl)
 unfold Qap
 rw [show ((0:Nat):Int)=0 from rfl] at outer
 rw [outer,aC,dC,dI]
 show some (apL _ 0 n)=_
 rw [Q5 n (L':=fun i=>apL (fun j=>if near S i j=true then [((i:Int),(j:Int))] else []) (i+1) (n - (i+1))) fun i _ h=>by rw [aH (by omega)]]
 rfl
theorem Qf4 {n:Nat} {S:Nat -> Nat} (hn:n<=6) (h64:L64 n S):Jx (Qc n S)=some (cls n S):=by
 have hlen:(Qc n S).length=n:=Zf
 have inner:∀a b (o o1 o2:List (Int × Int × Int)),a < n->b < n->o.length<=1000->Qa fuel (Vd (Qc n S) ((b:Int),o2) ((a:Int),o1)) (((a+1:Nat):Int),o)=some (o++Qb1 n S a b):=fun a b o o1 o2 ha hb ho =>
  Z1 (m:=1) (c:=1000) (by omega) (by omega) (fun k (x:List (Int × Int × Int))=>(k,x)) (body:=Vd (Qc n S) ((b:Int),o2) ((a:Int),o1)) _ id (fun _=>Y0) ho
   (fun k x h1 h2 hx=>by
    unfold Vd
    dsimp only
    rw [hlen,aH (dlt h2),Q0 hb,aC,Jz (h64 b hb) (by omega),aC]
    by_cases c1:(S b).testBit a=true
    ·rw [aH c1,Jz (h64 b hb) (by omega),aC]
     by_cases c2:(S b).testBit k=true
     ·rw [aH c2,Qov (by omega) h64 ha h2,aC]
      by_cases c3:near S a k=true
      ·rw [c3]; simp
      rw [bN.2 c3,aH (by rfl),aH (by rw [aP]; simp; omega),c1,c2]; simp
     rw [bN.2 c2]; simp
    rw [bN.2 c1]; simp)
   (fun x=>by unfold Vd; dsimp only; rw [hlen,aJ (nlt n)]; rfl)
 have mid:∀a (o o1:List (Int × Int × Int)),a < n->o.length<=500->Qa fuel (Vg (Qc n S) ((a:Int),o1)) (((0:Nat):Int),o)=some (o++apL (fun b=>if b < n then Qb1 n S a b else []) 0 n):=fun a o o1 ha ho=>by
  have:=Z1 (n:=n) (k0:=0) (m:=6) (c:=500) (by omega) (by omega) (fun k (x:List (Int × Int × Int))=>(k,x)) (body:=Vg (Qc n S) ((a:Int),o1)) (fun b=>if b < n then Qb1 n S a b else []) id (fun b=>by
    split
    ·have:=Qhe (n:=n) (S:=S) (a:=a) (b:=b); omega
    ·simp) ho
   (fun k x _ h2 hx=>by
    unfold Vg
    dsimp only
    rw [hlen,aH (dlt h2),Qdn (by omega),inner a k x o1 x ha h2 (by omega),aC,aH h2])
   (fun x=>by unfold Vg; dsimp only; rw [hlen,aJ (nlt n)]; rfl)
  exact this
 have midl:∀a,(apL (fun b=>if b < n then Qb1 n S a b else []) 0 n).length<=36:=fun a=>by
  have:=Zl (L:=fun b=>if b < n then Qb1 n S a b else []) (k0:=0) (m:=6) (fun b=>by
   split
   ·have:=Qhe (n:=n) (S:=S) (a:=a) (b:=b); omega
   simp) n
  omega
 have outer:=Z1 (n:=n) (k0:=0) (m:=36) (c:=0) (by omega) (by omega) (fun k (x:List (Int × Int × Int))=>(k,x)) (body:=J3 (Qc n S))
  (fun a=>apL (fun b=>if b < n then Qb1 n S a b else []) 0 n) id midl (out:=[]) (by simp)
  (fun k o _ hk ho=>by
   unfold J3
   dsimp only
   have:=mid k o o hk (by omega)
   rw [show ((0:Nat):Int)=0 from rfl] at this
   rw [hlen,aH (dlt hk),this,aC])
  (fun o=>by unfold J3; dsimp only; rw [hlen,aJ (nlt n)]; rfl)
 unfold Jx
 rw [show ((0:Nat):Int)=0 from rfl] at outer
 rw [outer,aC,dC,dI,Qut]
 show some (apL _ 0 n)=_
 congr 1
 exact Q5 n fun a _ ha=>Q5 n fun b _ hb=>by rw [aH (by omega)]
theorem Qmh {α:Type} [DecidableEq α] {a b:List α} (hl:a.length=b.length) (ha:a.length < 1000000) {body:Int->Option (Qd Int (Unit ⊕ Unit))} (ne:α->α->Bool) (hne:∀x y,ne x y=!decide (x=y))
  (hb:∀s,body s=if (decide (s < (a.length:Int)))=true then (lkI a s).bind fun x=>(lkI b s).bind fun y=>if ne x y=true then some (.done (Sum.inl ())) else some (.next (zw (s+1))) else some (.done (Sum.inr ()))) :
  Qa fuel body 0=some (if a=b then .inr () else .inl ()):=by
 rcases Qhy (n:=a.length) (by omega) (fun k=>a[k]?=b[k]?) (fun i (_:Unit)=>i) (body:=body) (fun _=>()) (.inr ()) (.inl ())
  (fun k hk _ hg=>by
   have h2:k < b.length:=by omega
   rw [hb,aH (dlt hk),Qs hk,aC,Qs h2,aC,aJ (by
    rw [hne]
    rw [aG hk,aG h2] at hg
    simpa using hg)])
  (fun k hk _ hg=>by
   have h2:k < b.length:=by omega
   rw [hb,aH (dlt hk),Qs hk,aC,Qs h2,aC,aH (by
    rw [hne]
    rw [aG hk,aG h2] at hg
    simpa using hg)])
  (fun _=>by rw [hb,aJ (nlt _)]) with ⟨hg,h⟩ | ⟨hg,h⟩
 ·rw [show ((0:Nat):Int)=0 from rfl] at h
  rw [h]
  have:a=b:=List.ext_getElem? fun k=>by
   by_cases hk:k < a.length
   ·exact hg k hk
   rw [dU (by omega),dU (by omega)]
  rw [aH this]
 ·rw [show ((0:Nat):Int)=0 from rfl] at h
  rw [h,aJ (fun e=>hg fun k _=>by rw [e])]
theorem ne2 (x y:Int × Int):(!((x.1==y.1) && ((x.2==y.2) && true)))=!decide (x=y):=by
 obtain ⟨a,b⟩:=x; obtain ⟨c,d⟩:=y
 congr 1; rw [aQ]; simp
theorem ne3 (x y:Int × Int × Int):(!((x.1==y.1) && ((x.2.1==y.2.1) && ((x.2.2==y.2.2) && true))))=!decide (x=y):=by
 obtain ⟨a,b,e⟩:=x; obtain ⟨c,d,f⟩:=y
 congr 1; rw [aQ]; simp
theorem Qjo {α:Type} {a b:List α}:(((a.length:Int) != (b.length:Int))=true)↔¬ a.length=b.length:=by
 rw [dK]; exact not_congr ⟨fun h=>by exact_mod_cast h,fun h=>by rw [h]⟩
theorem Qk3 {a b:List (Int × Int)} (ha:a.length < 1000000):Yj a b=some (decide (a=b)):=by
 unfold Yj
 by_cases hl:a.length=b.length
 ·rw [aJ (fun h=>Qjo.1 h hl),Qmh hl ha (body:=Qd4 a b) _ ne2 (fun s=>rfl),aC]
  by_cases e:a=b
  ·simp [e]
  simp [e]
 rw [aH (Qjo.2 hl)]
 have:¬ a=b:=fun e=>hl (by rw [e])
 simp [this]
theorem Qh0 {a b:List (Int × Int × Int)} (ha:a.length < 1000000):Vo a b=some (decide (a=b)):=by
 unfold Vo
 by_cases hl:a.length=b.length
 ·rw [aJ (fun h=>Qjo.1 h hl),Qmh hl ha (body:=Qcw a b) _ ne3 (fun s=>rfl),aC]
  by_cases e:a=b
  ·simp [e]
  simp [e]
 rw [aH (Qjo.2 hl)]
 have:¬ a=b:=fun e=>hl (by rw [e])
 simp [this]
theorem Qx9 {a b:List (Int × Int × Int)} (ha:a.length < 1000000):Zx a b=some (decide (a=b)):=by
 unfold Zx
 by_cases hl:a.length=b.length
 ·rw [aJ (fun h=>Qjo.1 h hl),Qmh hl ha (body:=K8 a b) _ ne3 (fun s=>rfl),aC]
  by_cases e:a=b
  ·simp [e]
  simp [e]
 rw [aH (Qjo.2 hl)]
 have:¬ a=b:=fun e=>hl (by rw [e])
 simp [this]
theorem Qra {n:Nat} {S:Nat -> Nat} (hn:n<=7):(cls n S).length<=343:=by
 rw [Qut]
 have h1:∀a,(apL (fun b=>Qb1 n S a b) 0 n).length<=49:=fun a=>by
  have:=Zl (L:=fun b=>Qb1 n S a b) (k0:=0) (m:=7) (fun b=>by have:=Qhe (n:=n) (S:=S) (a:=a) (b:=b); omega) n
  omega
 have:=Zl (k0:=0) h1 n
 omega
end Go.Ab
namespace Go.Ab
open Go
theorem Qd1 {n:Nat} {S:Nat -> Nat} (r:Nat -> Nat) (h:∀v,v < n->∀j,(S v).testBit j=true->j < n/\r j < r v):Gd n S:=by
 refine ⟨fun v hv j hj=>(h v hv j hj).1,fun v hv hb=>?_⟩
 have hT:Clo n S (msk n fun j=>decide (r j < r v)):=fun w hw hb j hj=>by
  rw [Qv] at hb ⊢
  simp only [aE,aO] at hb ⊢
  have:=h w hw j hj
  exact ⟨this.1,by omega⟩
 have hs:Zm (S v) (msk n fun j=>decide (r j < r v)):=fun j hj=>by
  rw [Qv]
  simp only [aE,aO]
  exact h v hv j hj
 have:=Vp hT hs n v hb
 rw [Qv] at this
 simp at this
theorem Qc9 {α:Type} {d:α} {body:Int × List α->Option (Qd (Int × List α) (List α))} {A i:Nat} {aI:Int} (hA:A<=i) (hi:i < 100000) (ha:aI=(A:Int)) {l:List α} (hl:l.length=i)
  (hb:∀s,body s=if (decide (s.1 > aI))=true then (lkI s.2 (zw (s.1 - 1))).bind fun a=>(lkI s.2 s.1).bind fun _=>some (.next (zw (s.1 - 1),s.2.set (Int.toNat s.1) a)) else some (.done s.2)) :
  Qa fuel body ((i:Int),l++[d])=some ((l++[d]).take (A+1)++l.drop A):=by
 subst ha
 have key:∀(j N k:Nat),k=A+j->k<=i->j < N->Qa N body ((k:Int),(l++[d]).take (k+1)++l.drop k)=some ((l++[d]).take (A+1)++l.drop A):=by
  intro j
  induction j with
  | zero =>
   intro N k hk hki hN
   obtain ⟨N,rfl⟩:∃M,N=M+1:=⟨N - 1,by omega⟩
   have:k=A:=by omega
   subst this
   unfold Qa
   rw [hb]
   dsimp only
   rw [aJ (by simp)]
  | succ j ih =>
   intro N k hk hki hN
   obtain ⟨N,rfl⟩:∃M,N=M+1:=⟨N - 1,by omega⟩
   obtain ⟨k,rfl⟩:∃m,k=m+1:=⟨k - 1,by omega⟩
   have hkl:k < l.length:=by omega
   have hlen:((l++[d]).take (k+1+1)++l.drop (k+1)).length=i+1:=by simp; omega
   have hg:lkI ((l++[d]).take (k+1+1)++l.drop (k+1)) (k:Int)=some l[k]:=by
    rw [Qs (by omega)]
    congr 1
    rw [List.getElem_append_left (by simp; omega),cS,List.getElem_append_left hkl]
   have hg2:∃x,lkI ((l++[d]).take (k+1+1)++l.drop (k+1)) ((k+1:Nat):Int)=some x:=⟨_,Qs (by omega)⟩
   obtain ⟨x,hx⟩:=hg2
   have e1:zw (((k+1:Nat):Int) - 1)=(k:Int):=by rw [w64 (by omega)]; omega
   have hset:((l++[d]).take (k+1+1)++l.drop (k+1)).set (k+1) l[k]=(l++[d]).take (k+1)++l.drop k:=by
    apply List.ext_getElem
    ·simp; omega
    intro q h1 h2
    rw [List.getElem_set]
    by_cases e:k+1=q
    ·subst e
     rw [aH rfl,List.getElem_append_right (by simp; omega)]
     simp only [cZ,aP,eJ,List.getElem_drop]
     congr 1; omega
    rw [aJ e]
    by_cases h3:q < k+1
    ·rw [List.getElem_append_left (by simp; omega),List.getElem_append_left (by simp; omega),cS,cS]
    have hq:q < i+1:=by simpa [hl] using (by rw [cF] at h1; omega:q < i+1)
    rw [List.getElem_append_right (by simp; omega),List.getElem_append_right (by simp; omega)]
    simp only [cZ,aP,eJ,List.getElem_drop]
    congr 1; omega
   unfold Qa
   rw [hb]
   dsimp only
   rw [aH (by simp; omega),e1,hg,aC,hx,aC]
   dsimp only
   rw [aS,hset]
   exact ih N k (by omega) (by omega) (by omega)
 have h:=key (i - A) fuel i (by omega) (bC _) (by unfold fuel; omega)
 rw [<-h]
 congr 2
 rw [List.take_of_length_le (by simp; omega),List.drop_eq_nil_of_le (by omega),dD]
def Qbx {α:Type} (A:Nat) (x:α) (l:List α):List α:=l.take A++x::l.drop A
theorem Qes {α:Type} {d:α} {A i:Nat} (hA:A<=i) {l:List α} (hl:l.length=i) (x:α):((l++[d]).take (A+1)++l.drop A).set A x=Qbx A x l:=by
 unfold Qbx
 have e:(l++[d]).take (A+1)=l.take A++[(l++[d])[A]'(by simp; omega)]:=by
  rw [bL (by simp; omega),List.take_append_of_le_length (by omega)]
 rw [e,dT,List.set_append,aJ (by simp; omega)]
 simp only [cZ]
 rw [show A - min A l.length=0 by omega]
 rfl
theorem Qeq {α:Type} {d:α} {A i:Nat} (hA:A<=i) {l:List α} (hl:l.length=i):∃x,lkI ((l++[d]).take (A+1)++l.drop A) (A:Int)=some x:=⟨_,Qs (by simp; omega)⟩
theorem Qen {o:Int} {k:Nat} (h:0<=o/\o < 256) (hk:0 < k):Int.tmod (zw o) (k:Int)=((o.toNat % k:Nat):Int):=by
 rw [w64 (by omega),Q2u h.1]
 obtain ⟨m,rfl⟩:∃m:Nat,o=(m:Int):=⟨o.toNat,by omega⟩
 simp
structure Qno (d:Ae):Prop where
 n:0<=d.N/\d.N < 256
 o0:0<=d.Order.1/\d.Order.1 < 256
 o1:0<=d.Order.2.1/\d.Order.2.1 < 256
 o2:0<=d.Order.2.2.1/\d.Order.2.2.1 < 256
 o3:0<=d.Order.2.2.2.1/\d.Order.2.2.2.1 < 256
 o4:0<=d.Order.2.2.2.2.1/\d.Order.2.2.2.2.1 < 256
 o5:0<=d.Order.2.2.2.2.2/\d.Order.2.2.2.2.2 < 256
structure Qgf (i:Nat) (l:List Int):Prop where
 len:l.length=i
 inn:∀x∈l,∃a:Nat,a < i/\x=(a:Int)
 nod:l.Nodup
theorem Qep {i A:Nat} {l:List Int} (h:Qgf i l) (hA:A<=i):Qgf (i+1) (Qbx A (i:Int) l):=by
 have hp:(Qbx A (i:Int) l).Perm ((i:Int)::l):=by
  unfold Qbx
  refine List.perm_middle.trans ?_
  rw [List.take_append_drop]
 refine ⟨by rw [hp.length_eq]; simp [h.len],fun x hx=>?_,?_⟩
 ·rcases cI.1 (hp.mem_iff.1 hx) with rfl | hx
  ·exact ⟨i,by omega,rfl⟩
  obtain ⟨a,h1,h2⟩:=h.inn x hx
  exact ⟨a,by omega,h2⟩
 rw [hp.nodup_iff,List.nodup_cons]
 refine ⟨fun hx=>?_,h.nod⟩
 obtain ⟨a,h1,h2⟩:=h.inn _ hx
 omega
theorem Qyu {d:Ae} (hd:Qno d) {m N:Int} (hN:zw (1+(Int.tmod (zw (d.N)) m))=N) {i:Nat} (hi:i < 6) (hiN:(i:Int) < N) {l:List Int} (h:Qgf i l) :
  ∃l',Xr d m ((i:Int),l)=some (.next (zw ((i:Int)+1),l'))/\Qgf (i+1) l':=by
 have hll:(l++([0]:List Int)).length*8<=140737488355328:=by rw [aP,h.len]; simp; omega
 have hi':i=0\/i=1\/i=2\/i=3\/i=4\/i=5:=by omega
 unfold Xr
 dsimp only
 rw [hN,aH (dB hiN)]
 rcases hi' with rfl | rfl | rfl | rfl | rfl | rfl
 ·have hm:=Qen hd.o0 (k:=1) (by omega)
  have hA:(d.Order.1).toNat % 1<=0:=by omega
  have hw:Qa fuel (Qcu d) ((0:Int),l++([0]:List Int))=some ((l++[0]).take ((d.Order.1).toNat % 1+1)++l.drop ((d.Order.1).toNat % 1)):=Qc9 (i:=0) hA (by omega) hm h.len (fun s=>rfl)
  obtain ⟨x,hx⟩:=Qeq hA h.len
  have hm':Int.tmod (zw (d.Order.1)) 1=(((d.Order.1).toNat % 1:Nat):Int):=hm
  refine ⟨Qbx ((d.Order.1).toNat % 1) 0 l,?_,Qep h hA⟩
  rw [aH (by decide),aH hll,hw,aC,hm',hx,aC,aC,aS,Qes hA h.len]
  rfl
 ·have hm:=Qen hd.o1 (k:=2) (by omega)
  have hA:(d.Order.2.1).toNat % 2<=1:=by omega
  have hw:Qa fuel (Qcs d) ((1:Int),l++([0]:List Int))=some ((l++[0]).take ((d.Order.2.1).toNat % 2+1)++l.drop ((d.Order.2.1).toNat % 2)):=Qc9 (i:=1) hA (by omega) hm h.len (fun s=>rfl)
  obtain ⟨x,hx⟩:=Qeq hA h.len
  have hm':Int.tmod (zw (d.Order.2.1)) 2=(((d.Order.2.1).toNat % 2:Nat):Int):=hm
  refine ⟨Qbx ((d.Order.2.1).toNat % 2) 1 l,?_,Qep h hA⟩
  rw [aJ (by decide),aH (by decide),aH hll,hw,aC,hm',hx,aC,aC,aS,Qes hA h.len]
  rfl
 ·have hm:=Qen hd.o2 (k:=3) (by omega)
  have hA:(d.Order.2.2.1).toNat % 3<=2:=by omega
  have hw:Qa fuel (Qcl d) ((2:Int),l++([0]:List Int))=some ((l++[0]).take ((d.Order.2.2.1).toNat % 3+1)++l.drop ((d.Order.2.2.1).toNat % 3)):=Qc9 (i:=2) hA (by omega) hm h.len (fun s=>rfl)
  obtain ⟨x,hx⟩:=Qeq hA h.len
  have hm':Int.tmod (zw (d.Order.2.2.1)) 3=(((d.Order.2.2.1).toNat % 3:Nat):Int):=hm
  refine ⟨Qbx ((d.Order.2.2.1).toNat % 3) 2 l,?_,Qep h hA⟩
  rw [aJ (by decide),aJ (by decide),aH (by decide),aH hll,hw,aC,hm',hx,aC,aC,aS,Qes hA h.len]
  rfl
 ·have hm:=Qen hd.o3 (k:=4) (by omega)
  have hA:(d.Order.2.2.2.1).toNat % 4<=3:=by omega
  have hw:Qa fuel (Qcr d) ((3:Int),l++([0]:List Int))=some ((l++[0]).take ((d.Order.2.2.2.1).toNat % 4+1)++l.drop ((d.Order.2.2.2.1).toNat % 4)):=Qc9 (i:=3) hA (by omega) hm h.len (fun s=>rfl)
  obtain ⟨x,hx⟩:=Qeq hA h.len
  have hm':Int.tmod (zw (d.Order.2.2.2.1)) 4=(((d.Order.2.2.2.1).toNat % 4:Nat):Int):=hm
  refine ⟨Qbx ((d.Order.2.2.2.1).toNat % 4) 3 l,?_,Qep h hA⟩
  rw [aJ (by decide),aJ (by decide),aJ (by decide),aH (by decide),aH hll,hw,aC,hm',hx,aC,aC,aS,Qes hA h.len]
  rfl
 ·have hm:=Qen hd.o4 (k:=5) (by omega)
  have hA:(d.Order.2.2.2.2.1).toNat % 5<=4:=by omega
  have hw:Qa fuel (Qcm d) ((4:Int),l++([0]:List Int))=some ((l++[0]).take ((d.Order.2.2.2.2.1).toNat % 5+1)++l.drop ((d.Order.2.2.2.2.1).toNat % 5)):=Qc9 (i:=4) hA (by omega) hm h.len (fun s=>rfl)
  obtain ⟨x,hx⟩:=Qeq hA h.len
  have hm':Int.tmod (zw (d.Order.2.2.2.2.1)) 5=(((d.Order.2.2.2.2.1).toNat % 5:Nat):Int):=hm
  refine ⟨Qbx ((d.Order.2.2.2.2.1).toNat % 5) 4 l,?_,Qep h hA⟩
  rw [aJ (by decide),aJ (by decide),aJ (by decide),aJ (by decide),aH (by decide),aH hll,hw,aC,hm',hx,aC,aC,aS,Qes hA h.len]
  rfl
 ·have hm:=Qen hd.o5 (k:=6) (by omega)
  have hA:(d.Order.2.2.2.2.2).toNat % 6<=5:=by omega
  have hw:Qa fuel (Qcv d) ((5:Int),l++([0]:List Int))=some ((l++[0]).take ((d.Order.2.2.2.2.2).toNat % 6+1)++l.drop ((d.Order.2.2.2.2.2).toNat % 6)):=Qc9 (i:=5) hA (by omega) hm h.len (fun s=>rfl)
  obtain ⟨x,hx⟩:=Qeq hA h.len
  have hm':Int.tmod (zw (d.Order.2.2.2.2.2)) 6=(((d.Order.2.2.2.2.2).toNat % 6:Nat):Int):=hm
  refine ⟨Qbx ((d.Order.2.2.2.2.2).toNat % 6) 5 l,?_,Qep h hA⟩
  rw [aJ (by decide),aJ (by decide),aJ (by decide),aJ (by decide),aJ (by decide),aH (by decide),aH hll,hw,aC,hm',hx,aC,aC,aS,Qes hA h.len]
  rfl
theorem Qz4 {d:Ae} (hd:Qno d) {m:Int} {n:Nat} (hn:n<=6) (hN:zw (1+(Int.tmod (zw (d.N)) m))=(n:Int)):∃l,Qa fuel (Xr d m) (0,([]:List Int))=some l/\Qgf n l:=by
 have h:=Zq (n:=n) (k0:=0) (by omega) (by omega) (fun i (x:List Int)=>(i,x)) (body:=Xr d m) Qgf (Qgf n)
  (fun k t _ hk hI=>by
   obtain ⟨l',h1,h2⟩:=Qyu hd hN (by omega) (by omega) hI
   exact .inl ⟨l',h1,h2⟩)
  (fun t ht=>by
   refine ⟨t,?_,ht⟩
   unfold Xr
   dsimp only
   rw [hN,aJ (nlt n)]) [] ⟨rfl,fun x hx=>by simp at hx,List.nodup_nil⟩
 exact h
def Qid (n:Nat) (l:List Int) (S:Nat -> Nat):Prop:=∀v,v < n->∀x,(S v).testBit x=true->∃a b:Nat,a < b/\b < n/\l[a]?=some (x:Int)/\l[b]?=some (v:Int)
theorem Quf {n:Nat} {l:List Int} {S:Nat -> Nat} (hp:Qgf n l) (h:Qid n l S):Gd n S:=by
 have inj:∀a b:Nat,∀x:Int,l[a]?=some x->l[b]?=some x->a=b:=fun a b x h1 h2=>by
  have ha:=(aD.1 h1)
  have hb:=(aD.1 h2)
  obtain ⟨ha,ha2⟩:=ha
  obtain ⟨hb,hb2⟩:=hb
  have:=List.pairwise_iff_getElem.1 hp.nod
  rcases Nat.lt_trichotomy a b with h | h | h
  ·exact absurd (ha2.trans hb2.symm) (this a b ha hb h)
  ·exact h
  exact absurd (hb2.trans ha2.symm) (this b a hb ha h)
 have hr:∃r:Nat -> Nat,∀a x:Nat,l[a]?=some (x:Int)->r x=a:=by
  classical
  refine ⟨fun x=>if h:∃a,l[a]?=some (x:Int) then Classical.choose h else 0,fun a x h=>?_⟩
  have:∃a,l[a]?=some (x:Int):=⟨a,h⟩
  simp only [dif_pos this]
  exact inj _ _ _ (Classical.choose_spec this) h
 obtain ⟨r,hr⟩:=hr
 refine Qd1 r fun v hv j hj=>?_
 obtain ⟨a,b,h1,h2,h3,h4⟩:=h v hv j hj
 rw [hr a j h3,hr b v h4]
 obtain ⟨c,h5,h6⟩:=hp.inn (j:Int) (aF h3)
 exact ⟨by omega,h1⟩
theorem Qhd {n v:Nat} {S:Nat -> Nat} {y:Nat}:(Qc n S).set v (y:Int)=Qc n fun u=>if u=v then y else S u:=by
 apply List.ext_getElem
 ·simp [Qc,Qb4]
 intro k h1 h2
 rw [List.getElem_set]
 simp only [Qc,Qb4,List.getElem_map,List.getElem_range]
 by_cases e:v=k
 ·subst e; simp
 have:¬ k=v:=fun h=>e h.symm
 simp [e,this]
theorem Qz0 {d:Ae} {m:Int} {n:Nat} (hn:n<=6) (hN:zw (1+(Int.tmod (zw (d.N)) m))=(n:Int)) {l:List Int} (hp:Qgf n l) (hn1:1<=n) :
  ∃S,Qa fuel (Ys d m l) (0,1,List.replicate n (0:Int))=some (Qc n S)/\Qid n l S:=by
 have hlen:∀S,(Qc n S).length=n:=fun S=>Zf
 have inner:∀(j B:Nat) (S:Nat -> Nat) (s:Int × List Int),j < n->B<=100->Qid n l S->∃r:Int × List Int,Qa fuel (Yq (s.1,(j:Int),s.2) d l) ((B:Int),((0:Nat):Int),Qc n S)=some r/\∃(B':Nat) (S':Nat -> Nat),r=((B':Int),Qc n S')/\B'<=B+j/\Qid n l S':=fun j B S s hj hB hS =>
  Zq (n:=j) (k0:=0) (by omega) (by omega) (fun i (x:Int × List Int)=>(x.1,i,x.2)) (body:=Yq (s.1,(j:Int),s.2) d l)
   (fun k t=>∃(B':Nat) (S':Nat -> Nat),t=((B':Int),Qc n S')/\B'<=B+k/\Qid n l S') (fun r=>∃(B':Nat) (S':Nat -> Nat),r=((B':Int),Qc n S')/\B'<=B+j/\Qid n l S')
   (fun k t _ hk hI=>by
    left
    obtain ⟨B',S',rfl,hB',hS'⟩:=hI
    unfold Yq
    try dsimp only
    rw [aH (dlt hk),aH (Ql B'),Qmm (by omega:B' < 9223372036854775807)]
    split
    ·have hjl:j < l.length:=by rw [hp.len]; exact hj
     have hkl:k < l.length:=by omega
     obtain ⟨v,hv,hv2⟩:=hp.inn l[j] (bO hjl)
     obtain ⟨x,hx,hx2⟩:=hp.inn l[k] (bO hkl)
     rw [Qs hjl,aC,hv2,Q0 hv,aC,Qs hkl,aC,hx2,aH (Ql x),aS]
     have hg:=Quf hp hS'
     have h64:=Qkb (by omega) hg
     rw [K3 (by omega),Jo (h64 v hv) (Qac (by omega)),Qhd]
     refine ⟨_,rfl,B'+1,_,rfl,by omega,fun u hu y hy=>?_⟩
     try dsimp only at hy
     by_cases e:u=v
     ·subst e
      rw [aH rfl,bJ,Qo,aN] at hy
      rcases hy with hy | hy
      ·exact hS' u hu y hy
      have:=aR hy
      subst this
      exact ⟨k,j,hk,hj,by rw [aG hkl,hx2],by rw [aG hjl,hv2]⟩
     rw [aJ e] at hy
     exact hS' u hu y hy
    exact ⟨_,rfl,B'+1,S',rfl,by omega,hS'⟩)
   (fun t ht=>by
    obtain ⟨B',S',rfl,hB',hS'⟩:=ht
    unfold Yq
    dsimp only
    rw [aJ (nlt j)]
    exact ⟨_,rfl,B',S',rfl,hB',hS'⟩) ((B:Int),Qc n S) ⟨B,S,rfl,by omega,hS⟩
 have h:=Zq (n:=n) (k0:=1) hn1 (by omega) (fun i (x:Int × List Int)=>(x.1,i,x.2)) (body:=Ys d m l)
  (fun k t=>∃(B':Nat) (S':Nat -> Nat),t=((B':Int),Qc n S')/\B'<=6*k/\Qid n l S') (fun r=>∃S,r=Qc n S/\Qid n l S)
  (fun k t h1 hk hI=>by
   left
   obtain ⟨B',S',rfl,hB',hS'⟩:=hI
   obtain ⟨r,h2,B2,S2,rfl,hB2,hS2⟩:=inner k B' S' ((B':Int),Qc n S') hk (by omega) hS'
   unfold Ys
   dsimp only
   try dsimp only at h2
   rw [show ((0:Nat):Int)=0 from rfl] at h2
   rw [hN,aH (dlt hk),h2,aC]
   exact ⟨_,rfl,B2,S2,rfl,by omega,hS2⟩)
  (fun t ht=>by
   obtain ⟨B',S',rfl,hB',hS'⟩:=ht
   unfold Ys
   dsimp only
   rw [hN,aJ (nlt n)]
   exact ⟨_,rfl,S',rfl,hS'⟩) (0,List.replicate n (0:Int)) ⟨0,fun _=>0,by
    have:List.replicate n (0:Int)=Qc n fun _=>0:=by
     apply List.ext_getElem
     ·simp [Qc,Qb4]
     intro k h1 h2; simp [Qc,Qb4]
    rw [this]; rfl,by omega,fun v _ x hx=>by simp at hx⟩
 obtain ⟨r,h1,S,rfl,h2⟩:=h
 exact ⟨S,h1,h2⟩
theorem Qz3 {d:Ae} (hd:Qno d) {m:Nat} (hm:1<=m/\m<=6):∃S,Vt d (m:Int)=some (Qc (1+d.N.toNat % m) S)/\Gd (1+d.N.toNat % m) S/\1+d.N.toNat % m<=m:=by
 have hlt:d.N.toNat % m < m:=cL _ (by omega)
 generalize hn:1+d.N.toNat % m=n at *
 have hN:zw (1+(Int.tmod (zw (d.N)) (m:Int)))=(n:Int):=by
  rw [Qen hd.n (by omega),w64 (by omega)]; omega
 obtain ⟨l,h1,h2⟩:=Qz4 hd (by omega) hN
 obtain ⟨S,h3,h4⟩:=Qz0 (by omega) hN h2 (by omega)
 refine ⟨S,?_,Quf h2 h4,by omega⟩
 unfold Vt
 rw [aH (by omega),h1,aC,hN,aH (by omega),aS,h3]
 rfl
end Go.Ab
namespace Go.Ab
open Go
theorem one5 {cs:List AV} (h:WT (.int .u8) cs):∃a:Int,cs=[(AV.int .u8) a]/\(Lit.int .u8 a).wf=true:=by
 obtain ⟨n,rfl,w⟩:=h
 exact ⟨n,rfl,w⟩
theorem Q8n {cs:List AV} (h:WT (.cat (.int .u8) (.cat (.int .u8) (.cat (.int .u8) (.cat (.int .u8) (.cat (.int .u8) (.cat (.int .u8) .unit)))))) cs):∃x:(Int × Int × Int × Int × Int × Int),AV.agg cs=(fun x:(Int × Int × Int × Int × Int × Int)=>AV.agg [.int .u8 x.1,.int .u8 x.2.1,.int .u8 x.2.2.1,.int .u8 x.2.2.2.1,.int .u8 x.2.2.2.2.1,.int .u8 x.2.2.2.2.2]) x/\((Lit.int .u8 x.1).wf=true/\(Lit.int .u8 x.2.1).wf=true/\(Lit.int .u8 x.2.2.1).wf=true/\(Lit.int .u8 x.2.2.2.1).wf=true/\(Lit.int .u8 x.2.2.2.2.1).wf=true/\(Lit.int .u8 x.2.2.2.2.2).wf=true):=by
 obtain ⟨_,_,rfl,a0,r0⟩:=h
 obtain ⟨v0,e0,w0⟩:=one5 a0
 cases e0
 obtain ⟨_,_,rfl,a1,r1⟩:=r0
 obtain ⟨v1,e1,w1⟩:=one5 a1
 cases e1
 obtain ⟨_,_,rfl,a2,r2⟩:=r1
 obtain ⟨v2,e2,w2⟩:=one5 a2
 cases e2
 obtain ⟨_,_,rfl,a3,r3⟩:=r2
 obtain ⟨v3,e3,w3⟩:=one5 a3
 cases e3
 obtain ⟨_,_,rfl,a4,r4⟩:=r3
 obtain ⟨v4,e4,w4⟩:=one5 a4
 cases e4
 obtain ⟨_,_,rfl,a5,r5⟩:=r4
 obtain ⟨v5,e5,w5⟩:=one5 a5
 cases e5
 cases r5
 exact ⟨(v0,v1,v2,v3,v4,v5),rfl,⟨w0,w1,w2,w3,w4,w5⟩⟩
theorem Q8m {cs:List AV} (h:WT (.int .u16) cs):∃a:Int,cs=[(AV.int .u16) a]/\(Lit.int .u16 a).wf=true:=by
 obtain ⟨n,rfl,w⟩:=h
 exact ⟨n,rfl,w⟩
def K7 (x:Ae):Prop:=((Lit.int .u8 x.N).wf=true)/\(((Lit.int .u8 x.Order.1).wf=true/\(Lit.int .u8 x.Order.2.1).wf=true/\(Lit.int .u8 x.Order.2.2.1).wf=true/\(Lit.int .u8 x.Order.2.2.2.1).wf=true/\(Lit.int .u8 x.Order.2.2.2.2.1).wf=true/\(Lit.int .u8 x.Order.2.2.2.2.2).wf=true))/\((Lit.int .u16 x.Edges).wf=true)
theorem rdTharuspexref31_Draft {cs:List AV} (h:WT (.cat (.int .u8) (.cat (.cat (.int .u8) (.cat (.int .u8) (.cat (.int .u8) (.cat (.int .u8) (.cat (.int .u8) (.cat (.int .u8) .unit)))))) (.cat (.int .u16) .unit))) cs):∃x:Ae,AV.agg cs=eTharuspexref31_Draft x/\K7 x:=by
 obtain ⟨_,_,rfl,a0,r0⟩:=h
 obtain ⟨v0,e0,w0⟩:=one5 a0
 cases e0
 obtain ⟨_,_,rfl,a1,r1⟩:=r0
 obtain ⟨v1,e1,w1⟩:=Q8n a1
 cases e1
 obtain ⟨_,_,rfl,a2,r2⟩:=r1
 obtain ⟨v2,e2,w2⟩:=Q8m a2
 cases e2
 cases r2
 exact ⟨⟨v0,v1,v2⟩,rfl,⟨w0,w1,w2⟩⟩
theorem Q79 {cs:List AV} (h:WT (.int .u64) cs):∃a:Int,cs=[(AV.int .u64) a]/\(Lit.int .u64 a).wf=true:=by
 obtain ⟨n,rfl,w⟩:=h
 exact ⟨n,rfl,w⟩
theorem one3 {cs:List AV} (h:WT (.int .i64) cs):∃a:Int,cs=[eI a]/\(Lit.int .i64 a).wf=true:=by
 obtain ⟨n,rfl,w⟩:=h
 exact ⟨n,rfl,w⟩
def Qa7 (x:Ac):Prop:=((Lit.int .i64 x.X).wf=true)/\((Lit.int .i64 x.Y).wf=true)/\((Lit.int .u64 x.Z).wf=true)
theorem rdTapi_Fact {cs:List AV} (h:WT (.cat (.int .i64) (.cat (.int .i64) (.cat (.int .u64) .unit))) cs):∃x:Ac,AV.agg cs=eTapi_Fact x/\Qa7 x:=by
 obtain ⟨_,_,rfl,a0,r0⟩:=h
 obtain ⟨v0,e0,w0⟩:=one3 a0
 cases e0
 obtain ⟨_,_,rfl,a1,r1⟩:=r0
 obtain ⟨v1,e1,w1⟩:=one3 a1
 cases e1
 obtain ⟨_,_,rfl,a2,r2⟩:=r1
 obtain ⟨v2,e2,w2⟩:=Q79 a2
 cases e2
 cases r2
 exact ⟨⟨v0,v1,v2⟩,rfl,⟨w0,w1,w2⟩⟩
theorem Q8x {x:AV} (h:WT (.cat (.int .i64) (.cat (.int .i64) (.cat (.int .u64) .unit))) x.flat /\ (if true then x=.agg x.flat else x.cell=true)):∃a:Ac,x=eTapi_Fact a/\Qa7 a:=by
 obtain ⟨a,h1,h2⟩:=rdTapi_Fact h.1
 have h3:x=.agg x.flat := h.2
 exact ⟨a,h3.trans h1,h2⟩
theorem one31 {cs:List AV} (h:WT (.slice true true 3 (.cat (.int .i64) (.cat (.int .i64) (.cat (.int .u64) .unit)))) cs):∃a:(List Ac),cs=[(eL true eTapi_Fact) a]/\(a.length<=maxLen/\∀y0∈a,Qa7 y0):=by
 obtain ⟨xs,rfl,hl,hx⟩:=h
 obtain ⟨l,rfl,hr⟩:=Q14 (enc:=eTapi_Fact) (R:=fun a=>Qa7 a) (fun x hm=>Q8x (hx x hm))
 exact ⟨l,rfl,by simpa using hl,hr⟩
end Go.Ab
namespace Go.Ab
open Go
theorem Q8b {n:Int} (h:(Lit.int .u8 n).wf=true):0<=n/\n<=255:=by
 simpa [Lit.wf,IntKind.min,IntKind.max,IntKind.bits,IntKind.signed] using h
theorem Q6o {n:Int} (h:(Lit.int .u64 n).wf=true):0<=n/\n<=18446744073709551615:=by
 simpa [Lit.wf,IntKind.min,IntKind.max,IntKind.bits,IntKind.signed] using h
theorem wf8 {n:Int} (h:(Lit.int .u8 n).wf=true):0<=n/\n < 256:=by have:=Q8b h; omega
theorem Q6a {n:Int} (h:(Lit.int .u64 n).wf=true):0<=n/\n < 18446744073709551616:=by have:=Q6o h; omega
theorem Qvg:Qc2=some true:=by kernel_rfl
theorem Q5j {n:Nat} {N:Nat -> Nat -> Bool} {p:Int × Int}:p∈prs n N↔∃i j:Nat,i < j/\j < n/\N i j=true/\p=((i:Int),(j:Int)):=by
 unfold prs
 rw [Z3]
 constructor
 ·rintro ⟨i,_,h2,h3⟩
  obtain ⟨j,h4,h5,h6⟩:=(Z3 _).1 h3
  split at h6
  ·rename_i hN
   exact ⟨i,j,by omega,by omega,hN,bZ.1 h6⟩
  cases h6
 rintro ⟨i,j,h1,h2,h3,rfl⟩
 refine ⟨i,by omega,by omega,(Z3 _).2 ⟨j,by omega,by omega,?_⟩⟩
 rw [aH h3]; simp
def Q3b (a i:Nat):Nat := msk 64 fun b=>a.testBit b && !decide (i=b)
theorem Q1y {a i:Nat} (ha:a < 18446744073709551616) (b:Nat):(Q3b a i).testBit b=(a.testBit b && !decide (i=b)):=by
 unfold Q3b
 rw [Qv]
 by_cases h:b < 64
 ·simp [h]
 have:a.testBit b=false:=Nat.testBit_lt_two_pow (bR (show a < 2^64 from ha) (aW (by omega) (by omega)))
 simp [h,this]
def turn (S:Nat -> Nat) (i j:Nat):Nat -> Nat := fun u=>if u=i then S i ||| 2^j else if u=j then Q3b (S j) i else S u
theorem Q1w {d:Ae} (h:K7 d):Qno d:=by
 obtain ⟨h0,⟨h1,h2,h3,h4,h5,h6⟩,_⟩:=h
 exact ⟨wf8 h0,wf8 h1,wf8 h2,wf8 h3,wf8 h4,wf8 h5,wf8 h6⟩
end Go.Ab
namespace Go.Ab
open Go
theorem near_symm {S:Nat -> Nat} {u w:Nat}:near S u w=near S w u:=by unfold near; exact Bool.or_comm _ _
theorem Qfn {n:Nat} {S:Nat -> Nat} (h:Gd n S) {u:Nat} (hu:u < n):near S u u=false:=by
 have:(S u).testBit u=false:=bN.2 fun e=>h.acyc u hu (Jf n u e)
 unfold near; rw [this]; rfl
theorem Qn6 {n:Nat} {S T:Nat -> Nat} (hS:Gd n S) (hT:Gd n T):prs n (near S)=prs n (near T)↔∀u w,u < n->w < n->near S u w=near T u w:=by
 constructor
 ·intro h
  have key:∀u w,u < w->w < n->near S u w=near T u w:=fun u w h1 h2=>by
   have e:∀N,((u:Int),(w:Int))∈prs n N↔N u w=true:=fun N=>by
    rw [Q5j]
    constructor
    ·rintro ⟨i,j,_,_,h5,h6⟩
     have e1:u=i:=by have:=congrArg Prod.fst h6; exact dE.1 this
     have e2:w=j:=by have:=congrArg Prod.snd h6; exact dE.1 this
     rw [e1,e2]; exact h5
    intro h5; exact ⟨u,w,h1,h2,h5,rfl⟩
   rw [aQ,<-e (near S),<-e (near T),h]
  intro u w hu hw
  rcases Nat.lt_trichotomy u w with h1 | h1 | h1
  ·exact key u w h1 hw
  ·subst h1; rw [Qfn hS hu,Qfn hT hu]
  rw [near_symm,near_symm (S:=T)]; exact key w u h1 hu
 intro h
 unfold prs
 exact Q5 n fun i _ hi=>Q5 _ fun j h1 h2=>by rw [h i j (by omega) (by omega)]
theorem Q4m {n:Nat} {S:Nat -> Nat} (h:Gd n S) {u w:Nat} (hn:¬ (u < n/\w < n)):nrN n S u w=false:=by
 unfold nrN
 have key:∀a b,¬ (a < n/\b < n)->(decide (a < n) && (S a).testBit b)=false:=fun a b hab=>by
  by_cases ha:a < n
  ·have:(S a).testBit b=false:=bN.2 fun e=>hab ⟨ha,h.inn a ha b e⟩
   rw [this]; simp
  simp [ha]
 rw [key u w hn,key w u (fun e=>hn ⟨e.2,e.1⟩)]; rfl
end Go.Ab
namespace Go.Ab
open Go
theorem Xp {n:Nat} {S:Nat -> Nat} (h:Gd n S):∃r:Nat -> Nat,∀v,v < n->∀j,(S v).testBit j=true->r j < r v:=by
 have e:=Qui.2 h
 obtain ⟨h1,r,M,h2,h3⟩:=Qo2 (n:=n) (S:=S) n
 have hall:=(Qop h1).1 e
 exact ⟨r,fun v hv j hj=>(h3 v (hall v hv) j hj).2⟩
def Xa (S:Nat -> Nat) (a b c:Nat):Bool:=(S b).testBit a && (S b).testBit c && !near S a c
theorem Qjs {n:Nat} {S:Nat -> Nat} {p:Int × Int × Int}:p∈cls n S↔∃a b c:Nat,a < c/\c < n/\b < n/\Xa S a b c=true/\p=((a:Int),(b:Int),(c:Int)):=by
 unfold cls
 rw [Z3]
 constructor
 ·rintro ⟨a,_,ha,h⟩
  obtain ⟨b,_,hb,h⟩:=(Z3 _).1 h
  obtain ⟨c,hc,hc2,h⟩:=(Z3 _).1 h
  split at h
  ·rename_i hN
   exact ⟨a,b,c,by omega,by omega,by omega,hN,bZ.1 h⟩
  cases h
 rintro ⟨a,b,c,h1,h2,h3,h4,rfl⟩
 refine ⟨a,by omega,by omega,(Z3 _).2 ⟨b,by omega,by omega,(Z3 _).2 ⟨c,by omega,by omega,?_⟩⟩⟩
 unfold Xa at h4
 rw [aH h4]; simp
theorem Qez {n:Nat} {S T:Nat -> Nat}:cls n S=cls n T↔∀a b c,a < c->c < n->b < n->Xa S a b c=Xa T a b c:=by
 constructor
 ·intro h a b c h1 h2 h3
  have e:∀U,((a:Int),(b:Int),(c:Int))∈cls n U↔Xa U a b c=true:=fun U=>by
   rw [Qjs]
   constructor
   ·rintro ⟨a',b',c',_,_,_,h5,h6⟩
    simp only [aX,dE] at h6
    obtain ⟨rfl,rfl,rfl⟩:=h6
    exact h5
   intro h5; exact ⟨a,b,c,h1,h2,h3,h5,rfl⟩
  rw [aQ,<-e S,<-e T,h]
 intro h
 unfold cls
 refine Q5 n fun a _ ha=>Q5 n fun b _ hb=>Q5 _ fun c h1 h2=>?_
 have:=h a b c (by omega) (by omega) (by omega)
 unfold Xa at this
 rw [this]
theorem colB_symm {S:Nat -> Nat} {a b c:Nat}:Xa S a b c=Xa S c b a:=by
 unfold Xa; rw [near_symm,Bool.and_comm ((S b).testBit a)]
theorem Qnu {n:Nat} {S T:Nat -> Nat} (h:cls n S=cls n T) (hS:Gd n S) (hT:Gd n T) {a b c:Nat} (hac:a≠c) (ha:a < n) (hc:c < n) (hb:b < n):Xa S a b c=Xa T a b c:=by
 rcases eW hac with h1 | h1
 ·exact Qez.1 h a b c h1 hc hb
 rw [colB_symm,colB_symm (S:=T)]; exact Qez.1 h c b a h1 ha hb
section
variable {n i j:Nat} {S:Nat -> Nat} (hn:n<=7) (h:Gd n S) (hi:i < n) (hj:j < n) (hij:i≠j) (he:(S j).testBit i=true)
include hn h hi hj hij he
theorem Yi (u x:Nat) (hu:u < n):(turn S i j u).testBit x=if u=i then (S i).testBit x || decide (j=x) else if u=j then (S j).testBit x && !decide (i=x) else (S u).testBit x:=by
 have h64:=Qkb (show n<=8 by omega) h
 unfold turn
 by_cases e:u=i
 ·simp only [e,eU]; rw [bJ,Qo]
 by_cases e2:u=j
 ·simp only [e2,eU]
  rw [aJ (fun h=>hij h.symm),aJ (fun h=>hij h.symm),Q1y (h64 j hj)]
 rw [aJ e,aJ e2,aJ e,aJ e2]
theorem Qrp {u w:Nat} (hu:u < n) (hw:w < n):near (turn S i j) u w=near S u w:=by
 have hji:(S i).testBit j=false:=by
  obtain ⟨r,hr⟩:=Xp h
  rw [bN]
  intro e
  have:=hr i hi j e
  have:=hr j hj i he
  omega
 have hji':¬ j=i:=fun e=>hij e.symm
 unfold near
 rw [Yi hn h hi hj hij he u w hu,Yi hn h hi hj hij he w u hw]
 by_cases e1:u=i
 ·subst e1
  by_cases e2:w=u
  ·subst e2; simp [hji']
  by_cases e3:w=j
  ·subst e3; simp [hji,he,hji']
  have:¬ j=w:=fun e=>e3 e.symm
  simp [e2,e3,this]
 by_cases e2:u=j
 ·subst e2
  by_cases e3:w=i
  ·subst e3; simp [he,hij]
  have:¬ i=w:=fun e=>e3 e.symm
  by_cases e4:w=u
  ·subst e4; simp [e1,this]
  simp [e1,e3,e4,this]
 by_cases e3:w=i
 ·subst e3
  have:¬ j=u:=fun e=>e2 e.symm
  simp [e1,e2,this]
 by_cases e4:w=j
 ·subst e4
  have:¬ i=u:=fun e=>e1 e.symm
  simp [e1,e2,e3,this]
 simp [e1,e2,e3,e4]
def Qiy (S:Nat -> Nat) (i j:Nat):Prop:=S j=S i ||| 2^i
omit hn h hi hj hij he in
theorem Qgv (hc:Qiy S i j) (x:Nat):(S j).testBit x=((S i).testBit x || decide (i=x)):=by
 unfold Qiy at hc
 rw [hc,bJ,Qo]
theorem Qgn (hc:Qiy S i j):Gd n (turn S i j):=by
 obtain ⟨r,hr⟩:=Xp h
 have hrij:=hr j hj i he
 refine Qd1 (fun x=>if x=j then 2*r i+1 else 2*r x+2) fun v hv x hx=>?_
 rw [Yi hn h hi hj hij he v x hv] at hx
 have hii:¬ (S i).testBit i=true:=fun e=>by have:=hr i hi i e; omega
 by_cases e1:v=i
 ·subst e1
  rw [aH rfl] at hx
  by_cases e2:x=j
  ·subst e2
   refine ⟨hj,?_⟩
   rw [aH rfl,aJ hij]; omega
  have hx:(S v).testBit x=true:=by
   rw [aN] at hx
   exact hx.resolve_right fun e=>e2 (aR e).symm
  refine ⟨h.inn v hv x hx,?_⟩
  rw [aJ e2,aJ hij]
  have:=hr v hv x hx; omega
 rw [aJ e1] at hx
 by_cases e2:v=j
 ·subst e2
  rw [aH rfl,aE] at hx
  have hxi:¬ i=x:=fun e=>by simp [e] at hx
  have hx2:=hx.1
  rw [Qgv hc] at hx2
  have hx2:(S i).testBit x=true:=by simpa [hxi] using hx2
  refine ⟨h.inn i hi x hx2,?_⟩
  have h3:=hr i hi x hx2
  have:¬ x=v:=fun e=>by rw [e] at h3; omega
  rw [aJ this,aH rfl]; omega
 rw [aJ e2] at hx
 refine ⟨h.inn v hv x hx,?_⟩
 have h3:=hr v hv x hx
 rw [aJ e2]
 split
 ·rename_i e3; subst e3; omega
 omega
theorem Q2c (hc:Qiy S i j):cls n S=cls n (turn S i j):=by
 have nr:∀p q,p < n->q < n->near (turn S i j) p q=near S p q:=fun p q hp hq=>Qrp hn h hi hj hij he hp hq
 have fwd:∀p b q,p≠q->p < n->q < n->b < n->Xa S p b q=true->(turn S i j b).testBit p=true:=fun p b q hpq hp hq hb hcol=>by
  unfold Xa at hcol
  simp only [aE,bK] at hcol
  obtain ⟨⟨k1,k2⟩,k3⟩:=hcol
  rw [Yi hn h hi hj hij he b p hb]
  by_cases e1:b=i
  ·rw [aH e1,<-e1,k1]; rfl
  rw [aJ e1]
  by_cases e2:b=j
  ·subst e2
   rw [aH rfl,k1]
   have:¬ i=p:=fun e=>by
    subst e
    rw [Qgv hc] at k2
    have:(S i).testBit q=true:=by simpa [hpq] using k2
    unfold near at k3
    rw [this] at k3; cases k3
   simp [this]
  rw [aJ e2,k1]
 have bwd:∀p b q,p≠q->p < n->q < n->b < n->Xa (turn S i j) p b q=true->(S b).testBit p=true:=fun p b q hpq hp hq hb hcol=>by
  unfold Xa at hcol
  rw [nr p q hp hq] at hcol
  simp only [aE,bK] at hcol
  obtain ⟨⟨k1,k2⟩,k3⟩:=hcol
  rw [Yi hn h hi hj hij he b p hb] at k1
  rw [Yi hn h hi hj hij he b q hb] at k2
  by_cases e1:b=i
  ·rw [aH e1] at k1 k2
   subst e1
   by_cases e2:j=p
   ·subst e2
    have:(S b).testBit q=true:=by simpa [hpq] using k2
    have:(S j).testBit q=true:=by rw [Qgv hc,this]; rfl
    unfold near at k3
    rw [this] at k3; cases k3
   simpa [e2] using k1
  rw [aJ e1] at k1
  by_cases e2:b=j
  ·rw [aH e2,aE] at k1
   rw [e2]; exact k1.1
  rw [aJ e2] at k1; exact k1
 refine Qez.2 fun a b c h1 h2 h3=>?_
 have ha:a < n:=by omega
 rw [aQ]
 constructor
 ·intro hcol
  have f1:=fwd a b c (by omega) ha h2 h3 hcol
  have f2:=fwd c b a (by omega) h2 ha h3 (by rw [colB_symm]; exact hcol)
  unfold Xa at hcol ⊢
  rw [nr a c ha h2,f1,f2]
  simp only [aE] at hcol ⊢
  exact ⟨⟨trivial,trivial⟩,hcol.2⟩
 intro hcol
 have f1:=bwd a b c (by omega) ha h2 h3 hcol
 have f2:=bwd c b a (by omega) h2 ha h3 (by rw [colB_symm]; exact hcol)
 unfold Xa at hcol ⊢
 rw [nr a c ha h2] at hcol
 rw [f1,f2]
 simp only [aE] at hcol ⊢
 exact ⟨⟨trivial,trivial⟩,hcol.2⟩
end
theorem Q2d {n:Nat} {S T:Nat -> Nat} (h:Qc n S=Qc n T) {v:Nat} (hv:v < n):S v=T v:=by
 have h1:=Q0 (n:=n) (w:=S) hv
 rw [h,Q0 hv] at h1
 exact (dE.1 (dR h1)).symm
end Go.Ab
