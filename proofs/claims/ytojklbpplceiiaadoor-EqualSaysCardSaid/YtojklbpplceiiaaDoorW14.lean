/- What functions compute. No conditions. -/
import Derived.Test.YtojklbpplceiiaaDoorProg
import Derived.Test.YtojklbpplceiiaaDoorW11
import Derived.KernelRfl
import Derived.Test.YtojklbpplceiiaaDoorW12
import Derived.Test.YtojklbpplceiiaaDoorW13
set_option linter.all false
namespace Go.Ab
open Go Go.Proofs
set_option maxRecDepth 100000
set_option maxHeartbeats 4000000
section
attribute [local irreducible] RW WP
noncomputable abbrev o40_75:AObj:=.row false true true true 1 [.int .u64 0,.int .u64 1,.int .u64 2]
noncomputable abbrev Q5l:AObj:=.row false false true true 1 [.int .u64 0,.int .u64 5,.int .u64 0]
noncomputable abbrev Q4o (x1:((List (Int × Int)) × Int)):AObj:=oR true 2 zp x1.1
noncomputable abbrev Q5k (x3:((List (Int × Int)) × Int)):AObj:=oR true 2 zp x3.1
noncomputable abbrev Q5m (x5:((List (Int × Int × Int)) × Int)):AObj:=oR true 3 (fun x:(Int × Int × Int)=>AV.agg [vI x.1,vI x.2.1,vI x.2.2]) x5.1
noncomputable abbrev Q4k (x7:((List (Int × Int × Int)) × Int)):AObj:=oR true 3 (fun x:(Int × Int × Int)=>AV.agg [vI x.1,vI x.2.1,vI x.2.2]) x7.1
noncomputable abbrev Q33 (x13:((List (List Int)) × Int)):AObj:=oR false 1 (eL true (AV.int .u64)) x13.1
noncomputable abbrev o40_82:AObj:=.row false false true true 2 [.agg [vI 0,vI 1],.agg [vI 1,vI 2]]
noncomputable abbrev o40_83:AObj:=.row false false true true 3 [.agg [vI 0,vI 1,vI 2]]
noncomputable abbrev o40_84:AObj:=.row false false true true 2 [.agg [vI 0,vI 1],.agg [vI 2,vI 1]]
noncomputable abbrev o40_85:AObj:=.row false false true true 1 [.int .u64 0,.int .u64 5,.int .u64 0,.int .u64 2]
noncomputable abbrev o40_86:AObj:=.row false false true true 2 [.agg [vI 0,vI 1],.agg [vI 1,vI 3],.agg [vI 2,vI 1]]
noncomputable abbrev o40_87:AObj:=.row false false true true 3 [.agg [vI 0,vI 2,.int .u64 0]]
noncomputable abbrev o40_88:AObj:=.row false false true true 2 [.agg [vI 0,vI 1],.agg [vI 0,vI 2],.agg [vI 1,vI 2]]
noncomputable abbrev o40_89:AObj:=.row false true true true 1 [.int .u64 2,.int .u64 0,.int .u64 2]
noncomputable abbrev o40_90:AObj:=.row false true true true 1 [.int .u64 2,.int .u64 4,.int .u64 0]
noncomputable abbrev o40_91:AObj:=oR false 1 (eL true (AV.int .u64)) ([[0,1,2],[2,0,2],[2,4,0]]:(List (List Int)))
noncomputable abbrev l40_92 (x1 x3:((List (Int × Int)) × Int)) (x5 x7:((List (Int × Int × Int)) × Int)) (x13:((List (List Int)) × Int)) (x15 x17:((List Tapi_Fact) × Int)):List AObj:=[o40_75,Q5l,(Q4o x1),(Q5k x3),(Q5m x5),(Q4k x7),(Q33 x13),oR true 3 eTapi_Fact x15.1,oR true 3 eTapi_Fact x17.1]
theorem g_law31_works_ok  : Ct Tryd.prog 12 [] (Qe4) (fun x=>vB x) (fun x=>[]):=by
 refine hfn [] Tryd.func12 <| hop 1 (fun _=>sgL false [] [] true gE) <| hop 0 (fun _=>sgL false [] [] true gE) <| hcl 3 [] (g_equal_Skeleton_ok [0,1,2]) fun x1 _=>hcl 6 [] (g_equal_Skeleton_ok [0,5,0]) fun x3 _=>hcl 6 [] (Qdj [0,1,2]) fun x5 _=>hcl 6 [] (Qdj [0,5,0]) fun x7 _=>hcl 7 [] (Qch [0,1,2] [0,5,0]) fun x9 _=>hop 6 (fun _=>sgL false [] [] true gE) <| ?_
 refine hcl 0 [] (Qch [0,1,2] [2,0,2]) fun x11 _=>hcl 6 [] (Qlu [0,1,2]) fun x13 _=>hcl 6 [] (K2 [0,1,2]) fun x15 _=>hcl 6 [] (K2 [0,5,0]) fun x17 _=>hop 7 (fun _=>sgL false [] [] true gE) <| hcl 0 [] (g_equal_Learn_ok 3 [(Tapi_Fact.mk 0 2 0),(Tapi_Fact.mk 0 2 2)]) fun x19 _=>hop 3 (fun _=>sgL false [] [] false gE) <| hcl 2 [] (us:=[vI 6,.nils]) (rv:=fun x21=>.tup [.agg [vI x21.1.N,.ref 0 0 x21.1.Arrows.length,.ref 1 0 x21.1.Lines.length],vI x21.2]) (ro:=fun x21=>[oR true 2 zp x21.1.Arrows,oR true 2 zp x21.1.Lines]) (fun x21 q22=>Q4.args [[.keep],[.lst true]] (g_equal_Learn_ok 6 [] x21 q22)) fun x21 _=>hop 3 (fun _=>sgL false [] [] false gE) <| ?_
 refine hop 3 (fun _=>sgL false [] [] true gE) <| hcl 0 [] (g_equal_Learn_ok 2 [(Tapi_Fact.mk 1 0 0)]) fun x23 _=>hop 3 (fun _=>sgL false [] [] false gE) <| hop 11 (fun _=>sgL false [] [] true gE) <| hlp 2 (fun s25=>⟨[(1,.ref 0 0 3),(2,.ref 1 0 3),(3,.ref 2 0 x1.1.length),(5,.ref 3 0 x3.1.length),(7,.ref 4 0 x5.1.length),(9,.ref 5 0 x7.1.length),(11,vB x9.1),(13,vB x11.1),(15,.ref 6 0 x13.1.length),(17,.ref 7 0 x15.1.length),(19,.ref 8 0 x17.1.length),(22,vI x19.2),(24,vI x21.2),(26,vI x23.2),(106,.ref 9 0 (([x1.2,x3.2,x5.2,x7.2,x9.2,x11.2,x13.2,x15.2,x17.2]:(List Int)).length)),(107,vI 9),(108,vI s25)],(l40_92 x1 x3 x5 x7 x13 x15 x17)++[oR true 1 eI ([x1.2,x3.2,x5.2,x7.2,x9.2,x11.2,x13.2,x15.2,x17.2]:(List Int))],228⟩) (fun x=>match x with | .inl v=>(.ret,⟨[(0,vB false)],[],228⟩) | .inr v=>(.exit 0,⟨[(1,.ref 0 0 3),(2,.ref 1 0 3),(3,.ref 2 0 x1.1.length),(5,.ref 3 0 x3.1.length),(7,.ref 4 0 x5.1.length),(9,.ref 5 0 x7.1.length),(11,vB x9.1),(13,vB x11.1),(15,.ref 6 0 x13.1.length),(17,.ref 7 0 x15.1.length),(19,.ref 8 0 x17.1.length),(22,vI x19.2),(24,vI x21.2),(26,vI x23.2)],(l40_92 x1 x3 x5 x7 x13 x15 x17),228⟩)) (wz [0,1,2,3,4,5,7,8,9,21]) (fun s25=>?_) (hsm (fun x33=>?_) (fun x34=>?_))
 ·refine hbr 1 [109] (?_) ?_
  ·refine hbd fun a28 q29=>hop 1 (fun _=>Q0 (enc:=eI) (l:=([x1.2,x3.2,x5.2,x7.2,x9.2,x11.2,x13.2,x15.2,x17.2]:(List Int))) (n:=s25) (w:=1) (ob:=9) (ro:=false) (nr:=true) (fl:=true) (a:=a28) kr kr gE q29) <| hop 0 (fun _=>Xs (enc:=eI) (l:=([x1.2,x3.2,x5.2,x7.2,x9.2,x11.2,x13.2,x15.2,x17.2]:(List Int))) (n:=s25) (w:=1) (ob:=9) (c:=0) (bx:=false) (ro:=false) (nr:=true) (fl:=true) (a:=a28) kr kr q29 gE) <| hbr 3 [113] (hdx 2 (wz [])) <| ?_
   refine hnx 3 (wz [0,1,2,3,4,5,6,7,8,9])
  refine hdx 1 (wz [0,1,2,3,4,5,6,7,8])
 ·refine hrt 0
 refine hop 2 (fun _=>sgL false [] [] true gE) <| hcl 3 [F zp x1.1] (g_ref31_SamePairs_ok x1.1 [(0,1),(1,2)]) fun x35 _=>hbr 1 [120,121] (?_) ?_
 ·refine hcl 2 [F zp x3.1] (g_ref31_SamePairs_ok x3.1 [(0,1),(1,2)]) fun x39 _=>hbr 2 [124,125,126] (?_) ?_
  ·refine hbr 5 [129,130,131] (?_) ?_
   ·refine hop 2 (fun _=>sgL false [] [] true gE) <| hcl 0 [F (fun x:(Int × Int × Int)=>AV.agg [vI x.1,vI x.2.1,vI x.2.2]) x7.1] (Qhz x7.1 [(0,1,2)]) fun x45 _=>hbr 2 [135,136,137] (?_) ?_
    ·refine hbr 4 [139,140,141] (?_) ?_
     ·refine hbr 3 [13,142,143,144] (?_) ?_
      ·refine hbr 4 [146,147,148] (?_) ?_
       ·refine hbr 4 [150,151,152] (?_) ?_
        ·refine hbr 6 [154,155,30,156,157] (?_) ?_
         ·refine hcl 2 [] (us:=[.lst true [.int .u64 0,.int .u64 1,.int .u64 2],.nils,.lst true [.agg [vI 0,vI 1],.agg [vI 1,vI 2]]]) (rv:=fun x59=>vB x59) (ro:=fun x59=>[]) (fun x59 q60=>Q4.args [[.keep],[.lst true],[.keep]] (Kz [0,1,2] [] [(0,1),(1,2)] x59 q60)) fun x59 _=>hbr 2 [160,161,162] (?_) ?_
          ·refine hop 3 (fun _=>sgL false [] [] true gE) <| hcl 0 [] (us:=[.lst true [.int .u64 0,.int .u64 5,.int .u64 0],.lst true [.agg [vI 0,vI 1],.agg [vI 2,vI 1]],.nils]) (rv:=fun x63=>vB x63) (ro:=fun x63=>[]) (fun x63 q64=>Q4.args [[.keep],[.keep],[.lst true]] (Kz [0,5,0] [(0,1),(2,1)] [] x63 q64)) fun x63 _=>hbr 2 [167,168,169] (?_) ?_
           ·refine hop 0 (fun _=>sgL false [] [] true gE) <| hop 3 (fun _=>sgL false [] [] true gE) <| hcl 0 [] (us:=[.lst true [.int .u64 0,.int .u64 5,.int .u64 0,.int .u64 2],.lst true [.agg [vI 0,vI 1],.agg [vI 1,vI 3],.agg [vI 2,vI 1]],.nils]) (rv:=fun x67=>vB x67) (ro:=fun x67=>[]) (fun x67 q68=>Q4.args [[.keep],[.keep],[.lst true]] (Kz [0,5,0,2] [(0,1),(1,3),(2,1)] [] x67 q68)) fun x67 _=>hbr 2 [175,176,177] (?_) ?_
            ·refine hop 1 (fun _=>sgL false [] [] true gE) <| hop 2 (fun _=>sgL false [] [] true gE) <| hcl 0 [] (us:=[vI 3,.lst true [.agg [vI 0,vI 2,.int .u64 0]],.lst true [.agg [vI 0,vI 1],.agg [vI 2,vI 1]],.nils]) (rv:=fun x71=>vB x71) (ro:=fun x71=>[]) (fun x71 q72=>Q4.args [[.keep],[.keep],[.keep],[.lst true]] (Qew 3 [(Tapi_Fact.mk 0 2 0)] [(0,1),(2,1)] [] x71 q72)) fun x71 _=>hbr 2 [183,184,185] (?_) ?_
             ·refine hop 3 (fun _=>sgL false [] [] true gE) <| hcl 0 [] (us:=[vI 3,.nils,.nils,.lst true [.agg [vI 0,vI 1],.agg [vI 0,vI 2],.agg [vI 1,vI 2]]]) (rv:=fun x75=>vB x75) (ro:=fun x75=>[]) (fun x75 q76=>Q4.args [[.keep],[.lst true],[.lst true],[.keep]] (Qew 3 [] [] [(0,1),(0,2),(1,2)] x75 q76)) fun x75 _=>hbr 4 [30,190,191,192,193] (?_) ?_
              ·refine hop 1 (fun _=>sgL false [] [] true gE) <| hop 0 (fun _=>sgL false [] [] true gE) <| hop 0 (fun _=>sgL false [] [] true gE) <| hbs 0 [.lst true] false [] <| hil 0 Tryd.func38 <| hbr 6 [14] (hrt 34) <| ?_
               refine hlp 4 (fun s81=>⟨[(1,.ref 20 0 (([[0,1,2],[2,0,2],[2,4,0]]:(List (List Int))).length)),(2,.fn (.func 48) [] []),(15,.ref 6 0 x13.1.length),(16,vI (zn x13.1)),(17,vI s81)],(l40_92 x1 x3 x5 x7 x13 x15 x17)++[o40_82,o40_83,o40_84,o40_85,o40_86,o40_87,o40_84,o40_88,o40_75,o40_89,o40_90,o40_91],32⟩) (fun x=>match x with | .inl v=>(.ret,⟨[(6,vB false)],(l40_92 x1 x3 x5 x7 x13 x15 x17)++[o40_82,o40_83,o40_84,o40_85,o40_86,o40_87,o40_84,o40_88,o40_75,o40_89,o40_90,o40_91],32⟩) | .inr v=>(.exit 0,⟨[],(l40_92 x1 x3 x5 x7 x13 x15 x17)++[o40_82,o40_83,o40_84,o40_85,o40_86,o40_87,o40_84,o40_88,o40_75,o40_89,o40_90,o40_91],32⟩)) (wz []) (fun s81=>?_) (hsm (fun x93=>?_) (fun x94=>?_))
               ·refine hbr 1 [18] (?_) ?_
                ·refine hbd fun a84 q85=>hop 2 (fun _=>Q0 (enc:=(eL true (AV.int .u64))) (l:=x13.1) (n:=s81) (w:=1) (ob:=6) (ro:=false) (nr:=true) (fl:=false) (a:=a84) kr kr gE q85) <| hop 0 (fun _=>Xs (enc:=(eL true (AV.int .u64))) (l:=x13.1) (n:=s81) (w:=1) (ob:=6) (c:=0) (bx:=false) (ro:=false) (nr:=true) (fl:=false) (a:=a84) kr kr q85 gE) <| hbd fun a86 q87=>hop 4 (fun _=>Q0 (enc:=(eL true (AV.int .u64))) (l:=([[0,1,2],[2,0,2],[2,4,0]]:(List (List Int)))) (n:=s81) (w:=1) (ob:=20) (ro:=false) (nr:=true) (fl:=false) (a:=a86) kr kr gE q87) <| hop 0 (fun _=>Xs (enc:=(eL true (AV.int .u64))) (l:=([[0,1,2],[2,0,2],[2,4,0]]:(List (List Int)))) (n:=s81) (w:=1) (ob:=20) (c:=0) (bx:=false) (ro:=false) (nr:=true) (fl:=false) (a:=a86) kr kr q87 gE) <| hcl 4 [] (g_law31_works_1_ok a84 a86) fun x88 _=>hbr 1 [30] (hdx 2 (wz [])) <| ?_
                 refine hnx 3 (wz [])
                refine hdx 1 (wz [])
               ·refine hrt 31
               refine hwk 1 (wl [6] []) <| hop 5 (fun _=>sgL false [] [] true gE) <| hcl 0 [F eTapi_Fact x15.1] (g_slices_Equal_api_Fact_api_Fact_ok x15.1 [(Tapi_Fact.mk 0 2 2)]) fun x95 _=>hbr 2 [205,206,207] (?_) ?_
               ·refine hop 2 (fun _=>sgL false [] [] true gE) <| hcl 0 [F eTapi_Fact x17.1] (g_slices_Equal_api_Fact_api_Fact_ok x17.1 [(Tapi_Fact.mk 0 2 0)]) fun x99 _=>hbr 4 [30,211,212,213,214] (?_) ?_
                ·refine hop 0 (fun _=>sgL false [] [] true gE) <| hcl 0 [] (g_equal_Check_ok [2,1]) fun x103 _=>hbr 3 [217,218,219] (?_) ?_
                 ·refine hop 0 (fun _=>sgL false [] [] true gE) <| hcl 0 [] (g_equal_Check_ok [1]) fun x107 _=>hbr 3 [222,223,224] (?_) ?_
                  ·refine hcl 0 [] (us:=[.nils]) (rv:=fun x111=>vI x111) (ro:=fun x111=>[]) (fun x111 q112=>Q4.args [[.lst true]] (g_equal_Check_ok [] x111 q112)) fun x111 _=>hrt 4
                  refine hrt 5
                 refine hrt 10
                refine hrt 15
               refine hrt 23
              refine hrt 37
             refine hrt 46
            refine hrt 54
           refine hrt 62
          refine hrt 69
         refine hrt 74
        refine hrt 80
       refine hrt 84
      refine hrt 88
     refine hrt 91
    refine hrt 95
   refine hrt 101
  refine hrt 106
 refine hrt 111
noncomputable abbrev Qye (p0:Qd) (p1:Int):Int:=(zw (1+(Int.tmod (zw (p0.N)) p1)))
noncomputable abbrev Xw (p0:Qd):AObj:=oX true true 8 (.agg [.int .u8 p0.N,.int .u8 p0.Order.1,.int .u8 p0.Order.2.1,.int .u8 p0.Order.2.2.1,.int .u8 p0.Order.2.2.2.1,.int .u8 p0.Order.2.2.2.2.1,.int .u8 p0.Order.2.2.2.2.2,.int .u16 p0.Edges])
noncomputable abbrev Vf:Nat×AV:=(2,.ptr 0 0 0)
noncomputable abbrev Ve (p0:Qd) (p1:Int):Nat×AV:=(5,vI (Qye p0 p1))
noncomputable abbrev Qi1 (a0 a1 a2 a3:Nat×AV) (p0:Qd) (p1:Int):List (Nat×AV):=[Vf,(Ve p0 p1),a0,a1,a2,(21,vI (Qye p0 p1)),(22,vB true),a3,(26,.ptr 0 0 1)]
theorem Qbq (p0:Qd) (p1:Int):Ct Tryd.prog 13 [.agg [.int .u8 p0.N,.int .u8 p0.Order.1,.int .u8 p0.Order.2.1,.int .u8 p0.Order.2.2.1,.int .u8 p0.Order.2.2.2.1,.int .u8 p0.Order.2.2.2.2.1,.int .u8 p0.Order.2.2.2.2.2,.int .u16 p0.Edges],vI p1] (Xe p0 p1) (fun x=>.ref 0 0 x.length) (fun x=>[oR true 1 (AV.int .u64) x]):=by
 refine hfn [] Tryd.func13 <| hoh 6 (fun _ _ h k=>Q0a (k:=.i64) (a:=zw (p0.N)) (b:=p1) kr gE h k) <| hlp 4 (fun s1=>⟨[Vf,(Ve p0 p1),(6,.ref 1 0 s1.2.length),(7,vI s1.1)],[(Xw p0),oR true 1 eI s1.2],94⟩) (fun v=>(.exit 0,⟨[Vf,(Ve p0 p1),(6,.ref 1 0 v.length)],[(Xw p0),oR true 1 eI v],94⟩)) (wk_trans (wk_gc (live:=[2,5,6,7]) (keep:=[0]) gE) (wk_trans (wk_nil 6 1 true true gE) (wk_gc (live:=[2,5,6,7]) (keep:=[0,1]) kr))) (fun s1=>?_) fun x101=>?_
 ·refine hbr 3 [22] (?_) ?_
  ·refine hqi 3 (fun n4=>⟨(Qi1 (6,.ref 1 0 s1.2.length) (7,vI n4) (20,vI n4) (25,vI n4) p0 p1),[(Xw p0),oR true 1 eI s1.2],94⟩) (fun _=>?_) (fun _=>?_)
   ·refine hop 8 (fun _=>sgL false [] [] true gE) <| hoh 0 (fun _ _ h k=>Qcm (enc:=eI) (l:=s1.2) (m:=([0]:(List Int))) (w:=1) (bytes:=8) (ob:=1) (nr:=true) (fl:=true) (nr':=true) (fl':=true) (b:=.ref 2 0 1) (rds:=[2]) false kr kr kr kr gE kr h k) <| hlp 3 (fun s5=>⟨[Vf,(Ve p0 p1),(6,.ref 1 0 s5.2.length),(7,vI 0),(8,vI (Int.tmod (zw (p0.Order.1)) 1)),(9,vI s5.1)],[(Xw p0),oR true 1 eI s5.2],94⟩) (fun v=>(.exit 2,⟨[Vf,(Ve p0 p1),(6,.ref 1 0 v.length),(7,vI 0),(8,vI (Int.tmod (zw (p0.Order.1)) 1))],[(Xw p0),oR true 1 eI v],94⟩)) (wz [0,3]) (fun s5=>?_) fun x14=>?_
    ·refine hbr 3 [39] (?_) ?_
     ·refine hbd fun a8 q9=>hop 6 (fun _=>Q0 (enc:=eI) (l:=s5.2) (n:=zw (s5.1 - 1)) (w:=1) (ob:=1) (ro:=false) (nr:=true) (fl:=true) (a:=a8) kr kr gE q9) <| hop 0 (fun _=>Xs (enc:=eI) (l:=s5.2) (n:=zw (s5.1 - 1)) (w:=1) (ob:=1) (c:=0) (bx:=false) (ro:=false) (nr:=true) (fl:=true) (a:=a8) kr kr q9 gE) <| hbd fun a10 q11=>hop 0 (fun _=>Q0 (enc:=eI) (l:=s5.2) (n:=s5.1) (w:=1) (ob:=1) (ro:=false) (nr:=true) (fl:=true) (a:=a10) kr kr gE q11) <| hop 0 (fun _=>X7 (enc:=eI) (l:=s5.2) (n:=s5.1) (ob:=1) (w:=1) (bx:=false) (nr:=true) (fl:=true) (c:=0) (a:=a10) (a':=a8) (v:=vI a8) false kr kr q11 kr kr kr gE kr) <| hkl 0 [6,42,44] (ls s5.2 (zt s5.1) a8) <| hnx 3 (wz [0,1])
     refine hdx 1 (wz [0,1])
    refine hbd fun a15 q16=>hop 3 (fun _=>Q0 (enc:=eI) (l:=x14) (n:=Int.tmod (zw (p0.Order.1)) 1) (w:=1) (ob:=1) (ro:=false) (nr:=true) (fl:=true) (a:=a15) kr kr gE q16) <| hbd fun a17 q18=>hop 0 (fun _=>X7 (enc:=eI) (l:=x14) (n:=(Int.tmod (zw (p0.Order.1)) 1)) (ob:=1) (w:=1) (bx:=false) (nr:=true) (fl:=true) (c:=0) (a:=a17) (a':=0) (v:=vI 0) false kr kr q18 kr kr kr gE kr) <| hkl 0 [6,50] (ls x14 (zt (Int.tmod (zw (p0.Order.1)) 1)) 0) <| hnx 3 (wz [0,1])
   refine hqi 0 (fun n20=>⟨(Qi1 (6,.ref 1 0 s1.2.length) (7,vI n20) (20,vI n20) (25,vI n20) p0 p1),[(Xw p0),oR true 1 eI s1.2],94⟩) (fun _=>?_) (fun _=>?_)
   ·refine hop 8 (fun _=>sgL false [] [] true gE) <| hoh 0 (fun _ _ h k=>Qcm (enc:=eI) (l:=s1.2) (m:=([0]:(List Int))) (w:=1) (bytes:=8) (ob:=1) (nr:=true) (fl:=true) (nr':=true) (fl':=true) (b:=.ref 2 0 1) (rds:=[2]) false kr kr kr kr gE kr h k) <| hlp 3 (fun s21=>⟨[Vf,(Ve p0 p1),(6,.ref 1 0 s21.2.length),(7,vI 1),(8,vI (Int.tmod (zw (p0.Order.2.1)) 2)),(9,vI s21.1)],[(Xw p0),oR true 1 eI s21.2],94⟩) (fun v=>(.exit 2,⟨[Vf,(Ve p0 p1),(6,.ref 1 0 v.length),(7,vI 1),(8,vI (Int.tmod (zw (p0.Order.2.1)) 2))],[(Xw p0),oR true 1 eI v],94⟩)) (wz [0,3]) (fun s21=>?_) fun x30=>?_
    ·refine hbr 3 [39] (?_) ?_
     ·refine hbd fun a24 q25=>hop 6 (fun _=>Q0 (enc:=eI) (l:=s21.2) (n:=zw (s21.1 - 1)) (w:=1) (ob:=1) (ro:=false) (nr:=true) (fl:=true) (a:=a24) kr kr gE q25) <| hop 0 (fun _=>Xs (enc:=eI) (l:=s21.2) (n:=zw (s21.1 - 1)) (w:=1) (ob:=1) (c:=0) (bx:=false) (ro:=false) (nr:=true) (fl:=true) (a:=a24) kr kr q25 gE) <| hbd fun a26 q27=>hop 0 (fun _=>Q0 (enc:=eI) (l:=s21.2) (n:=s21.1) (w:=1) (ob:=1) (ro:=false) (nr:=true) (fl:=true) (a:=a26) kr kr gE q27) <| hop 0 (fun _=>X7 (enc:=eI) (l:=s21.2) (n:=s21.1) (ob:=1) (w:=1) (bx:=false) (nr:=true) (fl:=true) (c:=0) (a:=a26) (a':=a24) (v:=vI a24) false kr kr q27 kr kr kr gE kr) <| hkl 0 [6,42,44] (ls s21.2 (zt s21.1) a24) <| hnx 3 (wz [0,1])
     refine hdx 1 (wz [0,1])
    refine hbd fun a31 q32=>hop 3 (fun _=>Q0 (enc:=eI) (l:=x30) (n:=Int.tmod (zw (p0.Order.2.1)) 2) (w:=1) (ob:=1) (ro:=false) (nr:=true) (fl:=true) (a:=a31) kr kr gE q32) <| hbd fun a33 q34=>hop 0 (fun _=>X7 (enc:=eI) (l:=x30) (n:=(Int.tmod (zw (p0.Order.2.1)) 2)) (ob:=1) (w:=1) (bx:=false) (nr:=true) (fl:=true) (c:=0) (a:=a33) (a':=1) (v:=vI 1) false kr kr q34 kr kr kr gE kr) <| hkl 0 [6,50] (ls x30 (zt (Int.tmod (zw (p0.Order.2.1)) 2)) 1) <| hnx 3 (wz [0,1])
   refine hqi 0 (fun n36=>⟨(Qi1 (6,.ref 1 0 s1.2.length) (7,vI n36) (20,vI n36) (25,vI n36) p0 p1),[(Xw p0),oR true 1 eI s1.2],94⟩) (fun _=>?_) (fun _=>?_)
   ·refine hop 8 (fun _=>sgL false [] [] true gE) <| hoh 0 (fun _ _ h k=>Qcm (enc:=eI) (l:=s1.2) (m:=([0]:(List Int))) (w:=1) (bytes:=8) (ob:=1) (nr:=true) (fl:=true) (nr':=true) (fl':=true) (b:=.ref 2 0 1) (rds:=[2]) false kr kr kr kr gE kr h k) <| hlp 3 (fun s37=>⟨[Vf,(Ve p0 p1),(6,.ref 1 0 s37.2.length),(7,vI 2),(8,vI (Int.tmod (zw (p0.Order.2.2.1)) 3)),(9,vI s37.1)],[(Xw p0),oR true 1 eI s37.2],94⟩) (fun v=>(.exit 2,⟨[Vf,(Ve p0 p1),(6,.ref 1 0 v.length),(7,vI 2),(8,vI (Int.tmod (zw (p0.Order.2.2.1)) 3))],[(Xw p0),oR true 1 eI v],94⟩)) (wz [0,3]) (fun s37=>?_) fun x46=>?_
    ·refine hbr 3 [39] (?_) ?_
     ·refine hbd fun a40 q41=>hop 6 (fun _=>Q0 (enc:=eI) (l:=s37.2) (n:=zw (s37.1 - 1)) (w:=1) (ob:=1) (ro:=false) (nr:=true) (fl:=true) (a:=a40) kr kr gE q41) <| hop 0 (fun _=>Xs (enc:=eI) (l:=s37.2) (n:=zw (s37.1 - 1)) (w:=1) (ob:=1) (c:=0) (bx:=false) (ro:=false) (nr:=true) (fl:=true) (a:=a40) kr kr q41 gE) <| hbd fun a42 q43=>hop 0 (fun _=>Q0 (enc:=eI) (l:=s37.2) (n:=s37.1) (w:=1) (ob:=1) (ro:=false) (nr:=true) (fl:=true) (a:=a42) kr kr gE q43) <| hop 0 (fun _=>X7 (enc:=eI) (l:=s37.2) (n:=s37.1) (ob:=1) (w:=1) (bx:=false) (nr:=true) (fl:=true) (c:=0) (a:=a42) (a':=a40) (v:=vI a40) false kr kr q43 kr kr kr gE kr) <| hkl 0 [6,42,44] (ls s37.2 (zt s37.1) a40) <| hnx 3 (wz [0,1])
     refine hdx 1 (wz [0,1])
    refine hbd fun a47 q48=>hop 3 (fun _=>Q0 (enc:=eI) (l:=x46) (n:=Int.tmod (zw (p0.Order.2.2.1)) 3) (w:=1) (ob:=1) (ro:=false) (nr:=true) (fl:=true) (a:=a47) kr kr gE q48) <| hbd fun a49 q50=>hop 0 (fun _=>X7 (enc:=eI) (l:=x46) (n:=(Int.tmod (zw (p0.Order.2.2.1)) 3)) (ob:=1) (w:=1) (bx:=false) (nr:=true) (fl:=true) (c:=0) (a:=a49) (a':=2) (v:=vI 2) false kr kr q50 kr kr kr gE kr) <| hkl 0 [6,50] (ls x46 (zt (Int.tmod (zw (p0.Order.2.2.1)) 3)) 2) <| hnx 3 (wz [0,1])
   refine hqi 0 (fun n52=>⟨(Qi1 (6,.ref 1 0 s1.2.length) (7,vI n52) (20,vI n52) (25,vI n52) p0 p1),[(Xw p0),oR true 1 eI s1.2],94⟩) (fun _=>?_) (fun _=>?_)
   ·refine hop 8 (fun _=>sgL false [] [] true gE) <| hoh 0 (fun _ _ h k=>Qcm (enc:=eI) (l:=s1.2) (m:=([0]:(List Int))) (w:=1) (bytes:=8) (ob:=1) (nr:=true) (fl:=true) (nr':=true) (fl':=true) (b:=.ref 2 0 1) (rds:=[2]) false kr kr kr kr gE kr h k) <| hlp 3 (fun s53=>⟨[Vf,(Ve p0 p1),(6,.ref 1 0 s53.2.length),(7,vI 3),(8,vI (Int.tmod (zw (p0.Order.2.2.2.1)) 4)),(9,vI s53.1)],[(Xw p0),oR true 1 eI s53.2],94⟩) (fun v=>(.exit 2,⟨[Vf,(Ve p0 p1),(6,.ref 1 0 v.length),(7,vI 3),(8,vI (Int.tmod (zw (p0.Order.2.2.2.1)) 4))],[(Xw p0),oR true 1 eI v],94⟩)) (wz [0,3]) (fun s53=>?_) fun x62=>?_
    ·refine hbr 3 [39] (?_) ?_
     ·refine hbd fun a56 q57=>hop 6 (fun _=>Q0 (enc:=eI) (l:=s53.2) (n:=zw (s53.1 - 1)) (w:=1) (ob:=1) (ro:=false) (nr:=true) (fl:=true) (a:=a56) kr kr gE q57) <| hop 0 (fun _=>Xs (enc:=eI) (l:=s53.2) (n:=zw (s53.1 - 1)) (w:=1) (ob:=1) (c:=0) (bx:=false) (ro:=false) (nr:=true) (fl:=true) (a:=a56) kr kr q57 gE) <| hbd fun a58 q59=>hop 0 (fun _=>Q0 (enc:=eI) (l:=s53.2) (n:=s53.1) (w:=1) (ob:=1) (ro:=false) (nr:=true) (fl:=true) (a:=a58) kr kr gE q59) <| hop 0 (fun _=>X7 (enc:=eI) (l:=s53.2) (n:=s53.1) (ob:=1) (w:=1) (bx:=false) (nr:=true) (fl:=true) (c:=0) (a:=a58) (a':=a56) (v:=vI a56) false kr kr q59 kr kr kr gE kr) <| hkl 0 [6,42,44] (ls s53.2 (zt s53.1) a56) <| hnx 3 (wz [0,1])
     refine hdx 1 (wz [0,1])
    refine hbd fun a63 q64=>hop 3 (fun _=>Q0 (enc:=eI) (l:=x62) (n:=Int.tmod (zw (p0.Order.2.2.2.1)) 4) (w:=1) (ob:=1) (ro:=false) (nr:=true) (fl:=true) (a:=a63) kr kr gE q64) <| hbd fun a65 q66=>hop 0 (fun _=>X7 (enc:=eI) (l:=x62) (n:=(Int.tmod (zw (p0.Order.2.2.2.1)) 4)) (ob:=1) (w:=1) (bx:=false) (nr:=true) (fl:=true) (c:=0) (a:=a65) (a':=3) (v:=vI 3) false kr kr q66 kr kr kr gE kr) <| hkl 0 [6,50] (ls x62 (zt (Int.tmod (zw (p0.Order.2.2.2.1)) 4)) 3) <| hnx 3 (wz [0,1])
   refine hqi 0 (fun n68=>⟨(Qi1 (6,.ref 1 0 s1.2.length) (7,vI n68) (20,vI n68) (25,vI n68) p0 p1),[(Xw p0),oR true 1 eI s1.2],94⟩) (fun _=>?_) (fun _=>?_)
   ·refine hop 8 (fun _=>sgL false [] [] true gE) <| hoh 0 (fun _ _ h k=>Qcm (enc:=eI) (l:=s1.2) (m:=([0]:(List Int))) (w:=1) (bytes:=8) (ob:=1) (nr:=true) (fl:=true) (nr':=true) (fl':=true) (b:=.ref 2 0 1) (rds:=[2]) false kr kr kr kr gE kr h k) <| hlp 3 (fun s69=>⟨[Vf,(Ve p0 p1),(6,.ref 1 0 s69.2.length),(7,vI 4),(8,vI (Int.tmod (zw (p0.Order.2.2.2.2.1)) 5)),(9,vI s69.1)],[(Xw p0),oR true 1 eI s69.2],94⟩) (fun v=>(.exit 2,⟨[Vf,(Ve p0 p1),(6,.ref 1 0 v.length),(7,vI 4),(8,vI (Int.tmod (zw (p0.Order.2.2.2.2.1)) 5))],[(Xw p0),oR true 1 eI v],94⟩)) (wz [0,3]) (fun s69=>?_) fun x78=>?_
    ·refine hbr 3 [39] (?_) ?_
     ·refine hbd fun a72 q73=>hop 6 (fun _=>Q0 (enc:=eI) (l:=s69.2) (n:=zw (s69.1 - 1)) (w:=1) (ob:=1) (ro:=false) (nr:=true) (fl:=true) (a:=a72) kr kr gE q73) <| hop 0 (fun _=>Xs (enc:=eI) (l:=s69.2) (n:=zw (s69.1 - 1)) (w:=1) (ob:=1) (c:=0) (bx:=false) (ro:=false) (nr:=true) (fl:=true) (a:=a72) kr kr q73 gE) <| hbd fun a74 q75=>hop 0 (fun _=>Q0 (enc:=eI) (l:=s69.2) (n:=s69.1) (w:=1) (ob:=1) (ro:=false) (nr:=true) (fl:=true) (a:=a74) kr kr gE q75) <| hop 0 (fun _=>X7 (enc:=eI) (l:=s69.2) (n:=s69.1) (ob:=1) (w:=1) (bx:=false) (nr:=true) (fl:=true) (c:=0) (a:=a74) (a':=a72) (v:=vI a72) false kr kr q75 kr kr kr gE kr) <| hkl 0 [6,42,44] (ls s69.2 (zt s69.1) a72) <| hnx 3 (wz [0,1])
     refine hdx 1 (wz [0,1])
    refine hbd fun a79 q80=>hop 3 (fun _=>Q0 (enc:=eI) (l:=x78) (n:=Int.tmod (zw (p0.Order.2.2.2.2.1)) 5) (w:=1) (ob:=1) (ro:=false) (nr:=true) (fl:=true) (a:=a79) kr kr gE q80) <| hbd fun a81 q82=>hop 0 (fun _=>X7 (enc:=eI) (l:=x78) (n:=(Int.tmod (zw (p0.Order.2.2.2.2.1)) 5)) (ob:=1) (w:=1) (bx:=false) (nr:=true) (fl:=true) (c:=0) (a:=a81) (a':=4) (v:=vI 4) false kr kr q82 kr kr kr gE kr) <| hkl 0 [6,50] (ls x78 (zt (Int.tmod (zw (p0.Order.2.2.2.2.1)) 5)) 4) <| hnx 3 (wz [0,1])
   refine hqi 0 (fun n84=>⟨(Qi1 (6,.ref 1 0 s1.2.length) (7,vI n84) (20,vI n84) (25,vI n84) p0 p1),[(Xw p0),oR true 1 eI s1.2],94⟩) (fun _=>?_) (fun _=>?_)
   ·refine hop 8 (fun _=>sgL false [] [] true gE) <| hoh 0 (fun _ _ h k=>Qcm (enc:=eI) (l:=s1.2) (m:=([0]:(List Int))) (w:=1) (bytes:=8) (ob:=1) (nr:=true) (fl:=true) (nr':=true) (fl':=true) (b:=.ref 2 0 1) (rds:=[2]) false kr kr kr kr gE kr h k) <| hlp 3 (fun s85=>⟨[Vf,(Ve p0 p1),(6,.ref 1 0 s85.2.length),(7,vI 5),(8,vI (Int.tmod (zw (p0.Order.2.2.2.2.2)) 6)),(9,vI s85.1)],[(Xw p0),oR true 1 eI s85.2],94⟩) (fun v=>(.exit 2,⟨[Vf,(Ve p0 p1),(6,.ref 1 0 v.length),(7,vI 5),(8,vI (Int.tmod (zw (p0.Order.2.2.2.2.2)) 6))],[(Xw p0),oR true 1 eI v],94⟩)) (wz [0,3]) (fun s85=>?_) fun x94=>?_
    ·refine hbr 3 [39] (?_) ?_
     ·refine hbd fun a88 q89=>hop 6 (fun _=>Q0 (enc:=eI) (l:=s85.2) (n:=zw (s85.1 - 1)) (w:=1) (ob:=1) (ro:=false) (nr:=true) (fl:=true) (a:=a88) kr kr gE q89) <| hop 0 (fun _=>Xs (enc:=eI) (l:=s85.2) (n:=zw (s85.1 - 1)) (w:=1) (ob:=1) (c:=0) (bx:=false) (ro:=false) (nr:=true) (fl:=true) (a:=a88) kr kr q89 gE) <| hbd fun a90 q91=>hop 0 (fun _=>Q0 (enc:=eI) (l:=s85.2) (n:=s85.1) (w:=1) (ob:=1) (ro:=false) (nr:=true) (fl:=true) (a:=a90) kr kr gE q91) <| hop 0 (fun _=>X7 (enc:=eI) (l:=s85.2) (n:=s85.1) (ob:=1) (w:=1) (bx:=false) (nr:=true) (fl:=true) (c:=0) (a:=a90) (a':=a88) (v:=vI a88) false kr kr q91 kr kr kr gE kr) <| hkl 0 [6,42,44] (ls s85.2 (zt s85.1) a88) <| hnx 3 (wz [0,1])
     refine hdx 1 (wz [0,1])
    refine hbd fun a95 q96=>hop 3 (fun _=>Q0 (enc:=eI) (l:=x94) (n:=Int.tmod (zw (p0.Order.2.2.2.2.2)) 6) (w:=1) (ob:=1) (ro:=false) (nr:=true) (fl:=true) (a:=a95) kr kr gE q96) <| hbd fun a97 q98=>hop 0 (fun _=>X7 (enc:=eI) (l:=x94) (n:=(Int.tmod (zw (p0.Order.2.2.2.2.2)) 6)) (ob:=1) (w:=1) (bx:=false) (nr:=true) (fl:=true) (c:=0) (a:=a97) (a':=5) (v:=vI 5) false kr kr q98 kr kr kr gE kr) <| hkl 0 [6,50] (ls x94 (zt (Int.tmod (zw (p0.Order.2.2.2.2.2)) 6)) 5) <| hnx 3 (wz [0,1])
   refine hnn
  refine hdx 1 (wz [0,1])
 refine hoh 1 (fun _ _ h k=>mkL (enc:=(AV.int .u64)) (z:=(0:Int)) (z0:=.int .u64 0) (n:=zw (1+(Int.tmod (zw (p0.N)) p1))) (m:=zw (1+(Int.tmod (zw (p0.N)) p1))) (w:=1) (bytes:=8) [] true kr kr gE kr h k) <| hlp 3 (fun s102=>⟨[Vf,(Ve p0 p1),(6,.ref 1 0 x101.length),(10,.ref 2 0 s102.2.2.length),(11,vI s102.1),(12,vI s102.2.1)],[(Xw p0),oR true 1 eI x101,oR true 1 (AV.int .u64) s102.2.2],94⟩) (fun v=>(.exit 4,⟨[(10,.ref 0 0 v.length)],[oR true 1 (AV.int .u64) v],94⟩)) (wz [0,1,2]) (fun s102=>?_) fun x120=>?_
 ·refine hbr 3 [58] (?_) ?_
  ·refine hlp 2 (fun s105=>⟨[Vf,(Ve p0 p1),(6,.ref 1 0 x101.length),(10,.ref 2 0 s105.2.2.length),(11,vI s105.1),(12,vI s102.2.1),(13,vI s105.2.1)],[(Xw p0),oR true 1 eI x101,oR true 1 (AV.int .u64) s105.2.2],94⟩) (fun v=>(.exit 6,⟨[Vf,(Ve p0 p1),(6,.ref 1 0 x101.length),(10,.ref 2 0 v.2.length),(11,vI v.1),(12,vI s102.2.1)],[(Xw p0),oR true 1 eI x101,oR true 1 (AV.int .u64) v.2],94⟩)) (wz [0,1,2]) (fun s105=>?_) fun x118=>?_
   ·refine hbr 3 [63] (?_) ?_
    ·refine hoh 4 (fun _ _ h k=>Xx (k:=.u16) (k':=.i64) (a:=p0.Edges) (b:=s105.1) kr gE h k) <| hbr 2 [71] (?_) ?_
     ·refine hbd fun a110 q111=>hop 5 (fun _=>Q0 (enc:=eI) (l:=x101) (n:=s102.2.1) (w:=1) (ob:=1) (ro:=false) (nr:=true) (fl:=true) (a:=a110) kr kr gE q111) <| hop 0 (fun _=>Xs (enc:=eI) (l:=x101) (n:=s102.2.1) (w:=1) (ob:=1) (c:=0) (bx:=false) (ro:=false) (nr:=true) (fl:=true) (a:=a110) kr kr q111 gE) <| hop 3 (fun _=>Q0 (enc:=eI) (l:=x101) (n:=s102.2.1) (w:=1) (ob:=1) (ro:=false) (nr:=true) (fl:=true) (a:=a110) kr kr gE q111) <| hop 0 (fun _=>Xs (enc:=eI) (l:=x101) (n:=s102.2.1) (w:=1) (ob:=1) (c:=0) (bx:=false) (ro:=false) (nr:=true) (fl:=true) (a:=a110) kr kr q111 gE) <| hbd fun a112 q113=>hop 0 (fun _=>Q0 (enc:=(AV.int .u64)) (l:=s105.2.2) (n:=a110) (w:=1) (ob:=2) (ro:=false) (nr:=true) (fl:=true) (a:=a112) kr kr gE q113) <| hop 0 (fun _=>Xs (enc:=(AV.int .u64)) (l:=s105.2.2) (n:=a110) (w:=1) (ob:=2) (c:=0) (bx:=false) (ro:=false) (nr:=true) (fl:=true) (a:=a112) kr kr q113 gE) <| hbd fun a114 q115=>?_
      refine hop 2 (fun _=>Q0 (enc:=eI) (l:=x101) (n:=s105.2.1) (w:=1) (ob:=1) (ro:=false) (nr:=true) (fl:=true) (a:=a114) kr kr gE q115) <| hop 0 (fun _=>Xs (enc:=eI) (l:=x101) (n:=s105.2.1) (w:=1) (ob:=1) (c:=0) (bx:=false) (ro:=false) (nr:=true) (fl:=true) (a:=a114) kr kr q115 gE) <| hoh 0 (fun _ _ h k=>Z1 (k:=.u64) (k':=.i64) (a:=1) (b:=a114) kr gE h k) <| hop 1 (fun _=>Q0 (enc:=(AV.int .u64)) (l:=s105.2.2) (n:=a110) (w:=1) (ob:=2) (ro:=false) (nr:=true) (fl:=true) (a:=a112) kr kr gE q113) <| hop 0 (fun _=>X7 (enc:=(AV.int .u64)) (l:=s105.2.2) (n:=a110) (ob:=2) (w:=1) (bx:=false) (nr:=true) (fl:=true) (c:=0) (a:=a112) (a':=zv (zb a112 ||| zb (zv (1*2^min (zt a114) zk))).toNat) (v:=.int .u64 (zv (zb a112 ||| zb (zv (1*2^min (zt a114) zk))).toNat)) false kr kr q113 kr kr kr gE kr) <| hkl 0 [10,72,77] (ls s105.2.2 (zt a110) (zv (zb a112 ||| zb (zv (1*2^min (zt a114) zk))).toNat)) <| hnx 6 (wz [0,1,2])
     refine hnx 7 (wz [0,1,2])
    refine hdx 1 (wz [0,1,2])
   refine hnx 3 (wz [0,1,2])
  refine hdx 1 (wz [2])
 refine hrt 3
theorem g_ref31_In_ok (p0:Int) (p1:Int):Ct Tryd.prog 24 [.int .u64 p0,vI p1] (Xl p0 p1) (fun x=>vB x) (fun x=>[]):=by
 refine hfn [] Tryd.func24 <| hoh 3 (fun _ _ h k=>Xx (k:=.u64) (k':=.i64) (a:=p0) (b:=p1) kr gE h k) <| hrt 4
theorem Qo3 (p0:(List Int)) (p1:Int) (p2:Int):Ct Tryd.prog 61 [eL true (AV.int .u64) p0,vI p1,vI p2] (Kr p0 p1 p2) (fun x=>vB x) (fun x=>[]):=by
 refine hfn [] Tryd.func61 <| hbd fun a1 q2=>hop 3 (fun _=>Xg (enc:=(AV.int .u64)) (l:=p0) (n:=p1) (fl:=true) (w:=1) (a:=a1) kr kr gE q2) <| hcl 2 [] (g_ref31_In_ok a1 p2) fun x3 _=>hbr 1 [12,13] (hrt 9) <| ?_
 refine hbd fun a7 q8=>hop 2 (fun _=>Xg (enc:=(AV.int .u64)) (l:=p0) (n:=p2) (fl:=true) (w:=1) (a:=a7) kr kr gE q8) <| hcl 2 [] (g_ref31_In_ok a7 p1) fun x9 _=>hrt 3
theorem g_ref31_Skeleton_ok (p0:(List Int)):Ct Tryd.prog 34 [eL true (AV.int .u64) p0] (Jr p0) (fun x=>.ref 0 0 x.length) (fun x=>[oR true 2 zp x]):=by
 refine hfn [] Tryd.func34 <| hlp 3 (fun s1=>⟨[(0,eL true (AV.int .u64) p0),(3,.ref 0 0 s1.2.length),(4,vI s1.1)],[oR true 2 zp s1.2],31⟩) (fun v=>(.exit 0,⟨[(3,.ref 0 0 v.length)],[oR true 2 zp v],31⟩)) (wk_trans (wk_gc (live:=[0,3,4]) (keep:=[]) gE) (wk_trans (wk_nil 3 2 true true gE) (wk_gc (live:=[0,3,4]) (keep:=[0]) kr))) (fun s1=>?_) fun x14=>?_
 ·refine hop 2 (fun _=>Za (enc:=(AV.int .u64)) (l:=p0) (fl:=true) kr gE) <| hbr 1 [9] (?_) ?_
  ·refine hlp 4 (fun s4=>⟨[(0,eL true (AV.int .u64) p0),(3,.ref 0 0 s4.2.length),(4,vI s1.1),(5,vI s4.1)],[oR true 2 zp s4.2],31⟩) (fun v=>(.exit 2,⟨[(0,eL true (AV.int .u64) p0),(3,.ref 0 0 v.length),(4,vI s1.1)],[oR true 2 zp v],31⟩)) (wz [0]) (fun s4=>?_) fun x12=>?_
   ·refine hop 2 (fun _=>Za (enc:=(AV.int .u64)) (l:=p0) (fl:=true) kr gE) <| hbr 1 [17] (?_) ?_
    ·refine hcl 4 [] (Qo3 p0 s1.1 s4.1) fun x7 _=>hbr 0 [23] (?_) ?_
     ·refine hop 5 (fun _=>sgL false [] [] true gE) <| hoh 0 (fun _ _ h k=>Qcm (enc:=zp) (l:=s4.2) (m:=([(s1.1,s4.1)]:(List (Int × Int)))) (w:=2) (bytes:=16) (ob:=0) (nr:=true) (fl:=true) (nr':=true) (fl':=true) (b:=.ref 1 0 1) (rds:=[1]) false kr kr kr kr gE kr h k) <| hnx 4 (wz [2])
     refine hnx 4 (wz [0])
    refine hdx 1 (wz [0])
   refine hnx 3 (wz [0])
  refine hdx 1 (wz [0])
 refine hrt 3
noncomputable abbrev Qa6 (a5:(Int × Int)):Int:=(zv (1*2^min (zt a5.2) zk))
noncomputable abbrev Qa2 (a5:(Int × Int)):Int:=(zv (1*2^min (zt a5.1) zk))
theorem Qfd (p0:(List Int)) (p1:Int):Ct Tryd.prog 14 [eL true (AV.int .u64) p0,.int .u8 p1] (Vj p0 p1) (fun x=>.ref 0 0 x.length) (fun x=>[oR true 1 (AV.int .u64) x]):=by
 refine hfn [] Tryd.func14 <| hcl 2 [] (g_ref31_Skeleton_ok p0) fun x1 _=>hoh 3 (fun _ _ h k=>Q69 (enc:=(AV.int .u64)) (m:=p0) (w:=1) (bytes:=8) (nr':=true) (fl':=true) (a:=.emp) (b:=eL true (AV.int .u64) p0) (rds:=[]) false kr (.inr rfl) (Qyi (fun _=>rfl)) kr gE kr h k) <| hbr 4 [16] (hrt 4) <| ?_
 refine hoh 7 (fun _ _ h k=>Q0a (k:=.i64) (a:=zw (p1)) (b:=(zn x1)) kr gE h k) <| hbd fun a5 q6=>hop 0 (fun _=>Q0 (enc:=zp) (l:=x1) (n:=Int.tmod (zw (p1)) (zn x1)) (w:=2) (ob:=0) (ro:=false) (nr:=true) (fl:=true) (a:=a5) kr kr gE q6) <| hop 1 (fun _=>Xs (enc:=zp) (l:=x1) (n:=Int.tmod (zw (p1)) (zn x1)) (w:=2) (ob:=0) (c:=0) (bx:=false) (ro:=false) (nr:=true) (fl:=true) (a:=a5) kr kr q6 gE) <| hoh 5 (fun _ _ h k=>Q0a (k:=.i64) (a:=zw (p1)) (b:=(zn x1)) kr gE h k) <| hop 0 (fun _=>Q0 (enc:=zp) (l:=x1) (n:=Int.tmod (zw (p1)) (zn x1)) (w:=2) (ob:=0) (ro:=false) (nr:=true) (fl:=true) (a:=a5) kr kr gE q6) <| hop 1 (fun _=>Xs (enc:=zp) (l:=x1) (n:=Int.tmod (zw (p1)) (zn x1)) (w:=2) (ob:=0) (c:=1) (bx:=false) (ro:=false) (nr:=true) (fl:=true) (a:=a5) kr kr q6 gE) <| hbd fun a7 q8=>hop 4 (fun _=>Xg (enc:=(AV.int .u64)) (l:=p0) (n:=a5.1) (fl:=true) (w:=1) (a:=a7) kr kr gE q8) <| ?_
 refine hcl 2 [] (g_ref31_In_ok a7 a5.2) fun x9 _=>hbr 0 [41] (?_) ?_
 ·refine hop 10 (fun _=>Q0 (enc:=(AV.int .u64)) (l:=p0) (n:=a5.1) (w:=1) (ob:=1) (ro:=false) (nr:=true) (fl:=true) (a:=a7) kr kr gE q8) <| hop 0 (fun _=>Xs (enc:=(AV.int .u64)) (l:=p0) (n:=a5.1) (w:=1) (ob:=1) (c:=0) (bx:=false) (ro:=false) (nr:=true) (fl:=true) (a:=a7) kr kr q8 gE) <| hoh 1 (fun _ _ h k=>Z1 (k:=.u64) (k':=.i64) (a:=1) (b:=a5.2) kr gE h k) <| hop 1 (fun _=>Q0 (enc:=(AV.int .u64)) (l:=p0) (n:=a5.1) (w:=1) (ob:=1) (ro:=false) (nr:=true) (fl:=true) (a:=a7) kr kr gE q8) <| hop 0 (fun _=>X7 (enc:=(AV.int .u64)) (l:=p0) (n:=a5.1) (ob:=1) (w:=1) (bx:=false) (nr:=true) (fl:=true) (c:=0) (a:=a7) (a':=zv (zb a7 &&& ~~~ zb (Qa6 a5)).toNat) (v:=.int .u64 (zv (zb a7 &&& ~~~ zb (Qa6 a5)).toNat)) false kr kr q8 kr kr kr gE kr) <| hkl 0 [13,6,44,46] (ls p0 (zt a5.1) (zv (zb a7 &&& ~~~ zb (Qa6 a5)).toNat)) <| hbd fun a13 q14=>hop 5 (fun _=>Q0 (enc:=(AV.int .u64)) (l:=(List.set p0 (zt a5.1) (zv (zb a7 &&& ~~~ zb (Qa6 a5)).toNat))) (n:=a5.2) (w:=1) (ob:=1) (ro:=false) (nr:=true) (fl:=true) (a:=a13) kr kr gE q14) <| hop 0 (fun _=>Xs (enc:=(AV.int .u64)) (l:=(List.set p0 (zt a5.1) (zv (zb a7 &&& ~~~ zb (Qa6 a5)).toNat))) (n:=a5.2) (w:=1) (ob:=1) (c:=0) (bx:=false) (ro:=false) (nr:=true) (fl:=true) (a:=a13) kr kr q14 gE) <| ?_
  refine hoh 1 (fun _ _ h k=>Z1 (k:=.u64) (k':=.i64) (a:=1) (b:=a5.1) kr gE h k) <| hop 1 (fun _=>Q0 (enc:=(AV.int .u64)) (l:=(List.set p0 (zt a5.1) (zv (zb a7 &&& ~~~ zb (Qa6 a5)).toNat))) (n:=a5.2) (w:=1) (ob:=1) (ro:=false) (nr:=true) (fl:=true) (a:=a13) kr kr gE q14) <| hop 0 (fun _=>X7 (enc:=(AV.int .u64)) (l:=(List.set p0 (zt a5.1) (zv (zb a7 &&& ~~~ zb (Qa6 a5)).toNat))) (n:=a5.2) (ob:=1) (w:=1) (bx:=false) (nr:=true) (fl:=true) (c:=0) (a:=a13) (a':=zv (zb a13 ||| zb (Qa2 a5)).toNat) (v:=.int .u64 (zv (zb a13 ||| zb (Qa2 a5)).toNat)) false kr kr q14 kr kr kr gE kr) <| hkl 0 [13,6,44,46,54,56] (ls (List.set p0 (zt a5.1) (zv (zb a7 &&& ~~~ zb (Qa6 a5)).toNat)) (zt a5.2) (zv (zb a13 ||| zb (Qa2 a5)).toNat)) <| hrt 3
 refine hbd fun a17 q18=>hop 6 (fun _=>Q0 (enc:=(AV.int .u64)) (l:=p0) (n:=a5.2) (w:=1) (ob:=1) (ro:=false) (nr:=true) (fl:=true) (a:=a17) kr kr gE q18) <| hop 0 (fun _=>Xs (enc:=(AV.int .u64)) (l:=p0) (n:=a5.2) (w:=1) (ob:=1) (c:=0) (bx:=false) (ro:=false) (nr:=true) (fl:=true) (a:=a17) kr kr q18 gE) <| hoh 1 (fun _ _ h k=>Z1 (k:=.u64) (k':=.i64) (a:=1) (b:=a5.1) kr gE h k) <| hop 1 (fun _=>Q0 (enc:=(AV.int .u64)) (l:=p0) (n:=a5.2) (w:=1) (ob:=1) (ro:=false) (nr:=true) (fl:=true) (a:=a17) kr kr gE q18) <| hop 0 (fun _=>X7 (enc:=(AV.int .u64)) (l:=p0) (n:=a5.2) (ob:=1) (w:=1) (bx:=false) (nr:=true) (fl:=true) (c:=0) (a:=a17) (a':=zv (zb a17 &&& ~~~ zb (Qa2 a5)).toNat) (v:=.int .u64 (zv (zb a17 &&& ~~~ zb (Qa2 a5)).toNat)) false kr kr q18 kr kr kr gE kr) <| hkl 0 [13,6,44,46] (ls p0 (zt a5.2) (zv (zb a17 &&& ~~~ zb (Qa2 a5)).toNat)) <| hbd fun a19 q20=>hop 5 (fun _=>Q0 (enc:=(AV.int .u64)) (l:=(List.set p0 (zt a5.2) (zv (zb a17 &&& ~~~ zb (Qa2 a5)).toNat))) (n:=a5.1) (w:=1) (ob:=1) (ro:=false) (nr:=true) (fl:=true) (a:=a19) kr kr gE q20) <| ?_
 refine hop 0 (fun _=>Xs (enc:=(AV.int .u64)) (l:=(List.set p0 (zt a5.2) (zv (zb a17 &&& ~~~ zb (Qa2 a5)).toNat))) (n:=a5.1) (w:=1) (ob:=1) (c:=0) (bx:=false) (ro:=false) (nr:=true) (fl:=true) (a:=a19) kr kr q20 gE) <| hoh 1 (fun _ _ h k=>Z1 (k:=.u64) (k':=.i64) (a:=1) (b:=a5.2) kr gE h k) <| hop 1 (fun _=>Q0 (enc:=(AV.int .u64)) (l:=(List.set p0 (zt a5.2) (zv (zb a17 &&& ~~~ zb (Qa2 a5)).toNat))) (n:=a5.1) (w:=1) (ob:=1) (ro:=false) (nr:=true) (fl:=true) (a:=a19) kr kr gE q20) <| hop 0 (fun _=>X7 (enc:=(AV.int .u64)) (l:=(List.set p0 (zt a5.2) (zv (zb a17 &&& ~~~ zb (Qa2 a5)).toNat))) (n:=a5.1) (ob:=1) (w:=1) (bx:=false) (nr:=true) (fl:=true) (c:=0) (a:=a19) (a':=zv (zb a19 ||| zb (Qa6 a5)).toNat) (v:=.int .u64 (zv (zb a19 ||| zb (Qa6 a5)).toNat)) false kr kr q20 kr kr kr gE kr) <| hkl 0 [13,6,44,46,54,56] (ls (List.set p0 (zt a5.2) (zv (zb a17 &&& ~~~ zb (Qa2 a5)).toNat)) (zt a5.1) (zv (zb a19 ||| zb (Qa6 a5)).toNat)) <| hrt 3
end
section
attribute [local irreducible] RW WP
theorem g_law31_EqualSays_ok (p0:Qd) (p1:Qd) (p2:(Int × Int)):Ct Tryd.prog 3 [.agg [.int .u8 p0.N,.int .u8 p0.Order.1,.int .u8 p0.Order.2.1,.int .u8 p0.Order.2.2.1,.int .u8 p0.Order.2.2.2.1,.int .u8 p0.Order.2.2.2.2.1,.int .u8 p0.Order.2.2.2.2.2,.int .u16 p0.Edges],.agg [.int .u8 p1.N,.int .u8 p1.Order.1,.int .u8 p1.Order.2.1,.int .u8 p1.Order.2.2.1,.int .u8 p1.Order.2.2.2.1,.int .u8 p1.Order.2.2.2.2.1,.int .u8 p1.Order.2.2.2.2.2,.int .u16 p1.Edges],.agg [.int .u8 p2.1,.int .u8 p2.2]] (Qbm p0 p1 p2) (fun x=>vB x) (fun x=>[]):=by
 refine hfn [] Tryd.func3 <| hcl 4 [] (g_law31_works_ok ) fun x1 _=>hbr 1 [22] (hrt 3) <| ?_
 refine hcl 2 [] (Qbq (Qd.mk p0.N (p0.Order.1,p0.Order.2.1,p0.Order.2.2.1,p0.Order.2.2.2.1,p0.Order.2.2.2.2.1,p0.Order.2.2.2.2.2) p0.Edges) 5) fun x5 _=>hcl 8 [F (AV.int .u64) x5] (Qfd x5 p2.1) fun x7 _=>hcl 2 [F (AV.int .u64) x5] (K2 x5) fun x9 _=>hcl 6 [F (AV.int .u64) x5] (g_equal_Essential_ok x5) fun x11 _=>hop 3 (fun _=>sgL false [] [] false gE) <| hcl 5 [F eTapi_Fact x9.1] (g_equal_Learn_ok (zn x5) x9.1) fun x13 _=>hop 3 (fun _=>sgL false [] [] false gE) <| hbr 5 [50,51] (hrt 16) <| ?_
 refine hbr 4 [53,54,55] (hrt 12) <| ?_
 refine hbr 4 [57,58,59] (hrt 8) <| ?_
 refine hcl 2 [F zp x11.1.Arrows,F zp x11.1.Lines,F zp x13.1.Arrows,F zp x13.1.Lines] (g_ref31_SameEssential_ok x11.1 x13.1) fun x21 _=>hbr 2 [63,64] (hrt 3) <| ?_
 refine hcl 6 [F (AV.int .u64) x7] (us:=[eL true (AV.int .u64) x7,.int .u8 p2.2]) (rv:=fun x25=>eL true (AV.int .u64) x25) (ro:=fun x25=>[]) (fun x25 q26=>Q4.froz (Qfd x7 p2.2 x25 q26) (Qg7 (w:=1) (bx:=false) (ro:=false) (enc:=(AV.int .u64)) (l:=x25) (fl:=true) rfl)) fun x25 _=>hcl 1 [] (us:=[.agg [.int .u8 p0.N,.int .u8 p1.Order.1,.int .u8 p1.Order.2.1,.int .u8 p1.Order.2.2.1,.int .u8 p1.Order.2.2.2.1,.int .u8 p1.Order.2.2.2.2.1,.int .u8 p1.Order.2.2.2.2.2,.int .u16 p1.Edges],vI 5]) (rv:=fun x27=>eL true (AV.int .u64) x27) (ro:=fun x27=>[]) (fun x27 q28=>Q4.froz (Qbq (Qd.mk p0.N (p1.Order.1,p1.Order.2.1,p1.Order.2.2.1,p1.Order.2.2.2.1,p1.Order.2.2.2.2.1,p1.Order.2.2.2.2.2) p1.Edges) 5 x27 q28) (Qg7 (w:=1) (bx:=false) (ro:=false) (enc:=(AV.int .u64)) (l:=x27) (fl:=true) rfl)) fun x27 _=>hlp 2 (fun s29=>⟨[(7,.ref 0 0 x5.length),(9,.ref 1 0 x9.1.length),(72,.agg [eL true (AV.int .u64) x7,eL true (AV.int .u64) x25,eL true (AV.int .u64) x27]),(73,vI s29)],[oR true 1 (AV.int .u64) x5,oR true 3 eTapi_Fact x9.1],104⟩) (fun x=>match x with | .inl v=>(.ret,⟨[(6,vB false)],[],104⟩) | .inr v=>(.exit 0,⟨[],[],104⟩)) (wk_trans (wk_gc (live:=[7,9,72,73]) (keep:=[3,5,4]) gE) (wk_trans (wsn 72 [F (AV.int .u64) x7]) (wk_gc (live:=[7,9,72,73]) (keep:=[0,1]) kr))) (fun s29=>?_) (hsm (fun x51=>?_) (fun x52=>?_))
 ·refine hbr 1 [74] (?_) ?_
  ·refine hbd fun a32 q33=>hop 1 (fun _=>Q6x (enc:=(eL true (AV.int .u64))) (l:=([x7,x25,x27]:(List (List Int)))) (n:=s29) (a:=a32) (w:=1) (g:=false) (v:=eL true (AV.int .u64) a32) kr (fun _=>rfl) kr q33 kr gE) <| hcl 2 [] (g_equal_Check_ok a32) fun x34 _=>hbr 1 [78] (hwk 1 (wl [7,9,72,73] [0,1]) <| hnx 3 (wz [0,1])) <| ?_
   refine hcl 2 [] (K2 a32) fun x38 _=>hcl 7 [F (AV.int .u64) x5] (Qch x5 a32) fun x40 _=>hbr 8 [91,92] (hdx 12 (wz [])) <| ?_
   refine hbr 4 [94,95,96] (hdx 8 (wz [])) <| ?_
   refine hcl 3 [F eTapi_Fact x9.1,F eTapi_Fact x38.1] (g_slices_Equal_api_Fact_api_Fact_ok x9.1 x38.1) fun x46 _=>hbr 2 [101,102] (hdx 2 (wz [])) <| ?_
   refine hnx 3 (wz [0,1])
  refine hdx 1 (wz [])
 ·refine hrt 0
 refine hrt 2
end
end Go.Ab
namespace Go.Ab
open Go
set_option maxRecDepth 100000
set_option maxHeartbeats 400000
def msk:Nat → (Nat → Bool)→Nat
 | 0,_=>0
 | n+1,p=>msk n p ||| (if p n then 2^n else 0)
theorem Qv (n:Nat) (p:Nat → Bool) (i:Nat):(msk n p).testBit i=(decide (i < n) && p i):=by
 induction n with
 | zero=>simp [msk]
 | succ n ih =>
  unfold msk
  rw [Nat.testBit_or,ih]
  by_cases h:i=n
  ·subst h
   cases hp:p i <;> simp [hp]
  ·have e:decide (i < n+1)=decide (i < n):=by by_cases h2:i < n <;> simp [h2] <;> omega
   rw [e]
   cases hp:p n
   ·simp
   ·simp only [if_true,Nat.testBit_two_pow]
    have e2:¬ n=i:=fun e=>h e.symm
    simp [e2]
theorem msk_lt (n:Nat) (p:Nat → Bool):msk n p < 2^n:=by
 induction n with
 | zero=>simp [msk]
 | succ n ih =>
  unfold msk
  refine Nat.or_lt_two_pow (Nat.lt_of_lt_of_le ih (Nat.pow_le_pow_right (by omega) (by omega))) ?_
  split
  ·exact Nat.pow_lt_pow_right (by omega) (by omega)
  ·exact Nat.two_pow_pos _
theorem Qc2 {n:Nat} {p:Nat → Bool} {a:Nat} (ha:a < 2^n) (h:∀i,i < n→a.testBit i=p i):a=msk n p:=by
 apply Nat.eq_of_testBit_eq
 intro i
 rw [Qv]
 by_cases hi:i < n
 ·simp [hi,h i hi]
 ·rw [Nat.testBit_lt_two_pow (Nat.lt_of_lt_of_le ha (Nat.pow_le_pow_right (by omega) (by omega)))]; simp [hi]
theorem Z5 {n:Nat} {p q:Nat → Bool} (h:∀i,i < n→p i=q i):msk n p=msk n q :=
 Qc2 (msk_lt n p) fun i hi=>by rw [Qv,h i hi]; simp [hi]
theorem Q3q {n:Nat} {p q:Nat → Bool} (h:msk n p=msk n q):∀i,i < n→p i=q i:=fun i hi=>by
 have:=Qv n p i
 rw [h,Qv] at this
 simpa [hi] using this.symm
theorem Qzk {n a:Nat} (hn:n≤10) (ha:a < 2^n):a < 1024:=Nat.lt_of_lt_of_le ha (Nat.pow_le_pow_right (n:=2) (by omega) hn)
theorem Q4i {n a:Nat} (hn:n≤10) (ha:a < 2^n):a < 18446744073709551616:=by have:=Qzk hn ha; omega
theorem Qcz {n:Nat} (h:n < 18446744073709551616):zv (n:Int)=(n:Int):=by
 simp [IntKind.wrap,IntKind.bits,IntKind.signed]; omega
theorem Qc1 {a:Nat} (h:a < 18446744073709551616):(zb (a:Int)).toNat = a:=by
 show (BitVec.ofInt IntKind.u64.bits (a:Int)).toNat = a
 rw [BitVec.ofInt_natCast,BitVec.toNat_ofNat]
 exact Nat.mod_eq_of_lt h
theorem K1 {a k:Nat}:Int.fdiv (a:Int) ((2:Int)^k)=((a / 2^k:Nat):Int):=by
 rw [Int.fdiv_eq_ediv_of_nonneg _ (by exact_mod_cast Nat.zero_le (2^k))]
 simp
theorem Qzb {a j:Nat} (h:a < 18446744073709551616):(zb (a:Int)).getLsbD j=a.testBit j:=by unfold BitVec.getLsbD; rw [Qc1 h]
theorem Qa5 {v:Nat} (hv:v < 64):zv (1*2^min (Int.toNat (v:Int)) zk)=((2^v:Nat):Int):=by
 have hb:zk=64:=rfl
 have e0:min (Int.toNat (v:Int)) zk=v:=by rw [hb,Int.toNat_natCast]; omega
 have hp:2^v < 18446744073709551616:=Nat.pow_lt_pow_right (n:=64) (by omega) hv
 rw [e0,show (1:Int)*2^v=((2^v:Nat):Int) by simp,Qcz hp]
theorem Kl {v:Nat} (hv:v < 64):2^v < 18446744073709551616:=Nat.pow_lt_pow_right (n:=64) (by omega) hv
theorem Qth {n:Nat} {p q:Nat → Bool} {a b:Nat} (hn:n≤64) (ha:a < 2^n) (hb:b < 18446744073709551616) (hp:∀i,i < n→a.testBit i=p i) (hq:∀i,i < n→b.testBit i=q i) :
  zv (zb (a:Int) &&& ~~~ zb (b:Int)).toNat = ((msk n fun i=>p i && !q i:Nat):Int):=by
 have ha':a < 18446744073709551616:=Nat.lt_of_lt_of_le ha (Nat.pow_le_pow_right (n:=2) (by omega) hn)
 have h1:(zb (a:Int) &&& ~~~ zb (b:Int)).toNat < 18446744073709551616:=BitVec.isLt _
 rw [Qcz h1]
 congr 1
 refine Qc2 ?_ fun i hi=>?_
 ·refine Nat.lt_of_le_of_lt ?_ ha
  rw [BitVec.toNat_and,Qc1 ha']
  exact Nat.and_le_left
 ·have:i < 64:=by omega
  have e:(zb (a:Int) &&& ~~~ zb (b:Int)).toNat.testBit i=(zb (a:Int) &&& ~~~ zb (b:Int)).getLsbD i:=rfl
  rw [e,BitVec.getLsbD_and,BitVec.getLsbD_not,Qzb ha',Qzb hb,hp i hi,hq i hi]
  have h64:i < zk:=this
  simp [h64]
theorem Q6n {n:Nat} {p q:Nat → Bool} {a b:Nat} (hn:n≤64) (ha:a < 2^n) (hb:b < 2^n) (hp:∀i,i < n→a.testBit i=p i) (hq:∀i,i < n→b.testBit i=q i) :
  zv (zb (a:Int) ||| zb (b:Int)).toNat = ((msk n fun i=>p i || q i:Nat):Int):=by
 have h64:2^n≤2^64:=Nat.pow_le_pow_right (n:=2) (by omega) hn
 have ha':a < 18446744073709551616:=Nat.lt_of_lt_of_le ha h64
 have hb':b < 18446744073709551616:=Nat.lt_of_lt_of_le hb h64
 rw [BitVec.toNat_or,Qc1 ha',Qc1 hb',Qcz (Nat.or_lt_two_pow (n:=64) ha' hb')]
 congr 1
 exact Qc2 (Nat.or_lt_two_pow ha hb) fun i hi=>by rw [Nat.testBit_or,hp i hi,hq i hi]
theorem Qm (v i:Nat):(2^v).testBit i=decide (v=i):=Nat.testBit_two_pow
theorem Q4d {n:Nat} {p:Nat → Bool}:∀i,i < n→(msk n p).testBit i=p i:=fun i hi=>by rw [Qv]; simp [hi]
theorem Q6h {n v:Nat} {p:Nat → Bool} (hn:n≤10) (hv:v < 64):zv (zb ((msk n p:Nat):Int) &&& ~~~ zb (zv (1*2^min (Int.toNat (v:Int)) zk))).toNat = ((msk n fun i=>p i && !decide (v=i):Nat):Int):=by
 rw [Qa5 hv]
 exact Qth (by omega) (msk_lt n p) (Kl hv) Q4d fun i _=>Qm v i
theorem Q6e {n v:Nat} {p:Nat → Bool} (hn:n≤10) (hv:v < n):zv (zb ((msk n p:Nat):Int) ||| zb (zv (1*2^min (Int.toNat (v:Int)) zk))).toNat = ((msk n fun i=>p i || decide (v=i):Nat):Int):=by
 rw [Qa5 (by omega)]
 exact Q6n (by omega) (msk_lt n p) (Nat.pow_lt_pow_right (by omega) hv) Q4d fun i _=>Qm v i
theorem Qay {a k:Nat} (ha:a < 18446744073709551616) (hk:k < 64) :
  zv (zb (Int.fdiv (a:Int) (2^min (Int.toNat (k:Int)) zk)) &&& zb 1).toNat = ((a.testBit k).toNat : Int):=by
 have hb:zk=64:=rfl
 have e0:min (Int.toNat (k:Int)) zk=k:=by rw [hb,Int.toNat_natCast]; omega
 rw [e0,K1]
 have h1:a / 2^k < 18446744073709551616:=Nat.lt_of_le_of_lt (Nat.div_le_self _ _) ha
 have e1:(zb ((a / 2^k:Nat):Int) &&& zb 1).toNat = (a / 2^k) % 2:=by
  rw [BitVec.toNat_and,Qc1 h1,show (zb 1).toNat = 1 from rfl,Nat.and_one_is_mod]
 rw [e1,Qcz (by omega)]
 have e2:a.testBit k=((a / 2^k) % 2==1):=by rw [Nat.testBit_eq_decide_div_mod_eq]; rfl
 rw [e2]
 rcases Nat.mod_two_eq_zero_or_one (a / 2^k) with h | h <;> rw [h] <;> rfl
theorem Qv0 (n:Nat):msk n (fun _=>true)=2^n - 1:=(Qc2 (by have:=Nat.two_pow_pos n; omega) fun i hi=>by rw [Nat.testBit_two_pow_sub_one]; simp [hi]).symm
theorem Q2b {n:Nat} (hn:n≤10):zv ((zv (1*2^min (Int.toNat (n:Int)) zk)) - 1)=((msk n fun _=>true:Nat):Int):=by
 rw [Qa5 (by omega),Qv0]
 have h1:=Kl (v:=n) (by omega)
 have h2:=Nat.two_pow_pos n
 rw [show ((2^n:Nat):Int) - 1=((2^n - 1:Nat):Int) by omega,Qcz (by omega)]
def cnt:Nat → (Nat → Bool)→Nat
 | 0,_=>0
 | n+1,p=>cnt n p+(p n).toNat
def tzN:Nat → (Nat → Bool)→Nat
 | 0,_=>0
 | n+1,p=>if p 0 then 0 else tzN n (fun i=>p (i+1))+1
def isS (x:Option Int) (y:Int):Bool:=match x with | some z=>z==y | none=>false
theorem Q40 {x:Option Int} {y:Int} (h:isS x y=true):x=some y:=by
 cases x with
 | none=>cases h
 | some z=>simp only [isS,beq_iff_eq] at h; rw [h]
theorem Qxp {p:Nat → Bool} {n:Nat} (h:(List.range n).all p=true) {k:Nat} (hk:k < n):p k=true:=List.all_eq_true.1 h k (List.mem_range.2 hk)
theorem Q6y:((List.range 1024).all fun R=>Nat.beq R 0 || (isS (Qs (R:Int)) (tzN 10 R.testBit:Int)))=true:=by kernel_rfl
theorem Q4h:((List.range 1024).all fun R=>Nat.beq R 0 || (zv (zb (R:Int) &&& zb (zv ((R:Int) - 1))).toNat == ((msk 10 fun i=>R.testBit i && !Nat.beq (tzN 10 R.testBit) i:Nat):Int)))=true:=by kernel_rfl
theorem Qlo {n:Nat} {p q:Nat → Bool} (h:∀i,i < n→p i=q i):cnt n p=cnt n q:=by
 induction n with
 | zero=>rfl
 | succ n ih=>simp only [cnt]; rw [ih fun i hi=>h i (by omega),h n (by omega)]
theorem Qn1 (n:Nat) (p:Nat → Bool):cnt n p≤n:=by
 induction n with
 | zero=>exact Nat.le_refl _
 | succ n ih =>
  simp only [cnt]; have:(p n).toNat ≤ 1:=by cases p n <;> decide
  omega
theorem Qdt {n:Nat} {p q:Nat → Bool} (h:∀i,i < n→p i=true→q i=true):cnt n p≤cnt n q:=by
 induction n with
 | zero=>exact Nat.le_refl _
 | succ n ih =>
  simp only [cnt]
  have h1:=ih fun i hi=>h i (by omega)
  have h2:=h n (by omega)
  cases hp:p n with
  | false =>
   have:false.toNat = 0:=rfl
   omega
  | true=>rw [h2 hp]; omega
theorem Q0j {n:Nat} {p:Nat → Bool} (h:∀i,i < n→p i=false):cnt n p=0:=by
 induction n with
 | zero=>rfl
 | succ n ih=>simp only [cnt]; rw [ih fun i hi=>h i (by omega),h n (by omega)]; rfl
theorem Q2m {n:Nat} {p:Nat → Bool} {i:Nat} (hi:i < n) (h:p i=true):0 < cnt n p:=by
 induction n with
 | zero=>omega
 | succ n ih =>
  simp only [cnt]
  by_cases e:i=n
  ·subst e; rw [h]; show 0 < _+1; omega
  ·have:=ih (by omega); omega
theorem Qfu {n v:Nat} {p:Nat → Bool} (hv:v < n) (h:p v=true):cnt n (fun i=>p i && !decide (v=i))+1=cnt n p:=by
 induction n with
 | zero=>omega
 | succ n ih =>
  simp only [cnt]
  by_cases e:v=n
  ·subst e
   rw [Qlo (n:=v) (q:=p) fun i hi=>by simp; intro _; omega,h]
   simp
  ·have:=ih (by omega)
   have e2:(p n && !decide (v=n))=p n:=by simp; intro _; exact e
   rw [e2]; omega
theorem Qnm:∀(n:Nat) (p:Nat → Bool),(∃i,i < n∧p i=true)→tzN n p < n∧p (tzN n p)=true∧∀i,i < tzN n p→p i=false
 | 0,p,⟨i,hi,_⟩=>by omega
 | n+1,p,⟨i,hi,h⟩=>by
  unfold tzN
  by_cases h0:p 0=true
  ·rw [if_pos h0]; exact ⟨by omega,h0,fun i hi=>by omega⟩
  ·rw [if_neg h0]
   have hi0:i≠0:=fun e=>h0 (e ▸ h)
   obtain ⟨a,b,c⟩:=Qnm n (fun i=>p (i+1)) ⟨i - 1,by omega,by rw [show i - 1+1=i by omega]; exact h⟩
   refine ⟨by omega,b,fun j hj=>?_⟩
   cases j with
   | zero=>simpa using h0
   | succ j=>exact c j (by omega)
theorem Q4y {n v:Nat} {p:Nat → Bool} (hv:v < n) (h:p v=true) (hl:∀i,i < v→p i=false):tzN n p=v:=by
 obtain ⟨a,b,c⟩:=Qnm n p ⟨v,hv,h⟩
 rcases Nat.lt_trichotomy (tzN n p) v with e | e | e
 ·rw [hl _ e] at b; cases b
 ·exact e
 ·rw [c v e] at h; cases h
theorem Q0v {n v:Nat} {p:Nat → Bool} (hn:n≤10) (hv:v < n) (h:p v=true) (hl:∀i,i < v→p i=false) :
  (((msk n p:Nat):Int) != 0)=true∧Qs ((msk n p:Nat):Int)=some (v:Int) ∧
  zv (zb ((msk n p:Nat):Int) &&& zb (zv (((msk n p:Nat):Int) - 1))).toNat = ((msk n fun i=>p i && !decide (v=i):Nat):Int):=by
 have hlt:=msk_lt n p
 have hR:=Qzk hn hlt
 have hb:(msk n p).testBit v=true:=by rw [Qv]; simp [hv,h]
 have h0:msk n p≠0:=fun e=>by rw [e] at hb; simp at hb
 have e0:Nat.beq (msk n p) 0=false:=by
  cases e:msk n p with
  | zero=>exact absurd e h0
  | succ k=>rfl
 have etz:tzN 10 (msk n p).testBit=v:=Q4y (by omega) hb fun i hi=>by rw [Qv,hl i hi]; simp
 have h1:=Qxp Q6y hR
 have h2:=Qxp Q4h hR
 simp only [e0,Bool.false_or,etz] at h1 h2
 refine ⟨by simp; omega,Q40 h1,?_⟩
 have h3:zv (zb ((msk n p:Nat):Int) &&& zb (zv (((msk n p:Nat):Int) - 1))).toNat = ((msk 10 fun i=>(msk n p).testBit i && !Nat.beq v i:Nat):Int):=by simpa using h2
 rw [h3]
 congr 1
 apply Nat.eq_of_testBit_eq
 intro j
 rw [Qv,Qv,Qv]
 have e:Nat.beq v j=decide (v=j):=by
  by_cases e:v=j
  ·subst e; simp
  ·rw [decide_eq_false e,Bool.eq_false_iff]; exact fun h=>e (Nat.eq_of_beq_eq_true h)
 rw [e]
 by_cases hj:j < n
 ·simp [hj,show j < 10 by omega]
 ·simp [hj]
theorem Qo (k:Nat):(0:Int)≤(k:Int):=Int.natCast_nonneg k
theorem Qs6 {k:Nat} (h:k < 9223372036854775807):zw ((k:Int)+1)=((k+1:Nat):Int):=by rw [w64 (by omega)]; omega
theorem Yt {τ ρ σ:Type} {n k0:Nat} (hk:k0≤n) (hn:n < 1152921504606846976) (mkS:Int→τ→σ) {body:σ→Option (Qg σ ρ)} (I:Nat → τ→Prop) (Q:ρ→Prop)
  (step:∀(k:Nat) (t:τ),k0≤k→k < n→I k t→(∃t',body (mkS (k:Int) t)=some (.next (mkS (zw ((k:Int)+1)) t'))∧I (k+1) t')∨(∃r,body (mkS (k:Int) t)=some (.done r)∧Q r))
  (done:∀t,I n t→∃r,body (mkS (n:Int) t)=some (.done r)∧Q r) (t0:τ) (h0:I k0 t0):∃r,Qb fuel body (mkS (k0:Int) t0)=some r∧Q r:=by
 have key:∀(j N k:Nat) (t:τ),k+j=n→k0≤k→j < N→I k t→∃r,Qb N body (mkS (k:Int) t)=some r∧Q r:=by
  intro j
  induction j with
  | zero =>
   intro N k t e hk hN hI
   obtain ⟨N,rfl⟩:∃M,N=M+1:=⟨N - 1,by omega⟩
   have:k=n:=by omega
   subst this
   obtain ⟨r,b1,b2⟩:=done t hI
   simp only [Qb,b1]
   exact ⟨r,rfl,b2⟩
  | succ j ih =>
   intro N k t e hk hN hI
   obtain ⟨N,rfl⟩:∃M,N=M+1:=⟨N - 1,by omega⟩
   rcases step k t hk (by omega) hI with ⟨t',b1,b2⟩ | ⟨r,b1,b2⟩
   ·rw [Qs6 (by omega)] at b1
    simp only [Qb,b1]
    exact ih N (k+1) t' (by omega) (by omega) (by omega) b2
   ·simp only [Qb,b1]
    exact ⟨r,rfl,b2⟩
 exact key (n - k0) fuel k0 t0 (by omega) (Nat.le_refl _) (by show n - k0 < 1152921504606846976; omega) h0
theorem Xr {τ ρ σ:Type} {n k0:Nat} (hk:k0≤n) (hn:n < 1152921504606846976) (mkS:Int→τ→σ) {body:σ→Option (Qg σ ρ)} (T:Nat → τ) (r:ρ)
  (step:∀(k:Nat),k0≤k→k < n→body (mkS (k:Int) (T k))=some (.next (mkS (zw ((k:Int)+1)) (T (k+1)))))
  (done:body (mkS (n:Int) (T n))=some (.done r)):Qb fuel body (mkS (k0:Int) (T k0))=some r:=by
 obtain ⟨r',h1,h2⟩:=Yt hk hn mkS (body:=body) (fun k t=>t=T k) (fun x=>x=r) (fun k t a b c=>.inl ⟨T (k+1),by rw [c]; exact step k a b,rfl⟩) (fun t h=>⟨r,by rw [h]; exact done,rfl⟩) (T k0) rfl
 rw [h1,h2]
theorem dlt {k n:Nat} (h:k < n):decide ((k:Int) < (n:Int))=true:=decide_eq_true (by omega)
theorem nlt (n:Nat):¬ (decide ((n:Int) < (n:Int))=true):=by simp
def Qc8 {α:Type} (n:Nat) (F:Nat → α):List α:=(List.range n).map F
theorem Qtb {α:Type} {n:Nat} {F:Nat → α}:(Qc8 n F).length=n:=by simp [Qc8]
theorem Q0z {α:Type} {n:Nat} {F:Nat → α} {k:Nat} (h:k < n):lkI (Qc8 n F) (k:Int)=some (F k):=by
 rw [Q6 (by rw [Qtb]; exact h)]; simp [Qc8]
def Qc (n:Nat) (w:Nat → Nat):List Int:=Qc8 n fun j=>(w j:Int)
theorem Qy {n k:Nat} {w:Nat → Nat} (h:k < n):lkI (Qc n w) (k:Int)=some (w k:Int):=Q0z h
theorem Zd {n:Nat} {w:Nat → Nat}:(Qc n w).length=n:=Qtb
theorem Qgz {τ ρ σ:Type} {n:Nat} (hn:n < 1152921504606846976) (good:Nat → Prop) (mkS:Int→τ→σ) {body:σ→Option (Qg σ ρ)} (T:Nat → τ) (r rb:ρ)
  (step:∀k,k < n→(∀j,j < k→good j)→good k→body (mkS (k:Int) (T k))=some (.next (mkS (zw ((k:Int)+1)) (T (k+1)))))
  (bad:∀k,k < n→(∀j,j < k→good j)→¬ good k→body (mkS (k:Int) (T k))=some (.done rb))
  (done:(∀j,j < n→good j)→body (mkS (n:Int) (T n))=some (.done r)) :
  ((∀j,j < n→good j)∧Qb fuel body (mkS ((0:Nat):Int) (T 0))=some r)∨((¬ ∀j,j < n→good j)∧Qb fuel body (mkS ((0:Nat):Int) (T 0))=some rb):=by
 have h:=Yt (n:=n) (k0:=0) (by omega) hn mkS (body:=body) (fun k t=>t=T k∧∀j,j < k→good j) (fun x=>((∀j,j < n→good j)∧x=r)∨((¬ ∀j,j < n→good j)∧x=rb))
  (fun k t _ hk hI=>by
   obtain ⟨rfl,hI⟩:=hI
   by_cases hg:good k
   ·left
    exact ⟨_,step k hk hI hg,rfl,fun j hj=>by
     by_cases e:j=k
     ·rw [e]; exact hg
     ·exact hI j (by omega)⟩
   ·exact .inr ⟨_,bad k hk hI hg,.inr ⟨fun h=>hg (h k hk),rfl⟩⟩)
  (fun t hI=>by
   obtain ⟨rfl,hI⟩:=hI
   exact ⟨_,done hI,.inl ⟨hI,rfl⟩⟩) (T 0) ⟨rfl,fun j hj=>by omega⟩
 obtain ⟨x,h1,h2⟩:=h
 rcases h2 with ⟨a,rfl⟩ | ⟨a,rfl⟩
 ·exact .inl ⟨a,h1⟩
 ·exact .inr ⟨a,h1⟩
theorem Kj {a b:Nat} (ha:a < 18446744073709551616) (hb:b < 18446744073709551616):zv (zb (a:Int) ||| zb (b:Int)).toNat = ((a ||| b:Nat):Int):=by
 rw [BitVec.toNat_or,Qc1 ha,Qc1 hb,Qcz (Nat.or_lt_two_pow (n:=64) ha hb)]
theorem Qdq {a v:Nat} (ha:a < 18446744073709551616) (hv:v < 64):Xl (a:Int) (v:Int)=some (a.testBit v):=by
 unfold Xl
 rw [if_pos (Qo v),Qay ha hv]
 cases a.testBit v <;> rfl
def Zo (a b:Nat):Prop:=∀j,a.testBit j=true→b.testBit j=true
theorem Zo.refl {a:Nat}:Zo a a:=fun _ h=>h
theorem Zo.trans {a b c:Nat} (h:Zo a b) (k:Zo b c):Zo a c:=fun j hj=>k j (h j hj)
theorem Qgn {a b:Nat}:Zo a (a ||| b):=fun j h=>by rw [Nat.testBit_or,h]; rfl
theorem Qs8 {a b:Nat}:Zo b (a ||| b):=fun j h=>by rw [Nat.testBit_or,h]; simp
theorem or_sub {a b c:Nat} (h:Zo a c) (k:Zo b c):Zo (a ||| b) c:=fun j hj=>by
 rw [Nat.testBit_or,Bool.or_eq_true] at hj
 rcases hj with e | e
 ·exact h j e
 ·exact k j e
theorem sub_anti {a b:Nat} (h:Zo a b) (k:Zo b a):a=b:=Nat.eq_of_testBit_eq fun j=>by
 cases ha:a.testBit j with
 | true=>rw [h j ha]
 | false=>cases hb:b.testBit j with
  | true=>rw [k j hb] at ha; cases ha
  | false=>rfl
def upV (S:Nat → Nat) (s v:Nat):Nat := if s.testBit v then s ||| S v else s
def upR (n:Nat) (S:Nat → Nat) (s:Nat):Nat := (List.range n).foldl (upV S) s
def ups (n:Nat) (S:Nat → Nat):Nat → Nat → Nat
 | 0,s=>s
 | k+1,s=>upR n S (ups n S k s)
theorem Qxk {S:Nat → Nat} {s v:Nat}:Zo s (upV S s v):=by
 unfold upV; split
 ·exact Qgn
 ·exact .refl
theorem Qmh {S:Nat → Nat}:∀(l:List Nat) (s:Nat),Zo s (l.foldl (upV S) s)
 | [],s=>.refl
 | v::l,s=>Qxk.trans (Qmh l _)
theorem Qt9 {S:Nat → Nat} {v:Nat}:∀(l:List Nat) (s:Nat),v∈l→s.testBit v=true→Zo (S v) (l.foldl (upV S) s)
 | [],s,h,_=>by cases h
 | u::l,s,h,hs=>by
  simp only [List.foldl_cons]
  by_cases e:v=u
  ·subst e
   refine Zo.trans ?_ (Qmh l _)
   unfold upV; rw [if_pos hs]; exact Qs8
  ·exact Qt9 l _ (by simpa [e] using h) (Qxk v hs)
theorem Qme {S:Nat → Nat} {T:Nat}:∀(l:List Nat) (s:Nat),(∀v∈l,T.testBit v=true→Zo (S v) T)→Zo s T→Zo (l.foldl (upV S) s) T
 | [],s,_,h=>h
 | v::l,s,hT,h=>by
  simp only [List.foldl_cons]
  refine Qme l _ (fun u hu=>hT u (List.mem_cons_of_mem _ hu)) ?_
  unfold upV; split
  ·rename_i hs; exact or_sub h (hT v (by simp) (h v hs))
  ·exact h
def Clo (n:Nat) (S:Nat → Nat) (T:Nat):Prop:=∀v,v < n→T.testBit v=true→Zo (S v) T
theorem Vo {n:Nat} {S:Nat → Nat} {s:Nat}:∀k,Zo s (ups n S k s)
 | 0=>.refl
 | k+1=>(Vo k).trans (Qmh _ _)
theorem Vx {n:Nat} {S:Nat → Nat} {s T:Nat} (hT:Clo n S T) (h:Zo s T):∀k,Zo (ups n S k s) T
 | 0=>h
 | k+1=>Qme _ _ (fun v hv=>hT v (List.mem_range.1 hv)) (Vx hT h k)
theorem Q29 {n:Nat} {S:Nat → Nat} {s:Nat} (h:upR n S s=s):Clo n S s:=fun v hv hs=>by
 have:=Qt9 (S:=S) (List.range n) s (List.mem_range.2 hv) hs
 unfold upR at h
 rwa [h] at this
theorem Qsa {n a b:Nat} (h:Zo a b) (hb:∀j,b.testBit j=true→j < n) (hne:a≠b):cnt n a.testBit < cnt n b.testBit:=by
 have:∃j,b.testBit j=true∧a.testBit j=false:=by
  apply Classical.byContradiction
  intro hno
  exact hne (sub_anti h fun j hj=>by
   cases ha:a.testBit j with
   | true=>rfl
   | false=>exact absurd ⟨j,hj,ha⟩ hno)
 obtain ⟨j,h1,h2⟩:=this
 have e:=Qfu (n:=n) (p:=b.testBit) (hb j h1) h1
 have:cnt n a.testBit≤cnt n (fun i=>b.testBit i && !decide (j=i)):=Qdt fun i _ hi=>by
  have:j≠i:=fun e=>by subst e; rw [h2] at hi; cases hi
  simp [h i hi,this]
 omega
theorem Qcj (n:Nat) {S:Nat → Nat} (hS:∀v,v < n→∀j,(S v).testBit j=true→j < n):Clo n S (2^n - 1):=fun v hv _ j hj=>by
 rw [Nat.testBit_two_pow_sub_one]; simpa using hS v hv j hj
theorem Qcq {n:Nat} {S:Nat → Nat} {s:Nat} (hS:∀v,v < n→∀j,(S v).testBit j=true→j < n) (hs:∀j,s.testBit j=true→j < n):Clo n S (ups n S n s):=by
 have hin:∀k j,(ups n S k s).testBit j=true→j < n:=fun k j hj=>by
  have:=Vx (Qcj n hS) (s:=s) (fun j hj=>by rw [Nat.testBit_two_pow_sub_one]; simpa using hs j hj) k j hj
  rw [Nat.testBit_two_pow_sub_one] at this; simpa using this
 have key:∀k,upR n S (ups n S k s)=ups n S k s∨k+cnt n s.testBit≤cnt n (ups n S k s).testBit:=by
  intro k
  induction k with
  | zero=>right; simp [ups]
  | succ k ih =>
   by_cases hf:upR n S (ups n S k s)=ups n S k s
   ·left; simp only [ups]; rw [hf,hf]
   ·right
    rcases ih with h | h
    ·exact absurd h hf
    ·have:=Qsa (n:=n) (Qmh (S:=S) (List.range n) (ups n S k s)) (hin (k+1)) (fun e=>hf e.symm)
     show k+1+_≤cnt n (upR n S (ups n S k s)).testBit
     unfold upR; omega
 rcases key n with h | h
 ·exact Q29 h
 ·have h0:=Qn1 n (ups n S n s).testBit
  have hz:cnt n s.testBit=0:=by omega
  have:s=0:=Nat.eq_of_testBit_eq fun j=>by
   rw [Nat.zero_testBit,Bool.eq_false_iff]
   intro hj
   have:=Q2m (n:=n) (hs j hj) hj; omega
  subst this
  have h1:=Vx (n:=n) (S:=S) (s:=0) (T:=0) (fun v _ hv=>by rw [Nat.zero_testBit] at hv; cases hv) .refl n
  intro v hv hb
  have:=h1 v hb
  rw [Nat.zero_testBit] at this; cases this
theorem Jb {n s:Nat} (h:∀j,s.testBit j=true→j < n):s < 2^n:=by
 apply Nat.lt_pow_two_of_testBit
 intro i hi
 rw [Bool.eq_false_iff]; intro hj
 have:=h i hj; omega
theorem Qxw {n:Nat} {S:Nat → Nat} {s:Nat} (hn:n≤8) (hS:∀v,v < n→∀j,(S v).testBit j=true→j < n) (hs:∀j,s.testBit j=true→j < n):Qe3 (Qc n S) (s:Int)=some ((ups n S n s:Nat):Int):=by
 have hlen:(Qc n S).length=n:=Zd
 have hfull:=Qcj n hS
 have hs0:Zo s (2^n - 1):=fun j hj=>by rw [Nat.testBit_two_pow_sub_one]; simpa using hs j hj
 have p8:(2:Nat)^n≤256:=Nat.pow_le_pow_right (n:=2) (by omega) hn
 have hlt:∀{t:Nat},Zo t (2^n - 1)→t < 18446744073709551616:=fun h=>by
  have:=Jb (n:=n) fun j hj=>by have:=h j hj; rw [Nat.testBit_two_pow_sub_one] at this; simpa using this
  omega
 have inner:∀t,Zo t (2^n - 1)→Qb fuel (Js (Qc n S)) ((t:Int),(0:Int))=some ((upR n S t:Nat):Int):=fun t ht=>by
  have h:=Xr (n:=n) (k0:=0) (by omega) (by omega) (fun i (x:Int)=>(x,i)) (body:=Js (Qc n S)) (fun k=>(((List.range k).foldl (upV S) t:Nat):Int)) ((upR n S t:Nat):Int)
   (fun k _ hk=>by
    have hsub:=Qme (S:=S) (T:=2^n - 1) (List.range k) t (fun v hv=>hfull v (by have:=List.mem_range.1 hv; omega)) ht
    unfold Js
    dsimp only
    rw [hlen,if_pos (dlt hk),Qdq (hlt hsub) (by omega),Option.bind_some,List.range_succ,List.foldl_append]
    simp only [List.foldl_cons,List.foldl_nil]
    unfold upV
    by_cases c:((List.range k).foldl (upV S) t).testBit k=true
    ·unfold upV at c
     rw [if_pos c,Qy hk,Option.bind_some,if_pos c]
     have hsub':=hsub
     unfold upV at hsub'
     rw [Kj (hlt hsub') (by
      have:=Jb (hS k hk); omega)]
    ·unfold upV at c
     rw [if_neg c,if_neg c])
   (by unfold Js; dsimp only; rw [hlen,if_neg (nlt n)]; rfl)
  rw [show ((0:Nat):Int)=0 from rfl] at h
  exact h
 have h:=Xr (n:=n) (k0:=0) (by omega) (by omega) (fun i (x:Int)=>(x,i)) (body:=K0 (Qc n S)) (fun k=>((ups n S k s:Nat):Int)) ((ups n S n s:Nat):Int)
  (fun k _ hk=>by
   unfold K0
   dsimp only
   rw [hlen,if_pos (dlt hk),inner _ (Vx hfull hs0 k)]; rfl)
  (by unfold K0; dsimp only; rw [hlen,if_neg (nlt n)])
 rw [show ((0:Nat):Int)=0 from rfl] at h
 unfold Qe3
 rw [show ups n S 0 s=s from rfl] at h
 rw [h]; rfl
end Go.Ab
namespace Go.Ab
open Go
set_option maxRecDepth 100000
set_option maxHeartbeats 400000
def Qll (a p:Nat):Bool:=(a ||| p)==p
theorem Qjy {a p:Nat}:Qll a p=true↔Zo a p:=by
 unfold Qll
 rw [beq_iff_eq]
 constructor
 ·intro h j hj
  have:(a ||| p).testBit j=p.testBit j:=by rw [h]
  rw [Nat.testBit_or,hj] at this; simpa using this.symm
 ·intro h
  exact sub_anti (or_sub h .refl) Qs8
theorem Q12 {a p:Nat} (ha:a < 18446744073709551616) (hp:p < 18446744073709551616) :
  ((zv (zb (a:Int) &&& ~~~ zb (p:Int)).toNat)==0)=Qll a p:=by
 rw [Qth (n:=64) (p:=a.testBit) (q:=p.testBit) (by omega) ha hp (fun _ _=>rfl) (fun _ _=>rfl)]
 rw [Bool.eq_iff_iff,beq_iff_eq,Qjy]
 constructor
 ·intro h j hj
  have h0:(msk 64 fun i=>a.testBit i && !p.testBit i)=0:=by exact_mod_cast h
  have hj64:j < 64:=by
   apply Classical.byContradiction
   intro hn
   rw [Nat.testBit_lt_two_pow (Nat.lt_of_lt_of_le (show a < 2^64 from ha) (Nat.pow_le_pow_right (by omega) (by omega)))] at hj; cases hj
  have:=Qv 64 (fun i=>a.testBit i && !p.testBit i) j
  rw [h0] at this
  simp [hj64,hj] at this
  exact this
 ·intro h
  have:(msk 64 fun i=>a.testBit i && !p.testBit i)=msk 64 (fun _=>false):=Z5 fun i _=>by
   cases e:a.testBit i with
   | false=>rfl
   | true=>rw [h i e]; rfl
  rw [this]
  rfl
def plV (S:Nat → Nat) (p v:Nat):Nat := if Qll (S v) p=true then p ||| 2^v else p
def plR (n:Nat) (S:Nat → Nat) (p:Nat):Nat := (List.range n).foldl (plV S) p
def pls (n:Nat) (S:Nat → Nat):Nat → Nat
 | 0=>0
 | k+1=>plR n S (pls n S k)
theorem Qyu {S:Nat → Nat} {p v:Nat}:Zo p (plV S p v):=by
 unfold plV; split
 ·exact Qgn
 ·exact .refl
theorem Qse {S:Nat → Nat}:∀(l:List Nat) (p:Nat),Zo p (l.foldl (plV S) p)
 | [],_=>.refl
 | v::l,p=>Qyu.trans (Qse l _)
theorem Qv1 {S:Nat → Nat} {v:Nat}:∀(l:List Nat) (p:Nat),v∈l→Zo (S v) p→(l.foldl (plV S) p).testBit v=true
 | [],_,h,_=>by cases h
 | u::l,p,h,hs=>by
  simp only [List.foldl_cons]
  by_cases e:v=u
  ·subst e
   refine Qse l _ v ?_
   unfold plV; rw [if_pos (Qjy.2 hs),Nat.testBit_or,Qm]; simp
  ·exact Qv1 l _ (by simpa [e] using h) (hs.trans Qyu)
def Rk (n:Nat) (S:Nat → Nat) (p:Nat):Prop:=(∀j,p.testBit j=true→j < n)∧∃(r:Nat → Nat) (M:Nat),(∀x,r x≤M)∧∀v,p.testBit v=true→∀j,(S v).testBit j=true→p.testBit j=true∧r j < r v
theorem Q3d {n:Nat} {S:Nat → Nat} {p v:Nat} (hv:v < n) (h:Rk n S p):Rk n S (plV S p v):=by
 unfold plV
 split
 ·rename_i hs
  have hs:=Qjy.1 hs
  obtain ⟨h1,r,M,h2,h3⟩:=h
  by_cases hp:p.testBit v=true
  ·have e:p ||| 2^v=p:=sub_anti (or_sub .refl fun j hj=>by rw [Qm] at hj; have:=of_decide_eq_true hj; subst this; exact hp) Qgn
   rw [e]; exact ⟨h1,r,M,h2,h3⟩
  ·refine ⟨fun j hj=>?_,fun x=>if x=v then M+1 else r x,M+1,fun x=>?_,fun w hw j hj=>?_⟩
   ·rw [Nat.testBit_or,Qm,Bool.or_eq_true] at hj
    rcases hj with hj | hj
    ·exact h1 j hj
    ·have:=of_decide_eq_true hj; omega
   ·show (if x=v then M+1 else r x)≤M+1
    split
    ·omega
    ·have:=h2 x; omega
   ·rw [Nat.testBit_or,Qm,Bool.or_eq_true] at hw
    by_cases e:w=v
    ·subst e
     have hjp:=hs j hj
     have:¬ j=w:=fun e=>hp (e ▸ hjp)
     refine ⟨Qgn j hjp,?_⟩
     show (if j=w then M+1 else r j) < (if w=w then M+1 else r w)
     rw [if_neg this,if_pos rfl]; have:=h2 j; omega
    ·have hw:p.testBit w=true:=hw.resolve_right fun h=>e (of_decide_eq_true h).symm
     obtain ⟨h4,h5⟩:=h3 w hw j hj
     have:¬ j=v:=fun e=>hp (e ▸ h4)
     refine ⟨Qgn j h4,?_⟩
     show (if j=v then M+1 else r j) < (if w=v then M+1 else r w)
     rw [if_neg this,if_neg e]; exact h5
 ·exact h
theorem Qpq {n:Nat} {S:Nat → Nat}:∀(l:List Nat) (p:Nat),(∀v∈l,v < n)→Rk n S p→Rk n S (l.foldl (plV S) p)
 | [],_,_,h=>h
 | v::l,p,hl,h=>Qpq l _ (fun u hu=>hl u (List.mem_cons_of_mem _ hu)) (Q3d (hl v (by simp)) h)
theorem Qpd {n:Nat} {S:Nat → Nat}:∀k,Rk n S (pls n S k)
 | 0=>⟨fun j hj=>by simp [pls] at hj,fun _=>0,0,fun _=>Nat.le_refl _,fun v hv=>by simp [pls] at hv⟩
 | k+1=>Qpq _ _ (fun v hv=>List.mem_range.1 hv) (Qpd k)
structure Gd (n:Nat) (S:Nat → Nat):Prop where
 inn:∀v,v < n→∀j,(S v).testBit j=true→j < n
 acyc:∀v,v < n→¬ (ups n S n (S v)).testBit v=true
theorem Qns {n p:Nat} (h:∀j,p.testBit j=true→j < n):p=2^n - 1↔∀j,j < n→p.testBit j=true:=by
 constructor
 ·intro e j hj; rw [e,Nat.testBit_two_pow_sub_one]; simpa using hj
 ·intro k
  apply Nat.eq_of_testBit_eq
  intro j
  rw [Nat.testBit_two_pow_sub_one]
  by_cases hj:j < n
  ·rw [k j hj]; simp [hj]
  ·have:p.testBit j=false:=by rw [Bool.eq_false_iff]; exact fun e=>hj (h j e)
   rw [this]; simp [hj]
theorem Qo2 {n:Nat} {S:Nat → Nat}:pls n S n=2^n - 1↔Gd n S:=by
 have hrk:=Qpd (n:=n) (S:=S)
 constructor
 ·intro h
  obtain ⟨h1,r,M,h2,h3⟩:=hrk n
  have hall:=(Qns h1).1 h
  refine ⟨fun v hv j hj=>h1 j (h3 v (hall v hv) j hj).1,fun v hv hb=>?_⟩
  have hT:Clo n S (msk n fun j=>decide (r j < r v)):=fun w hw hb j hj=>by
   rw [Qv] at hb ⊢
   simp only [Bool.and_eq_true,decide_eq_true_eq] at hb ⊢
   have:=h3 w (hall w hw) j hj
   exact ⟨h1 j this.1,by omega⟩
  have hs:Zo (S v) (msk n fun j=>decide (r j < r v)):=fun j hj=>by
   rw [Qv]
   simp only [Bool.and_eq_true,decide_eq_true_eq]
   have:=h3 v (hall v hv) j hj
   exact ⟨h1 j this.1,this.2⟩
  have:=Vx hT hs n v hb
  rw [Qv] at this
  simp at this
 ·intro h
  have key:∀k,plR n S (pls n S k)=pls n S k∨k≤cnt n (pls n S k).testBit:=by
   intro k
   induction k with
   | zero=>right; exact Nat.zero_le _
   | succ k ih =>
    by_cases hf:plR n S (pls n S k)=pls n S k
    ·left; simp only [pls]; rw [hf,hf]
    ·right
     rcases ih with h | h
     ·exact absurd h hf
     ·have:=Qsa (n:=n) (Qse (S:=S) (List.range n) (pls n S k)) (hrk (k+1)).1 (fun e=>hf e.symm)
      show k+1≤cnt n (plR n S (pls n S k)).testBit
      unfold plR; omega
  refine (Qns (hrk n).1).2 ?_
  rcases key n with hst | hc
  ·generalize pls n S n=P at *
   have main:∀c v,v < n→¬ P.testBit v=true→cnt n (ups n S n (S v)).testBit=c→False:=by
    intro c
    induction c using Nat.strongRecOn with
    | _ c ih =>
     intro v hv hp hc
     have hns:¬ Zo (S v) P:=fun hs=>hp (by
      have:=Qv1 (List.range n) P (List.mem_range.2 hv) hs
      unfold plR at hst
      rwa [hst] at this)
     obtain ⟨j,hj,hjp⟩:∃j,(S v).testBit j=true∧¬ P.testBit j=true:=by
      apply Classical.byContradiction
      intro hno
      exact hns fun j hj=>Classical.byContradiction fun hp=>hno ⟨j,hj,hp⟩
     have hjn:=h.inn v hv j hj
     have hclo:=Qcq h.inn (s:=S v) (h.inn v hv)
     have hin:(ups n S n (S v)).testBit j=true:=Vo n j hj
     have hsub:Zo (ups n S n (S j)) (ups n S n (S v)):=Vx hclo (hclo j hjn hin) n
     have hb:∀i,(ups n S n (S v)).testBit i=true→i < n:=fun i hi=>by
      have:=Vx (Qcj n h.inn) (s:=S v) (fun i hi=>by rw [Nat.testBit_two_pow_sub_one]; simpa using h.inn v hv i hi) n i hi
      rw [Nat.testBit_two_pow_sub_one] at this; simpa using this
     have:=Qsa (n:=n) hsub hb fun e=>h.acyc j hjn (by rw [e]; exact hin)
     exact ih _ (by omega) j hjn hjp rfl
   exact fun j hj=>Classical.byContradiction fun hp=>main _ j hj hp rfl
  ·intro j hj
   apply Classical.byContradiction
   intro hp
   have h1:cnt n (pls n S n).testBit < n:=by
    have e:=Qfu (n:=n) (p:=fun _=>true) hj rfl
    have:cnt n (pls n S n).testBit≤cnt n (fun i=>true && !decide (j=i)):=Qdt fun i _ hi=>by
     have:j≠i:=fun e=>hp (e ▸ hi)
     simp [this]
    have:=Qn1 n (fun _=>true)
    omega
   omega
theorem Q54 {n:Nat} (hn:n≤8) {S:Nat → Nat} {p:Nat} (h:Rk n S p):p < 18446744073709551616:=by
 have:=Jb h.1
 have:(2:Nat)^n≤256:=Nat.pow_le_pow_right (n:=2) (by omega) hn
 omega
def L64 (n:Nat) (S:Nat → Nat):Prop:=∀v,v < n→S v < 18446744073709551616
theorem Qmz {n:Nat} {S:Nat → Nat} (hn:n≤8) (hS:L64 n S):V5 (Qc n S)=some (pls n S n==2^n - 1):=by
 have hlen:(Qc n S).length=n:=Zd
 have inner:∀p,Rk n S p→Qb fuel (Vu (Qc n S)) ((p:Int),(0:Int))=some ((plR n S p:Nat):Int):=fun p hp=>by
  have h:=Xr (n:=n) (k0:=0) (by omega) (by omega) (fun i (x:Int)=>(x,i)) (body:=Vu (Qc n S)) (fun k=>(((List.range k).foldl (plV S) p:Nat):Int)) ((plR n S p:Nat):Int)
   (fun k _ hk=>by
    have hr:=Qpq (List.range k) p (fun v hv=>by have:=List.mem_range.1 hv; omega) hp
    have hlt:=Q54 hn hr
    unfold Vu
    dsimp only
    rw [hlen,if_pos (dlt hk),Qy hk,Option.bind_some,Q12 (hS k hk) hlt,List.range_succ,List.foldl_append]
    simp only [List.foldl_cons,List.foldl_nil]
    generalize (List.range k).foldl (plV S) p=q at *
    unfold plV
    by_cases c:Qll (S k) q=true
    ·rw [if_pos c,if_pos (Qo k),if_pos c,Qa5 (by omega),Kj hlt (Kl (by omega))]
    ·rw [if_neg c,if_neg c])
   (by unfold Vu; dsimp only; rw [hlen,if_neg (nlt n)]; rfl)
  rw [show ((0:Nat):Int)=0 from rfl] at h
  exact h
 have h:=Xr (n:=n) (k0:=0) (by omega) (by omega) (fun i (x:Int)=>(x,i)) (body:=Kc (Qc n S)) (fun k=>((pls n S k:Nat):Int)) ((pls n S n:Nat):Int)
  (fun k _ hk=>by
   unfold Kc
   dsimp only
   rw [hlen,if_pos (dlt hk),inner _ (Qpd k)]; rfl)
  (by unfold Kc; dsimp only; rw [hlen,if_neg (nlt n)])
 rw [show ((0:Nat):Int)=0 from rfl] at h
 unfold V5
 rw [show ((0:Int),(0:Int))=(((pls n S 0:Nat):Int),(0:Int)) from rfl,h,Option.bind_some,hlen,if_pos (Qo n),Q2b (by omega),Qv0]
 congr 1
 rw [Bool.eq_iff_iff,beq_iff_eq,beq_iff_eq]
 exact Int.ofNat_inj
theorem Qqm {n:Nat} {S:Nat → Nat} (hn:n≤7) (hS:L64 n S):∃c,Qt (Qc n S)=some (if c=true then 0 else 310)∧(c=true↔(1≤n∧n≤6)∧Gd n S):=by
 have hlen:(Qc n S).length=n:=Zd
 unfold Qt
 rw [hlen]
 by_cases h1:(n:Int) < 1
 ·exact ⟨false,by simp [h1],by simp; omega⟩
 ·by_cases h2:(n:Int) > 6
  ·exact ⟨false,by simp [h1,h2],by simp; omega⟩
  ·refine ⟨pls n S n==2^n - 1,?_,?_⟩
   ·rw [Qmz (by omega) hS]
    simp only [decide_eq_true_eq,h1,h2,if_false,Option.bind_some]
    cases (pls n S n==2^n - 1) <;> rfl
   ·rw [beq_iff_eq,Qo2]
    exact ⟨fun h=>⟨by omega,h⟩,fun h=>h.2⟩
theorem Qbd {a n:Nat} (hn:n≤64):((Int.fdiv (a:Int) (2^min (Int.toNat (n:Int)) zk)) != 0)=!decide (a < 2^n):=by
 have hb:zk=64:=rfl
 have e0:min (Int.toNat (n:Int)) zk=n:=by rw [hb,Int.toNat_natCast]; omega
 rw [e0,K1,Bool.eq_iff_iff]
 simp only [bne_iff_ne,ne_eq,Bool.not_eq_true',decide_eq_false_iff_not]
 have:a / 2^n=0↔a < 2^n:=Nat.div_eq_zero_iff_lt (Nat.two_pow_pos n)
 rw [←this]
 exact not_congr ⟨fun h=>by exact_mod_cast h,fun h=>by rw [h]; rfl⟩
theorem Jh {a n:Nat}:a < 2^n↔∀j,a.testBit j=true→j < n:=by
 constructor
 ·intro h j hj
  apply Classical.byContradiction
  intro hn
  rw [Nat.testBit_lt_two_pow (Nat.lt_of_lt_of_le h (Nat.pow_le_pow_right (by omega) (by omega)))] at hj; cases hj
 ·exact Jb
theorem Qeo {n m:Nat} {S:Nat → Nat} (hn:n≤7) (hS:L64 n S):∃c,Y8 (Qc n S) (m:Int)=some c∧(c=true↔(1≤n∧n≤m)∧Gd n S):=by
 have hlen:(Qc n S).length=n:=Zd
 unfold Y8
 rw [hlen]
 by_cases h1:(n:Int) < 1
 ·exact ⟨false,by simp [h1],by simp; omega⟩
 ·by_cases h2:(n:Int) > m
  ·exact ⟨false,by simp [h1,h2],by simp; omega⟩
  ·simp only [decide_eq_true_eq,h1,h2,if_false]
   rcases Qgz (n:=n) (by omega) (fun k=>S k < 2^n) (fun i (_:Unit)=>i) (body:=Jl (Qc n S)) (fun _=>()) (.inr ()) (.inl ())
    (fun k hk _ hg=>by
     unfold Jl
     rw [hlen,if_pos (dlt hk),Qy hk,Option.bind_some,if_pos (Qo n),Qbd (by omega),if_neg (by simpa using hg)])
    (fun k hk _ hg=>by
     unfold Jl
     rw [hlen,if_pos (dlt hk),Qy hk,Option.bind_some,if_pos (Qo n),Qbd (by omega),if_pos (by simpa using hg)])
    (fun _=>by unfold Jl; rw [hlen,if_neg (nlt n)]) with ⟨hg,h⟩ | ⟨hg,h⟩
   ·rw [show ((0:Nat):Int)=0 from rfl] at h
    rw [h,Option.bind_some]
    dsimp only
    have hinn:∀v,v < n→∀j,(S v).testBit j=true→j < n:=fun v hv=>Jh.1 (hg v hv)
    rcases Qgz (n:=n) (by omega) (fun k=>¬ (ups n S n (S k)).testBit k=true) (fun i (_:Unit)=>i) (body:=Jq (Qc n S)) (fun _=>()) (.inr ()) (.inl ())
     (fun k hk _ hg=>by
      have hu:ups n S n (S k) < 18446744073709551616:=by
       have:=Jb (n:=n) fun j hj=>by
        have:=Vx (Qcj n hinn) (s:=S k) (fun i hi=>by rw [Nat.testBit_two_pow_sub_one]; simpa using hinn k hk i hi) n j hj
        rw [Nat.testBit_two_pow_sub_one] at this; simpa using this
       have:(2:Nat)^n≤256:=Nat.pow_le_pow_right (n:=2) (by omega) (show n≤8 by omega)
       omega
      unfold Jq
      rw [hlen,if_pos (dlt hk),Qy hk,Option.bind_some,Qxw (by omega) hinn (hinn k hk),Option.bind_some,Qdq hu (by omega),Option.bind_some,if_neg hg])
     (fun k hk _ hg=>by
      have hu:ups n S n (S k) < 18446744073709551616:=by
       have:=Jb (n:=n) fun j hj=>by
        have:=Vx (Qcj n hinn) (s:=S k) (fun i hi=>by rw [Nat.testBit_two_pow_sub_one]; simpa using hinn k hk i hi) n j hj
        rw [Nat.testBit_two_pow_sub_one] at this; simpa using this
       have:(2:Nat)^n≤256:=Nat.pow_le_pow_right (n:=2) (by omega) (show n≤8 by omega)
       omega
      unfold Jq
      rw [hlen,if_pos (dlt hk),Qy hk,Option.bind_some,Qxw (by omega) hinn (hinn k hk),Option.bind_some,Qdq hu (by omega),Option.bind_some,if_pos (Classical.not_not.1 hg)])
     (fun _=>by unfold Jq; rw [hlen,if_neg (nlt n)]) with ⟨hg2,h⟩ | ⟨hg2,h⟩
    ·rw [show ((0:Nat):Int)=0 from rfl] at h
     rw [h,Option.bind_some]
     exact ⟨true,rfl,by simp only [true_iff]; exact ⟨by omega,hinn,hg2⟩⟩
    ·rw [show ((0:Nat):Int)=0 from rfl] at h
     rw [h,Option.bind_some]
     exact ⟨false,rfl,by simp only [Bool.false_eq_true,false_iff]; exact fun h=>hg2 h.2.acyc⟩
   ·rw [show ((0:Nat):Int)=0 from rfl] at h
    rw [h,Option.bind_some]
    exact ⟨false,rfl,by simp only [Bool.false_eq_true,false_iff]; exact fun h=>hg fun v hv=>Jb (h.2.inn v hv)⟩
end Go.Ab
namespace Go.Ab
open Go
set_option maxRecDepth 100000
set_option maxHeartbeats 1000000
def apL {α:Type} (L:Nat → List α) (k0:Nat):Nat → List α
 | 0=>[]
 | j+1=>apL L k0 j++L (k0+j)
theorem Ze {α:Type} {L:Nat → List α} {k0 m:Nat} (h:∀k,(L k).length≤m):∀j,(apL L k0 j).length≤j*m
 | 0=>by simp [apL]
 | j+1=>by
  have:=Ze (k0:=k0) h j
  have:=h (k0+j)
  simp only [apL,List.length_append,Nat.succ_mul]; omega
theorem Zw {α:Type} {L:Nat → List α} {k0:Nat} {x:α}:∀j,x∈apL L k0 j↔∃i,k0≤i∧i < k0+j∧x∈L i
 | 0=>by simp [apL]; intros; omega
 | j+1=>by
  simp only [apL,List.mem_append,Zw j]
  constructor
  ·rintro (⟨i,h1,h2,h3⟩ | h)
   ·exact ⟨i,h1,by omega,h3⟩
   ·exact ⟨k0+j,by omega,by omega,h⟩
  ·rintro ⟨i,h1,h2,h3⟩
   by_cases e:i=k0+j
   ·right; rw [←e]; exact h3
   ·left; exact ⟨i,h1,by omega,h3⟩
theorem Q1 {α:Type} {L L':Nat → List α} {k0:Nat}:∀j,(∀i,k0≤i→i < k0+j→L i=L' i)→apL L k0 j=apL L' k0 j
 | 0,_=>rfl
 | j+1,h=>by
  simp only [apL]
  rw [Q1 j fun i h1 h2=>h i h1 (by omega),h (k0+j) (by omega) (by omega)]
theorem Ya {α σ ρ:Type} {n k0 m c:Nat} (hk:k0≤n) (hn:n < 1152921504606846976) (mkS:Int→List α→σ) {body:σ→Option (Qg σ ρ)} (L:Nat → List α) (fin:List α→ρ) (hL:∀k,(L k).length≤m) {out:List α} (hout:out.length≤c)
  (step:∀k o,k0≤k→k < n→o.length≤c+n*m→body (mkS (k:Int) o)=some (.next (mkS (zw ((k:Int)+1)) (o++L k))))
  (done:∀o,body (mkS (n:Int) o)=some (.done (fin o))):Qb fuel body (mkS (k0:Int) out)=some (fin (out++apL L k0 (n - k0))):=by
 have h:=Xr hk hn mkS (body:=body) (fun k=>out++apL L k0 (k - k0)) (fin (out++apL L k0 (n - k0)))
  (fun k h1 h2=>by
   have hb:=Ze (k0:=k0) hL (k - k0)
   have:(k - k0)*m≤n*m:=Nat.mul_le_mul_right _ (by omega)
   rw [step k _ h1 h2 (by rw [List.length_append]; omega)]
   have e:k+1 - k0=(k - k0)+1:=by omega
   rw [e]
   simp only [apL]
   rw [show k0+(k - k0)=k by omega,List.append_assoc])
  (done _)
 rw [show k0 - k0=0 by omega] at h
 simpa [apL] using h
def Qi (X:Nat → Int):Int × Int × Int × Int × Int × Int:=(X 0,X 1,X 2,X 3,X 4,X 5)
def Km (x p:Int):Int:=zv (zb x ||| zb (zv (1*2^min (Int.toNat p) zk))).toNat
def sx (X:Nat → Int) (v:Nat) (y:Int):Nat → Int:=fun i=>if i=v then y else X i
theorem Q38 {L:List Int} {a:Int} {v p:Nat} {X:Nat → Int} (hv:v < 6) (hp:p < 6) (h1:decide ((p:Int) < (L.length:Int))=true)
  (hb:((zv (zb (Int.fdiv a (2^min (Int.toNat (p:Int)) zk)) &&& zb 1).toNat)==1)=true) :
  Zk L a ((v:Int),(v:Int),(p:Int),Qi X)=some (.next ((v:Int),(v:Int),zw ((p:Int)+1),Qi (sx (sx X v (Km (X v) p)) p (Km (sx X v (Km (X v) p) p) v)))):=by
 unfold Zk
 dsimp only
 rw [if_pos h1,if_pos (Qo p),if_pos hb]
 have hv':v=0∨v=1∨v=2∨v=3∨v=4∨v=5:=by omega
 have hp':p=0∨p=1∨p=2∨p=3∨p=4∨p=5:=by omega
 clear hb h1
 rcases hv' with rfl | rfl | rfl | rfl | rfl | rfl <;> rcases hp' with rfl | rfl | rfl | rfl | rfl | rfl <;> rfl
theorem Q3e {L:List Int} {a:Int} {v p:Nat} {X:Nat → Int} (h1:decide ((p:Int) < (L.length:Int))=true)
  (hb:¬ ((zv (zb (Int.fdiv a (2^min (Int.toNat (p:Int)) zk)) &&& zb 1).toNat)==1)=true) :
  Zk L a ((v:Int),(v:Int),(p:Int),Qi X)=some (.next ((v:Int),(v:Int),zw ((p:Int)+1),Qi X)):=by
 unfold Zk
 dsimp only
 rw [if_pos h1,if_pos (Qo p),if_neg hb]
def mI (N:Nat → Nat → Bool):Nat → Int:=fun i=>((msk 6 (N i):Nat):Int)
theorem Qft {f:Nat → Bool} {p:Nat} (hp:p < 6):Km ((msk 6 f:Nat):Int) (p:Int)=((msk 6 (fun i=>f i || decide (p=i)):Nat):Int):=Q6e (by omega) hp
theorem Q48 {N:Nat → Nat → Bool} {v p:Nat} (hv:v < 6) (hp:p < 6) :
  sx (sx (mI N) v (Km (mI N v) p)) p (Km (sx (mI N) v (Km (mI N v) p) p) v)=mI fun u w=>N u w || (decide (u=v) && decide (p=w)) || (decide (u=p) && decide (v=w)):=by
 funext i
 by_cases h1:i=p
 ·subst h1
  simp only [sx,if_true]
  by_cases h2:i=v
  ·subst h2
   simp only [if_true,mI]
   rw [Qft hp,Qft hp]
   congr 2
   try (funext w; simp)
  ·rw [if_neg h2]
   simp only [mI]
   rw [Qft hv]
   congr 2
   funext w
   simp [h2]
 ·simp only [sx,h1,if_false]
  by_cases h2:i=v
  ·subst h2
   simp only [if_true,mI]
   rw [Qft hp]
   congr 2
   funext w
   simp [h1]
  ·rw [if_neg h2]
   simp only [mI]
   congr 2
   funext w
   simp [h1,h2]
theorem Qni {N N':Nat → Nat → Bool} (h:∀u w,u < 6→w < 6→N u w=N' u w):Qi (mI N)=Qi (mI N'):=by
 have:∀i,i < 6→mI N i=mI N' i:=fun i hi=>by unfold mI; rw [Z5 fun w hw=>h i w hi hw]
 unfold Qi
 rw [this 0 (by omega),this 1 (by omega),this 2 (by omega),this 3 (by omega),this 4 (by omega),this 5 (by omega)]
def dn (v p a b:Nat):Bool:=decide (a < v) || (decide (a=v) && decide (b < p))
def nrP (S:Nat → Nat) (v p u w:Nat):Bool:=(dn v p u w && (S u).testBit w) || (dn v p w u && (S w).testBit u)
def near (S:Nat → Nat) (u w:Nat):Bool:=(S u).testBit w || (S w).testBit u
def nrN (n:Nat) (S:Nat → Nat) (u w:Nat):Bool:=(decide (u < n) && (S u).testBit w) || (decide (w < n) && (S w).testBit u)
theorem Kp {n:Nat} {S:Nat → Nat} (hn:n≤6) (h:Gd n S):Zt (Qc n S)=some ⟨(n:Int),Qi (mI (nrN n S))⟩:=by
 have hlen:(Qc n S).length=n:=Zd
 have h64:∀v,v < n→S v < 18446744073709551616:=fun v hv=>by
  have:=Jb (h.inn v hv)
  have:(2:Nat)^n≤256:=Nat.pow_le_pow_right (n:=2) (by omega) (show n≤8 by omega)
  omega
 have inner:∀v,v < n→Qb fuel (Zk (Qc n S) (S v:Int)) ((v:Int),(v:Int),(0:Int),Qi (mI (nrP S v 0)))=some ((v:Int),Qi (mI (nrP S v n))):=fun v hv=>by
  have h1:=Xr (n:=n) (k0:=0) (by omega) (by omega) (fun i (x:Int × Int × Int × Int × Int × Int)=>((v:Int),(v:Int),i,x)) (body:=Zk (Qc n S) (S v:Int)) (fun k=>Qi (mI (nrP S v k))) ((v:Int),Qi (mI (nrP S v n)))
   (fun k _ hk=>by
    have hd:decide ((k:Int) < ((Qc n S).length:Int))=true:=by rw [hlen]; exact dlt hk
    by_cases hb:(S v).testBit k=true
    ·rw [Q38 (by omega) (by omega) hd (by rw [Qay (h64 v hv) (by omega),hb]; rfl),Q48 (by omega) (by omega)]
     refine congrArg (fun X=>some (Qg.next ((v:Int),(v:Int),zw ((k:Int)+1),Qi (mI X)))) ?_
     funext u w
     unfold nrP dn
     by_cases e1:u=v
     ·by_cases e2:w=k
      ·subst e1; subst e2; simp [hb]
      ·have e3:decide (w < k+1)=decide (w < k):=by rw [Bool.eq_iff_iff]; simp; omega
       have e3':¬ k=w:=fun e=>e2 e.symm
       subst e1
       simp only [e3,e3',decide_false,Bool.and_false,Bool.or_false,decide_true,Bool.true_and]
       by_cases e4:w=u
       ·subst e4
        by_cases e5:w=k
        ·exact absurd e5 e2
        ·have e6:decide (w < k+1)=decide (w < k):=by rw [Bool.eq_iff_iff]; simp; omega
         simp [e6,e2]
       ·have e7:¬ u=w:=fun e=>e4 e.symm
        simp [e4,e7]
     ·have e1':¬ v=u:=fun e=>e1 e.symm
      by_cases e2:w=v
      ·by_cases e3:u=k
       ·subst e2; subst e3; simp [hb]
       ·subst e2
        have e4:decide (u < k+1)=decide (u < k):=by rw [Bool.eq_iff_iff]; simp; omega
        simp [e1,e3,e4]
      ·have e2':¬ v=w:=fun e=>e2 e.symm
       simp [e1,e2,e1',e2']
    ·rw [Q3e hd (by rw [Qay (h64 v hv) (by omega),Bool.eq_false_iff.2 hb]; simp)]
     refine congrArg (fun X=>some (Qg.next ((v:Int),(v:Int),zw ((k:Int)+1),Qi (mI X)))) ?_
     have hb':=Bool.eq_false_iff.2 hb
     funext u w
     unfold nrP dn
     have e1:((decide (u < v) || decide (u=v) && decide (w < k)) && (S u).testBit w)=((decide (u < v) || decide (u=v) && decide (w < k+1)) && (S u).testBit w):=by
      by_cases e:u=v
      ·subst e
       by_cases e2:w=k
       ·subst e2; simp [hb']
       ·have e3:decide (w < k+1)=decide (w < k):=by rw [Bool.eq_iff_iff]; simp; omega
        rw [e3]
      ·simp [e]
     have e2:((decide (w < v) || decide (w=v) && decide (u < k)) && (S w).testBit u)=((decide (w < v) || decide (w=v) && decide (u < k+1)) && (S w).testBit u):=by
      by_cases e:w=v
      ·subst e
       by_cases e2:u=k
       ·subst e2; simp [hb']
       ·have e3:decide (u < k+1)=decide (u < k):=by rw [Bool.eq_iff_iff]; simp; omega
        rw [e3]
      ·simp [e]
     rw [e1,e2])
   (by unfold Zk; dsimp only; rw [hlen,if_neg (nlt n)])
  rw [show ((0:Nat):Int)=0 from rfl] at h1
  exact h1
 have h2:=Xr (n:=n) (k0:=0) (by omega) (by omega) (fun i (x:Int × Int × Int × Int × Int × Int)=>(i,x)) (body:=V7 (Qc n S)) (fun k=>Qi (mI (nrP S k 0))) (Qi (mI (nrN n S)))
  (fun k _ hk=>by
   unfold V7
   dsimp only
   rw [hlen,if_pos (dlt hk),Qy hk,Option.bind_some]
   have:=inner k hk
   unfold Qi at this ⊢
   rw [this,Option.bind_some]
   dsimp only
   have e:Qi (mI (nrP S k n))=Qi (mI (nrP S (k+1) 0)):=Qni fun u w hu hw=>by
    unfold nrP dn
    have key:∀a b,((decide (a < k) || decide (a=k) && decide (b < n)) && (S a).testBit b)=((decide (a < k+1) || decide (a=k+1) && decide (b < 0)) && (S a).testBit b):=fun a b=>by
     by_cases e:a=k
     ·subst e
      cases hb:(S a).testBit b with
      | false=>simp
      | true=>have:=h.inn a hk b hb; simp [this]
     ·have e3:decide (a < k+1)=decide (a < k):=by rw [Bool.eq_iff_iff]; simp; omega
      simp [e,e3]
    rw [key u w,key w u]
   unfold Qi at e
   rw [e])
  (by
   unfold V7
   dsimp only
   rw [hlen,if_neg (nlt n)]
   have e:Qi (mI (nrP S n 0))=Qi (mI (nrN n S)):=Qni fun u w hu hw=>by
    unfold nrP nrN dn; simp
   unfold Qi at e ⊢
   rw [e])
 rw [show ((0:Nat):Int)=0 from rfl] at h2
 have e0:Qi (mI (nrP S 0 0))=(0,0,0,0,0,0):=by
  have:mI (nrP S 0 0)=fun _=>0:=by
   funext i
   unfold mI
   rw [Z5 (q:=fun _=>false) fun w _=>by unfold nrP dn; simp]
   rfl
  rw [this]; rfl
 rw [e0] at h2
 unfold Zt
 rw [h2,hlen]
 rfl
theorem Qdk {m:Int} {N:Nat → Nat → Bool} {a c:Nat} (ha:a < 6) (hc:c < 64):Qj ⟨m,Qi (mI N)⟩ (a:Int) (c:Int)=some ((msk 6 (N a)).testBit c):=by
 have hlt:∀i,msk 6 (N i) < 18446744073709551616:=fun i=>Q4i (by omega) (msk_lt 6 _)
 have key:∀i,((zv (zb (Int.fdiv (mI N i) (2^min (Int.toNat (c:Int)) zk)) &&& zb 1).toNat)==1)=(msk 6 (N i)).testBit c:=fun i=>by
  unfold mI
  rw [Qay (hlt i) hc]
  cases (msk 6 (N i)).testBit c <;> rfl
 have ha':a=0∨a=1∨a=2∨a=3∨a=4∨a=5:=by omega
 unfold Qj Qi
 dsimp only
 simp only [key,if_pos (Qo c)]
 rcases ha' with rfl | rfl | rfl | rfl | rfl | rfl <;> rfl
theorem Kf {n:Nat} {S:Nat → Nat} {u w:Nat} (hu:u < n) (hw:w < n):nrN n S u w=near S u w:=by simp [nrN,near,hu,hw]
def prs (n:Nat) (N:Nat → Nat → Bool):List (Int × Int):=apL (fun i=>apL (fun j=>if N i j=true then [((i:Int),(j:Int))] else []) (i+1) (n - (i+1))) 0 n
def cls (n:Nat) (S:Nat → Nat):List (Int × Int × Int) :=
 apL (fun a=>apL (fun b=>apL (fun c=>if ((S b).testBit a && (S b).testBit c && !near S a c)=true then [((a:Int),(b:Int),(c:Int))] else []) (a+1) (n - (a+1))) 0 n) 0 n
theorem Vq {α:Type} {c:Bool} {x:α}:(if c=true then [x] else []).length≤1:=by split <;> simp
theorem Qfy {k:Nat} (h:k < 100):zw ((k:Int)+1)=((k+1:Nat):Int):=Qs6 (by omega)
theorem Qtl {n:Nat} {S:Nat → Nat} (hn:n≤6):Zi ⟨(n:Int),Qi (mI (nrN n S))⟩=some (prs n (near S)):=by
 have inner:∀i o,i < n→o.length≤100→Qb fuel (Xj ⟨(n:Int),Qi (mI (nrN n S))⟩ ((i:Int),o)) (((i+1:Nat):Int),o)=some (o++apL (fun j=>if near S i j=true then [((i:Int),(j:Int))] else []) (i+1) (n - (i+1))):=fun i o hi ho =>
  Ya (m:=1) (c:=100) (by omega) (by omega) (fun k (x:List (Int × Int))=>(k,x)) (body:=Xj ⟨(n:Int),Qi (mI (nrN n S))⟩ ((i:Int),o)) _ id (fun _=>Vq) ho
   (fun k x h1 h2 hx=>by
    unfold Xj
    dsimp only
    rw [if_pos (dlt h2)]
    have:=Qdk (m:=(n:Int)) (N:=nrN n S) (a:=i) (c:=k) (by omega) (by omega)
    unfold Qi at this ⊢
    dsimp only
    rw [this,Option.bind_some,Qv,Kf hi h2]
    have hk6:k < 6:=by omega
    simp only [hk6,decide_true,Bool.true_and]
    by_cases hb:near S i k=true
    ·rw [if_pos hb,if_pos hb,if_pos (by rw [List.length_append]; simp; omega)]
    ·rw [if_neg hb,if_neg hb,List.append_nil])
   (fun x=>by unfold Xj; dsimp only; rw [if_neg (nlt n)]; rfl)
 have outer:=Ya (n:=n) (k0:=0) (m:=6) (c:=0) (by omega) (by omega) (fun k (x:List (Int × Int))=>(k,x)) (body:=Yp ⟨(n:Int),Qi (mI (nrN n S))⟩)
  (fun i=>if i < n then apL (fun j=>if near S i j=true then [((i:Int),(j:Int))] else []) (i+1) (n - (i+1)) else []) id (fun i=>by
   split
   ·have:=Ze (L:=fun j=>if near S i j=true then [((i:Int),(j:Int))] else []) (k0:=i+1) (m:=1) (fun _=>Vq) (n - (i+1)); omega
   ·simp) (out:=[]) (by simp)
  (fun k o _ hk ho=>by
   unfold Yp
   dsimp only
   rw [if_pos (dlt hk),Qfy (by omega),inner k o hk (by omega),Option.bind_some,if_pos hk])
  (fun o=>by unfold Yp; dsimp only; rw [if_neg (nlt n)]; rfl)
 unfold Zi
 rw [show ((0:Nat):Int)=0 from rfl] at outer
 rw [outer,Option.bind_some,List.nil_append,Nat.sub_zero]
 show some (apL _ 0 n)=_
 rw [Q1 n (L':=fun i=>apL (fun j=>if near S i j=true then [((i:Int),(j:Int))] else []) (i+1) (n - (i+1))) fun i _ h=>by rw [if_pos (by omega)]]
 rfl
end Go.Ab
namespace Go.Ab
open Go
set_option maxRecDepth 100000
set_option maxHeartbeats 1000000
theorem Qho {n:Nat} {S:Nat → Nat} (hn:n≤8) (h:Gd n S):L64 n S:=fun v hv=>by
 have:=Jb (h.inn v hv)
 have:(2:Nat)^n≤256:=Nat.pow_le_pow_right (n:=2) (by omega) hn
 omega
def Qaz (n:Nat) (S:Nat → Nat) (a b:Nat):List (Int × Int × Int):=apL (fun c=>if ((S b).testBit a && (S b).testBit c && !near S a c)=true then [((a:Int),(b:Int),(c:Int))] else []) (a+1) (n - (a+1))
theorem Qgd {n:Nat} {S:Nat → Nat} {a b:Nat}:(Qaz n S a b).length≤n:=by
 have:=Ze (L:=fun c=>if ((S b).testBit a && (S b).testBit c && !near S a c)=true then [((a:Int),(b:Int),(c:Int))] else []) (k0:=a+1) (m:=1) (fun _=>Vq) (n - (a+1))
 unfold Qaz; omega
theorem Qr6 {n:Nat} {S:Nat → Nat}:cls n S=apL (fun a=>apL (fun b=>Qaz n S a b) 0 n) 0 n:=rfl
theorem Qaa {n:Nat} {S:Nat → Nat} (hn:n≤6) (h:Gd n S):Zm (Qc n S)=some (cls n S):=by
 have hlen:(Qc n S).length=n:=Zd
 have h64:=Qho (by omega) h
 generalize hK:(⟨(n:Int),Qi (mI (nrN n S))⟩:Tequal_skeleton)=K
 have hj:∀a c,a < n→c < n→Qj K (a:Int) (c:Int)=some (near S a c):=fun a c ha hc=>by
  rw [←hK,Qdk (by omega) (by omega),Qv,Kf ha hc]
  have:c < 6:=by omega
  simp [this]
 have inner:∀a b (o o1 o2:List (Int × Int × Int)),a < n→b < n→o.length≤1000→Qb fuel (Yz (Qc n S) ((a:Int),o1) (S b:Int) K ((b:Int),o2)) (((a+1:Nat):Int),o)=some (o++Qaz n S a b):=fun a b o o1 o2 ha hb ho =>
  Ya (m:=1) (c:=1000) (by omega) (by omega) (fun k (x:List (Int × Int × Int))=>(k,x)) (body:=Yz (Qc n S) ((a:Int),o1) (S b:Int) K ((b:Int),o2)) _ id (fun _=>Vq) ho
   (fun k x h1 h2 hx=>by
    unfold Yz
    dsimp only
    rw [hlen,if_pos (dlt h2),if_pos (Qo a),Qay (h64 b hb) (by omega)]
    by_cases c1:(S b).testBit a=true
    ·rw [if_pos (by rw [c1]; rfl),if_pos (Qo k),Qay (h64 b hb) (by omega)]
     by_cases c2:(S b).testBit k=true
     ·rw [if_pos (by rw [c2]; rfl)]
      rw [hj a k ha h2,Option.bind_some]
      by_cases c3:near S a k=true
      ·rw [c3]; simp
      ·rw [Bool.eq_false_iff.2 c3,if_pos (by rfl),if_pos (by rw [List.length_append]; simp; omega),c1,c2]; simp
     ·rw [Bool.eq_false_iff.2 c2]; simp
    ·rw [Bool.eq_false_iff.2 c1]; simp)
   (fun x=>by unfold Yz; dsimp only; rw [hlen,if_neg (nlt n)]; rfl)
 have mid:∀a (o o1:List (Int × Int × Int)),a < n→o.length≤500→Qb fuel (Y4 (Qc n S) ((a:Int),o1) K) (((0:Nat):Int),o)=some (o++apL (fun b=>if b < n then Qaz n S a b else []) 0 n):=fun a o o1 ha ho=>by
  have:=Ya (n:=n) (k0:=0) (m:=6) (c:=500) (by omega) (by omega) (fun k (x:List (Int × Int × Int))=>(k,x)) (body:=Y4 (Qc n S) ((a:Int),o1) K) (fun b=>if b < n then Qaz n S a b else []) id (fun b=>by
    split
    ·have:=Qgd (n:=n) (S:=S) (a:=a) (b:=b); omega
    ·simp) ho
   (fun k x _ h2 hx=>by
    unfold Y4
    dsimp only
    rw [hlen,if_pos (dlt h2),Qy h2,Option.bind_some,Qfy (by omega),inner a k x o1 x ha h2 (by omega),Option.bind_some,if_pos h2])
   (fun x=>by unfold Y4; dsimp only; rw [hlen,if_neg (nlt n)]; rfl)
  exact this
 have midl:∀a,(apL (fun b=>if b < n then Qaz n S a b else []) 0 n).length≤36:=fun a=>by
  have:=Ze (L:=fun b=>if b < n then Qaz n S a b else []) (k0:=0) (m:=6) (fun b=>by
   split
   ·have:=Qgd (n:=n) (S:=S) (a:=a) (b:=b); omega
   ·simp) n
  omega
 have outer:=Ya (n:=n) (k0:=0) (m:=36) (c:=0) (by omega) (by omega) (fun k (x:List (Int × Int × Int))=>(k,x)) (body:=Jc (Qc n S) K)
  (fun a=>apL (fun b=>if b < n then Qaz n S a b else []) 0 n) id midl (out:=[]) (by simp)
  (fun k o _ hk ho=>by
   unfold Jc
   dsimp only
   have:=mid k o o hk (by omega)
   rw [show ((0:Nat):Int)=0 from rfl] at this
   rw [hlen,if_pos (dlt hk),this,Option.bind_some])
  (fun o=>by unfold Jc; dsimp only; rw [hlen,if_neg (nlt n)]; rfl)
 unfold Zm
 rw [Kp hn h,Option.bind_some,hK]
 rw [show ((0:Nat):Int)=0 from rfl] at outer
 rw [outer,Option.bind_some,List.nil_append,Nat.sub_zero,Qr6]
 show some (apL _ 0 n)=_
 congr 1
 exact Q1 n fun a _ ha=>Q1 n fun b _ hb=>by rw [if_pos (by omega)]
theorem Qnr {n:Nat} {S:Nat → Nat} (hn:n≤7) (h64:L64 n S) {i j:Nat} (hi:i < n) (hj:j < n):Kr (Qc n S) (i:Int) (j:Int)=some (near S i j):=by
 unfold Kr near
 rw [Qy hi,Option.bind_some,Qdq (h64 i hi) (by omega),Option.bind_some]
 cases (S i).testBit j with
 | true=>rfl
 | false=>simp only [Bool.false_eq_true,if_false,Bool.false_or]; rw [Qy hj,Option.bind_some,Qdq (h64 j hj) (by omega),Option.bind_some]
theorem Qlf {n:Nat} {S:Nat → Nat} (hn:n≤7) (h64:L64 n S):Jr (Qc n S)=some (prs n (near S)):=by
 have hlen:(Qc n S).length=n:=Zd
 have inner:∀i o o1,i < n→o.length≤100→Qb fuel (Vg (Qc n S) ((i:Int),o1)) (((i+1:Nat):Int),o)=some (o++apL (fun j=>if near S i j=true then [((i:Int),(j:Int))] else []) (i+1) (n - (i+1))):=fun i o o1 hi ho =>
  Ya (m:=1) (c:=100) (by omega) (by omega) (fun k (x:List (Int × Int))=>(k,x)) (body:=Vg (Qc n S) ((i:Int),o1)) _ id (fun _=>Vq) ho
   (fun k x h1 h2 hx=>by
    unfold Vg
    dsimp only
    rw [hlen,if_pos (dlt h2),Qnr hn h64 hi h2,Option.bind_some]
    by_cases hb:near S i k=true
    ·rw [if_pos hb,if_pos hb,if_pos (by rw [List.length_append]; simp; omega)]
    ·rw [if_neg hb,if_neg hb,List.append_nil])
   (fun x=>by unfold Vg; dsimp only; rw [hlen,if_neg (nlt n)]; rfl)
 have outer:=Ya (n:=n) (k0:=0) (m:=7) (c:=0) (by omega) (by omega) (fun k (x:List (Int × Int))=>(k,x)) (body:=Jx (Qc n S))
  (fun i=>if i < n then apL (fun j=>if near S i j=true then [((i:Int),(j:Int))] else []) (i+1) (n - (i+1)) else []) id (fun i=>by
   split
   ·have:=Ze (L:=fun j=>if near S i j=true then [((i:Int),(j:Int))] else []) (k0:=i+1) (m:=1) (fun _=>Vq) (n - (i+1)); omega
   ·simp) (out:=[]) (by simp)
  (fun k o _ hk ho=>by
   unfold Jx
   dsimp only
   rw [hlen,if_pos (dlt hk),Qfy (by omega),inner k o o hk (by omega),Option.bind_some,if_pos hk])
  (fun o=>by unfold Jx; dsimp only; rw [hlen,if_neg (nlt n)]; rfl)
 unfold Jr
 rw [show ((0:Nat):Int)=0 from rfl] at outer
 rw [outer,Option.bind_some,List.nil_append,Nat.sub_zero]
 show some (apL _ 0 n)=_
 rw [Q1 n (L':=fun i=>apL (fun j=>if near S i j=true then [((i:Int),(j:Int))] else []) (i+1) (n - (i+1))) fun i _ h=>by rw [if_pos (by omega)]]
 rfl
theorem Qe9 {n:Nat} {S:Nat → Nat} (hn:n≤6) (h64:L64 n S):Ki (Qc n S)=some (cls n S):=by
 have hlen:(Qc n S).length=n:=Zd
 have inner:∀a b (o o1 o2:List (Int × Int × Int)),a < n→b < n→o.length≤1000→Qb fuel (Ys (Qc n S) ((b:Int),o2) ((a:Int),o1)) (((a+1:Nat):Int),o)=some (o++Qaz n S a b):=fun a b o o1 o2 ha hb ho =>
  Ya (m:=1) (c:=1000) (by omega) (by omega) (fun k (x:List (Int × Int × Int))=>(k,x)) (body:=Ys (Qc n S) ((b:Int),o2) ((a:Int),o1)) _ id (fun _=>Vq) ho
   (fun k x h1 h2 hx=>by
    unfold Ys
    dsimp only
    rw [hlen,if_pos (dlt h2),Qy hb,Option.bind_some,Qdq (h64 b hb) (by omega),Option.bind_some]
    by_cases c1:(S b).testBit a=true
    ·rw [if_pos c1,Qdq (h64 b hb) (by omega),Option.bind_some]
     by_cases c2:(S b).testBit k=true
     ·rw [if_pos c2,Qnr (by omega) h64 ha h2,Option.bind_some]
      by_cases c3:near S a k=true
      ·rw [c3]; simp
      ·rw [Bool.eq_false_iff.2 c3,if_pos (by rfl),if_pos (by rw [List.length_append]; simp; omega),c1,c2]; simp
     ·rw [Bool.eq_false_iff.2 c2]; simp
    ·rw [Bool.eq_false_iff.2 c1]; simp)
   (fun x=>by unfold Ys; dsimp only; rw [hlen,if_neg (nlt n)]; rfl)
 have mid:∀a (o o1:List (Int × Int × Int)),a < n→o.length≤500→Qb fuel (Y2 (Qc n S) ((a:Int),o1)) (((0:Nat):Int),o)=some (o++apL (fun b=>if b < n then Qaz n S a b else []) 0 n):=fun a o o1 ha ho=>by
  have:=Ya (n:=n) (k0:=0) (m:=6) (c:=500) (by omega) (by omega) (fun k (x:List (Int × Int × Int))=>(k,x)) (body:=Y2 (Qc n S) ((a:Int),o1)) (fun b=>if b < n then Qaz n S a b else []) id (fun b=>by
    split
    ·have:=Qgd (n:=n) (S:=S) (a:=a) (b:=b); omega
    ·simp) ho
   (fun k x _ h2 hx=>by
    unfold Y2
    dsimp only
    rw [hlen,if_pos (dlt h2),Qfy (by omega),inner a k x o1 x ha h2 (by omega),Option.bind_some,if_pos h2])
   (fun x=>by unfold Y2; dsimp only; rw [hlen,if_neg (nlt n)]; rfl)
  exact this
 have midl:∀a,(apL (fun b=>if b < n then Qaz n S a b else []) 0 n).length≤36:=fun a=>by
  have:=Ze (L:=fun b=>if b < n then Qaz n S a b else []) (k0:=0) (m:=6) (fun b=>by
   split
   ·have:=Qgd (n:=n) (S:=S) (a:=a) (b:=b); omega
   ·simp) n
  omega
 have outer:=Ya (n:=n) (k0:=0) (m:=36) (c:=0) (by omega) (by omega) (fun k (x:List (Int × Int × Int))=>(k,x)) (body:=Jf (Qc n S))
  (fun a=>apL (fun b=>if b < n then Qaz n S a b else []) 0 n) id midl (out:=[]) (by simp)
  (fun k o _ hk ho=>by
   unfold Jf
   dsimp only
   have:=mid k o o hk (by omega)
   rw [show ((0:Nat):Int)=0 from rfl] at this
   rw [hlen,if_pos (dlt hk),this,Option.bind_some])
  (fun o=>by unfold Jf; dsimp only; rw [hlen,if_neg (nlt n)]; rfl)
 unfold Ki
 rw [show ((0:Nat):Int)=0 from rfl] at outer
 rw [outer,Option.bind_some,List.nil_append,Nat.sub_zero,Qr6]
 show some (apL _ 0 n)=_
 congr 1
 exact Q1 n fun a _ ha=>Q1 n fun b _ hb=>by rw [if_pos (by omega)]
theorem Qgu {α:Type} [DecidableEq α] {a b:List α} (hl:a.length=b.length) (ha:a.length < 1000000) {body:Int→Option (Qg Int (Unit ⊕ Unit))} (ne:α→α→Bool) (hne:∀x y,ne x y=!decide (x=y))
  (hb:∀s,body s=if (decide (s < (a.length:Int)))=true then (lkI a s).bind fun x=>(lkI b s).bind fun y=>if ne x y=true then some (.done (Sum.inl ())) else some (.next (zw (s+1))) else some (.done (Sum.inr ()))) :
  Qb fuel body 0=some (if a=b then .inr () else .inl ()):=by
 rcases Qgz (n:=a.length) (by omega) (fun k=>a[k]?=b[k]?) (fun i (_:Unit)=>i) (body:=body) (fun _=>()) (.inr ()) (.inl ())
  (fun k hk _ hg=>by
   have h2:k < b.length:=by omega
   rw [hb,if_pos (dlt hk),Q6 hk,Option.bind_some,Q6 h2,Option.bind_some,if_neg (by
    rw [hne]
    rw [List.getElem?_eq_getElem hk,List.getElem?_eq_getElem h2] at hg
    simpa using hg)])
  (fun k hk _ hg=>by
   have h2:k < b.length:=by omega
   rw [hb,if_pos (dlt hk),Q6 hk,Option.bind_some,Q6 h2,Option.bind_some,if_pos (by
    rw [hne]
    rw [List.getElem?_eq_getElem hk,List.getElem?_eq_getElem h2] at hg
    simpa using hg)])
  (fun _=>by rw [hb,if_neg (nlt _)]) with ⟨hg,h⟩ | ⟨hg,h⟩
 ·rw [show ((0:Nat):Int)=0 from rfl] at h
  rw [h]
  have:a=b:=List.ext_getElem? fun k=>by
   by_cases hk:k < a.length
   ·exact hg k hk
   ·rw [List.getElem?_eq_none (by omega),List.getElem?_eq_none (by omega)]
  rw [if_pos this]
 ·rw [show ((0:Nat):Int)=0 from rfl] at h
  rw [h,if_neg (fun e=>hg fun k _=>by rw [e])]
theorem ne2 (x y:Int × Int):(!((x.1==y.1) && ((x.2==y.2) && true)))=!decide (x=y):=by
 obtain ⟨a,b⟩:=x; obtain ⟨c,d⟩:=y
 congr 1; rw [Bool.eq_iff_iff]; simp
theorem ne3 (x y:Int × Int × Int):(!((x.1==y.1) && ((x.2.1==y.2.1) && ((x.2.2==y.2.2) && true))))=!decide (x=y):=by
 obtain ⟨a,b,e⟩:=x; obtain ⟨c,d,f⟩:=y
 congr 1; rw [Bool.eq_iff_iff]; simp
theorem Qek {α:Type} {a b:List α}:(((a.length:Int) != (b.length:Int))=true)↔¬ a.length=b.length:=by
 rw [bne_iff_ne]; exact not_congr ⟨fun h=>by exact_mod_cast h,fun h=>by rw [h]⟩
theorem Qke {a b:List (Int × Int)} (ha:a.length < 1000000):Yc a b=some (decide (a=b)):=by
 unfold Yc
 by_cases hl:a.length=b.length
 ·rw [if_neg (fun h=>Qek.1 h hl),Qgu hl ha (body:=Qc9 a b) _ ne2 (fun s=>rfl),Option.bind_some]
  by_cases e:a=b
  ·simp [e]
  ·simp [e]
 ·rw [if_pos (Qek.2 hl)]
  have:¬ a=b:=fun e=>hl (by rw [e])
  simp [this]
theorem Qg8 {a b:List (Int × Int × Int)} (ha:a.length < 1000000):Vd a b=some (decide (a=b)):=by
 unfold Vd
 by_cases hl:a.length=b.length
 ·rw [if_neg (fun h=>Qek.1 h hl),Qgu hl ha (body:=Qbs a b) _ ne3 (fun s=>rfl),Option.bind_some]
  by_cases e:a=b
  ·simp [e]
  ·simp [e]
 ·rw [if_pos (Qek.2 hl)]
  have:¬ a=b:=fun e=>hl (by rw [e])
  simp [this]
theorem Qol {a b:List (Int × Int × Int)} (ha:a.length < 1000000):Zq a b=some (decide (a=b)):=by
 unfold Zq
 by_cases hl:a.length=b.length
 ·rw [if_neg (fun h=>Qek.1 h hl),Qgu hl ha (body:=Kh a b) _ ne3 (fun s=>rfl),Option.bind_some]
  by_cases e:a=b
  ·simp [e]
  ·simp [e]
 ·rw [if_pos (Qek.2 hl)]
  have:¬ a=b:=fun e=>hl (by rw [e])
  simp [this]
theorem Q2w {n:Nat} {N:Nat → Nat → Bool} (hn:n≤7):(prs n N).length≤49:=by
 unfold prs
 rw [Q1 n (L':=fun i=>if i < n then apL (fun j=>if N i j=true then [((i:Int),(j:Int))] else []) (i+1) (n - (i+1)) else []) fun i _ h=>by rw [if_pos (by omega)]]
 have:=Ze (L:=fun i=>if i < n then apL (fun j=>if N i j=true then [((i:Int),(j:Int))] else []) (i+1) (n - (i+1)) else []) (k0:=0) (m:=7) (fun i=>by
   split
   ·have:=Ze (L:=fun j=>if N i j=true then [((i:Int),(j:Int))] else []) (k0:=i+1) (m:=1) (fun _=>Vq) (n - (i+1)); omega
   ·simp) n
 omega
theorem Qmo {n:Nat} {S:Nat → Nat} (hn:n≤7):(cls n S).length≤343:=by
 rw [Qr6]
 have h1:∀a,(apL (fun b=>Qaz n S a b) 0 n).length≤49:=fun a=>by
  have:=Ze (L:=fun b=>Qaz n S a b) (k0:=0) (m:=7) (fun b=>by have:=Qgd (n:=n) (S:=S) (a:=a) (b:=b); omega) n
  omega
 have:=Ze (k0:=0) h1 n
 omega
end Go.Ab
