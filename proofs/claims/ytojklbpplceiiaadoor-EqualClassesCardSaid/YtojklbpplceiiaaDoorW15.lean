/- What functions compute. No conditions. -/
import Derived.Test.YtojklbpplceiiaaDoorProg
import Derived.Test.YtojklbpplceiiaaDoorW11
import Derived.KernelRfl
import Derived.Test.YtojklbpplceiiaaDoorW12
import Derived.Test.YtojklbpplceiiaaDoorW14
set_option linter.all false
namespace Go.Ab
open Go Go.Proofs
set_option maxRecDepth 100000
set_option maxHeartbeats 4000000
section
attribute [local irreducible] RW WP
noncomputable abbrev o40_150:AObj:=.row false true true true 1 [.int .u64 0,.int .u64 1,.int .u64 2]
noncomputable abbrev Q2t:AObj:=.row false false true true 1 [.int .u64 0,.int .u64 5,.int .u64 0]
noncomputable abbrev Q15 (x1:((List (Int × Int)) × Int)):AObj:=oR true 2 (fun x:(Int × Int)=>AV.agg [vI x.1,vI x.2]) x1.1
noncomputable abbrev Q2d (x3:((List (Int × Int)) × Int)):AObj:=oR true 2 (fun x:(Int × Int)=>AV.agg [vI x.1,vI x.2]) x3.1
noncomputable abbrev Q1q (x5:((List (Int × Int × Int)) × Int)):AObj:=oR true 3 (fun x:(Int × Int × Int)=>AV.agg [vI x.1,vI x.2.1,vI x.2.2]) x5.1
noncomputable abbrev Q1k (x7:((List (Int × Int × Int)) × Int)):AObj:=oR true 3 (fun x:(Int × Int × Int)=>AV.agg [vI x.1,vI x.2.1,vI x.2.2]) x7.1
noncomputable abbrev Q1u (x13:((List (List Int)) × Int)):AObj:=oR false 1 (eL true (AV.int .u64)) x13.1
noncomputable abbrev o40_157:AObj:=.row false false true true 2 [.agg [vI 0,vI 1],.agg [vI 1,vI 2]]
noncomputable abbrev o40_158:AObj:=.row false false true true 3 [.agg [vI 0,vI 1,vI 2]]
noncomputable abbrev o40_159:AObj:=.row false false true true 2 [.agg [vI 0,vI 1],.agg [vI 2,vI 1]]
noncomputable abbrev o40_160:AObj:=.row false false true true 1 [.int .u64 0,.int .u64 5,.int .u64 0,.int .u64 2]
noncomputable abbrev o40_161:AObj:=.row false false true true 2 [.agg [vI 0,vI 1],.agg [vI 1,vI 3],.agg [vI 2,vI 1]]
noncomputable abbrev o40_162:AObj:=.row false false true true 3 [.agg [vI 0,vI 2,.int .u64 0]]
noncomputable abbrev o40_163:AObj:=.row false false true true 2 [.agg [vI 0,vI 1],.agg [vI 0,vI 2],.agg [vI 1,vI 2]]
noncomputable abbrev o40_164:AObj:=.row false true true true 1 [.int .u64 2,.int .u64 0,.int .u64 2]
noncomputable abbrev o40_165:AObj:=.row false true true true 1 [.int .u64 2,.int .u64 4,.int .u64 0]
noncomputable abbrev o40_166:AObj:=oR false 1 (eL true (AV.int .u64)) ([[0,1,2],[2,0,2],[2,4,0]]:(List (List Int)))
noncomputable abbrev l40_167 (x1 x3:((List (Int × Int)) × Int)) (x5 x7:((List (Int × Int × Int)) × Int)) (x13:((List (List Int)) × Int)) (x15 x17:((List Tapi_Fact) × Int)):List AObj:=[o40_150,Q2t,(Q15 x1),(Q2d x3),(Q1q x5),(Q1k x7),(Q1u x13),oR true 3 eTapi_Fact x15.1,oR true 3 eTapi_Fact x17.1]
theorem Qnv  : Ct Tryd.prog 12 [] (Qef) (fun x=>vB x) (fun x=>[]):=by
 refine hfn [] Tryd.func12 <| hop 1 (fun _=>sgL false [] [] true gE) <| hop 0 (fun _=>sgL false [] [] true gE) <| hcl 3 [] (g_equal_Skeleton_ok [0,1,2]) fun x1 _=>hcl 6 [] (g_equal_Skeleton_ok [0,5,0]) fun x3 _=>hcl 6 [] (Qb6 [0,1,2]) fun x5 _=>hcl 6 [] (Qb6 [0,5,0]) fun x7 _=>hcl 7 [] (Qf1 [0,1,2] [0,5,0]) fun x9 _=>hop 6 (fun _=>sgL false [] [] true gE) <| ?_
 refine hcl 0 [] (Qf1 [0,1,2] [2,0,2]) fun x11 _=>hcl 6 [] (g_equal_Members_ok [0,1,2]) fun x13 _=>hcl 6 [] (Qgg [0,1,2]) fun x15 _=>hcl 6 [] (Qgg [0,5,0]) fun x17 _=>hop 7 (fun _=>sgL false [] [] true gE) <| hcl 0 [] (g_equal_Learn_ok 3 [(Tapi_Fact.mk 0 2 0),(Tapi_Fact.mk 0 2 2)]) fun x19 _=>hop 3 (fun _=>sgL false [] [] false gE) <| hcl 2 [] (us:=[vI 6,.nils]) (rv:=fun x21=>.tup [.agg [vI x21.1.N,.ref 0 0 x21.1.Arrows.length,.ref 1 0 x21.1.Lines.length],vI x21.2]) (ro:=fun x21=>[oR true 2 (fun x:(Int × Int)=>AV.agg [vI x.1,vI x.2]) x21.1.Arrows,oR true 2 (fun x:(Int × Int)=>AV.agg [vI x.1,vI x.2]) x21.1.Lines]) (fun x21 q22=>Qv.args [[.keep],[.lst true]] (g_equal_Learn_ok 6 [] x21 q22)) fun x21 _=>hop 3 (fun _=>sgL false [] [] false gE) <| ?_
 refine hop 3 (fun _=>sgL false [] [] true gE) <| hcl 0 [] (g_equal_Learn_ok 2 [(Tapi_Fact.mk 1 0 0)]) fun x23 _=>hop 3 (fun _=>sgL false [] [] false gE) <| hop 11 (fun _=>sgL false [] [] true gE) <| hlp 2 (fun s25=>⟨[(1,.ref 0 0 3),(2,.ref 1 0 3),(3,.ref 2 0 x1.1.length),(5,.ref 3 0 x3.1.length),(7,.ref 4 0 x5.1.length),(9,.ref 5 0 x7.1.length),(11,vB x9.1),(13,vB x11.1),(15,.ref 6 0 x13.1.length),(17,.ref 7 0 x15.1.length),(19,.ref 8 0 x17.1.length),(22,vI x19.2),(24,vI x21.2),(26,vI x23.2),(106,.ref 9 0 (([x1.2,x3.2,x5.2,x7.2,x9.2,x11.2,x13.2,x15.2,x17.2]:(List Int)).length)),(107,vI 9),(108,vI s25)],(l40_167 x1 x3 x5 x7 x13 x15 x17)++[oR true 1 eI ([x1.2,x3.2,x5.2,x7.2,x9.2,x11.2,x13.2,x15.2,x17.2]:(List Int))],228⟩) (fun x=>match x with | .inl v=>(.ret,⟨[(0,vB false)],[],228⟩) | .inr v=>(.exit 0,⟨[(1,.ref 0 0 3),(2,.ref 1 0 3),(3,.ref 2 0 x1.1.length),(5,.ref 3 0 x3.1.length),(7,.ref 4 0 x5.1.length),(9,.ref 5 0 x7.1.length),(11,vB x9.1),(13,vB x11.1),(15,.ref 6 0 x13.1.length),(17,.ref 7 0 x15.1.length),(19,.ref 8 0 x17.1.length),(22,vI x19.2),(24,vI x21.2),(26,vI x23.2)],(l40_167 x1 x3 x5 x7 x13 x15 x17),228⟩)) (wz [0,1,2,3,4,5,7,8,9,21]) (fun s25=>?_) (hsm (fun x33=>?_) (fun x34=>?_))
 ·refine hbr 1 [109] (?_) ?_
  ·refine hbd fun a28 q29=>hop 1 (fun _=>Qw (enc:=eI) (l:=([x1.2,x3.2,x5.2,x7.2,x9.2,x11.2,x13.2,x15.2,x17.2]:(List Int))) (n:=s25) (w:=1) (ob:=9) (ro:=false) (nr:=true) (fl:=true) (a:=a28) kr kr gE q29) <| hop 0 (fun _=>Z5 (enc:=eI) (l:=([x1.2,x3.2,x5.2,x7.2,x9.2,x11.2,x13.2,x15.2,x17.2]:(List Int))) (n:=s25) (w:=1) (ob:=9) (c:=0) (bx:=false) (ro:=false) (nr:=true) (fl:=true) (a:=a28) kr kr q29 gE) <| hbr 3 [113] (hdx 2 (wz [])) <| ?_
   refine hnx 3 (wz [0,1,2,3,4,5,6,7,8,9])
  refine hdx 1 (wz [0,1,2,3,4,5,6,7,8])
 ·refine hrt 0
 refine hop 2 (fun _=>sgL false [] [] true gE) <| hcl 3 [F (fun x:(Int × Int)=>AV.agg [vI x.1,vI x.2]) x1.1] (V1 x1.1 [(0,1),(1,2)]) fun x35 _=>hbr 1 [120,121] (?_) ?_
 ·refine hcl 2 [F (fun x:(Int × Int)=>AV.agg [vI x.1,vI x.2]) x3.1] (V1 x3.1 [(0,1),(1,2)]) fun x39 _=>hbr 2 [124,125,126] (?_) ?_
  ·refine hbr 5 [129,130,131] (?_) ?_
   ·refine hop 2 (fun _=>sgL false [] [] true gE) <| hcl 0 [F (fun x:(Int × Int × Int)=>AV.agg [vI x.1,vI x.2.1,vI x.2.2]) x7.1] (Qba x7.1 [(0,1,2)]) fun x45 _=>hbr 2 [135,136,137] (?_) ?_
    ·refine hbr 4 [139,140,141] (?_) ?_
     ·refine hbr 3 [13,142,143,144] (?_) ?_
      ·refine hbr 4 [146,147,148] (?_) ?_
       ·refine hbr 4 [150,151,152] (?_) ?_
        ·refine hbr 6 [154,155,30,156,157] (?_) ?_
         ·refine hcl 2 [] (us:=[.lst true [.int .u64 0,.int .u64 1,.int .u64 2],.nils,.lst true [.agg [vI 0,vI 1],.agg [vI 1,vI 2]]]) (rv:=fun x59=>vB x59) (ro:=fun x59=>[]) (fun x59 q60=>Qv.args [[.keep],[.lst true],[.keep]] (Km [0,1,2] [] [(0,1),(1,2)] x59 q60)) fun x59 _=>hbr 2 [160,161,162] (?_) ?_
          ·refine hop 3 (fun _=>sgL false [] [] true gE) <| hcl 0 [] (us:=[.lst true [.int .u64 0,.int .u64 5,.int .u64 0],.lst true [.agg [vI 0,vI 1],.agg [vI 2,vI 1]],.nils]) (rv:=fun x63=>vB x63) (ro:=fun x63=>[]) (fun x63 q64=>Qv.args [[.keep],[.keep],[.lst true]] (Km [0,5,0] [(0,1),(2,1)] [] x63 q64)) fun x63 _=>hbr 2 [167,168,169] (?_) ?_
           ·refine hop 0 (fun _=>sgL false [] [] true gE) <| hop 3 (fun _=>sgL false [] [] true gE) <| hcl 0 [] (us:=[.lst true [.int .u64 0,.int .u64 5,.int .u64 0,.int .u64 2],.lst true [.agg [vI 0,vI 1],.agg [vI 1,vI 3],.agg [vI 2,vI 1]],.nils]) (rv:=fun x67=>vB x67) (ro:=fun x67=>[]) (fun x67 q68=>Qv.args [[.keep],[.keep],[.lst true]] (Km [0,5,0,2] [(0,1),(1,3),(2,1)] [] x67 q68)) fun x67 _=>hbr 2 [175,176,177] (?_) ?_
            ·refine hop 1 (fun _=>sgL false [] [] true gE) <| hop 2 (fun _=>sgL false [] [] true gE) <| hcl 0 [] (us:=[vI 3,.lst true [.agg [vI 0,vI 2,.int .u64 0]],.lst true [.agg [vI 0,vI 1],.agg [vI 2,vI 1]],.nils]) (rv:=fun x71=>vB x71) (ro:=fun x71=>[]) (fun x71 q72=>Qv.args [[.keep],[.keep],[.keep],[.lst true]] (Qdu 3 [(Tapi_Fact.mk 0 2 0)] [(0,1),(2,1)] [] x71 q72)) fun x71 _=>hbr 2 [183,184,185] (?_) ?_
             ·refine hop 3 (fun _=>sgL false [] [] true gE) <| hcl 0 [] (us:=[vI 3,.nils,.nils,.lst true [.agg [vI 0,vI 1],.agg [vI 0,vI 2],.agg [vI 1,vI 2]]]) (rv:=fun x75=>vB x75) (ro:=fun x75=>[]) (fun x75 q76=>Qv.args [[.keep],[.lst true],[.lst true],[.keep]] (Qdu 3 [] [] [(0,1),(0,2),(1,2)] x75 q76)) fun x75 _=>hbr 4 [30,190,191,192,193] (?_) ?_
              ·refine hop 1 (fun _=>sgL false [] [] true gE) <| hop 0 (fun _=>sgL false [] [] true gE) <| hop 0 (fun _=>sgL false [] [] true gE) <| hbs 0 [.lst true] false [] <| hil 0 Tryd.func38 <| hbr 6 [14] (hrt 34) <| ?_
               refine hlp 4 (fun s81=>⟨[(1,.ref 20 0 (([[0,1,2],[2,0,2],[2,4,0]]:(List (List Int))).length)),(2,.fn (.func 48) [] []),(15,.ref 6 0 x13.1.length),(16,vI (zn x13.1)),(17,vI s81)],(l40_167 x1 x3 x5 x7 x13 x15 x17)++[o40_157,o40_158,o40_159,o40_160,o40_161,o40_162,o40_159,o40_163,o40_150,o40_164,o40_165,o40_166],32⟩) (fun x=>match x with | .inl v=>(.ret,⟨[(6,vB false)],(l40_167 x1 x3 x5 x7 x13 x15 x17)++[o40_157,o40_158,o40_159,o40_160,o40_161,o40_162,o40_159,o40_163,o40_150,o40_164,o40_165,o40_166],32⟩) | .inr v=>(.exit 0,⟨[],(l40_167 x1 x3 x5 x7 x13 x15 x17)++[o40_157,o40_158,o40_159,o40_160,o40_161,o40_162,o40_159,o40_163,o40_150,o40_164,o40_165,o40_166],32⟩)) (wz []) (fun s81=>?_) (hsm (fun x93=>?_) (fun x94=>?_))
               ·refine hbr 1 [18] (?_) ?_
                ·refine hbd fun a84 q85=>hop 2 (fun _=>Qw (enc:=(eL true (AV.int .u64))) (l:=x13.1) (n:=s81) (w:=1) (ob:=6) (ro:=false) (nr:=true) (fl:=false) (a:=a84) kr kr gE q85) <| hop 0 (fun _=>Z5 (enc:=(eL true (AV.int .u64))) (l:=x13.1) (n:=s81) (w:=1) (ob:=6) (c:=0) (bx:=false) (ro:=false) (nr:=true) (fl:=false) (a:=a84) kr kr q85 gE) <| hbd fun a86 q87=>hop 4 (fun _=>Qw (enc:=(eL true (AV.int .u64))) (l:=([[0,1,2],[2,0,2],[2,4,0]]:(List (List Int)))) (n:=s81) (w:=1) (ob:=20) (ro:=false) (nr:=true) (fl:=false) (a:=a86) kr kr gE q87) <| hop 0 (fun _=>Z5 (enc:=(eL true (AV.int .u64))) (l:=([[0,1,2],[2,0,2],[2,4,0]]:(List (List Int)))) (n:=s81) (w:=1) (ob:=20) (c:=0) (bx:=false) (ro:=false) (nr:=true) (fl:=false) (a:=a86) kr kr q87 gE) <| hcl 4 [] (g_law31_works_1_ok a84 a86) fun x88 _=>hbr 1 [30] (hdx 2 (wz [])) <| ?_
                 refine hnx 3 (wz [])
                refine hdx 1 (wz [])
               ·refine hrt 31
               refine hwk 1 (wl [6] []) <| hop 5 (fun _=>sgL false [] [] true gE) <| hcl 0 [F eTapi_Fact x15.1] (g_slices_Equal_api_Fact_api_Fact_ok x15.1 [(Tapi_Fact.mk 0 2 2)]) fun x95 _=>hbr 2 [205,206,207] (?_) ?_
               ·refine hop 2 (fun _=>sgL false [] [] true gE) <| hcl 0 [F eTapi_Fact x17.1] (g_slices_Equal_api_Fact_api_Fact_ok x17.1 [(Tapi_Fact.mk 0 2 0)]) fun x99 _=>hbr 4 [30,211,212,213,214] (?_) ?_
                ·refine hop 0 (fun _=>sgL false [] [] true gE) <| hcl 0 [] (g_equal_Check_ok [2,1]) fun x103 _=>hbr 3 [217,218,219] (?_) ?_
                 ·refine hop 0 (fun _=>sgL false [] [] true gE) <| hcl 0 [] (g_equal_Check_ok [1]) fun x107 _=>hbr 3 [222,223,224] (?_) ?_
                  ·refine hcl 0 [] (us:=[.nils]) (rv:=fun x111=>vI x111) (ro:=fun x111=>[]) (fun x111 q112=>Qv.args [[.lst true]] (g_equal_Check_ok [] x111 q112)) fun x111 _=>hrt 4
                  refine hrt 5
                 refine hrt 10
                refine hrt 15
               refine hrt 23
              refine hrt 37
             refine hrt 46
            refine hrt 54
           refine hrt 62
          refine hrt 69
         refine hrt 74
        refine hrt 80
       refine hrt 84
      refine hrt 88
     refine hrt 91
    refine hrt 95
   refine hrt 101
  refine hrt 106
 refine hrt 111
noncomputable abbrev Qvr (p0:Qc) (p1:Int):Int:=(zw (1+(Int.tmod (zw (p0.N)) p1)))
noncomputable abbrev Z1 (p0:Qc):AObj:=oX true true 8 (.agg [.int .u8 p0.N,.int .u8 p0.Order.1,.int .u8 p0.Order.2.1,.int .u8 p0.Order.2.2.1,.int .u8 p0.Order.2.2.2.1,.int .u8 p0.Order.2.2.2.2.1,.int .u8 p0.Order.2.2.2.2.2,.int .u16 p0.Edges])
noncomputable abbrev Yb:Nat×AV:=(2,.ptr 0 0 0)
noncomputable abbrev X9 (p0:Qc) (p1:Int):Nat×AV:=(5,vI (Qvr p0 p1))
noncomputable abbrev Qfk (a0 a1 a2 a3:Nat×AV) (p0:Qc) (p1:Int):List (Nat×AV):=[Yb,(X9 p0 p1),a0,a1,a2,(21,vI (Qvr p0 p1)),(22,vB true),a3,(26,.ptr 0 0 1)]
theorem Qa2 (p0:Qc) (p1:Int):Ct Tryd.prog 13 [.agg [.int .u8 p0.N,.int .u8 p0.Order.1,.int .u8 p0.Order.2.1,.int .u8 p0.Order.2.2.1,.int .u8 p0.Order.2.2.2.1,.int .u8 p0.Order.2.2.2.2.1,.int .u8 p0.Order.2.2.2.2.2,.int .u16 p0.Edges],vI p1] (Zy p0 p1) (fun x=>.ref 0 0 x.length) (fun x=>[oR true 1 (AV.int .u64) x]):=by
 refine hfn [] Tryd.func13 <| hoh 6 (fun _ _ h k=>Q57 (k:=.i64) (a:=zw (p0.N)) (b:=p1) kr gE h k) <| hlp 4 (fun s1=>⟨[Yb,(X9 p0 p1),(6,.ref 1 0 s1.2.length),(7,vI s1.1)],[(Z1 p0),oR true 1 eI s1.2],94⟩) (fun v=>(.exit 0,⟨[Yb,(X9 p0 p1),(6,.ref 1 0 v.length)],[(Z1 p0),oR true 1 eI v],94⟩)) (wk_trans (wk_gc (live:=[2,5,6,7]) (keep:=[0]) gE) (wk_trans (wk_nil 6 1 true true gE) (wk_gc (live:=[2,5,6,7]) (keep:=[0,1]) kr))) (fun s1=>?_) fun x101=>?_
 ·refine hbr 3 [22] (?_) ?_
  ·refine hqi 3 (fun n4=>⟨(Qfk (6,.ref 1 0 s1.2.length) (7,vI n4) (20,vI n4) (25,vI n4) p0 p1),[(Z1 p0),oR true 1 eI s1.2],94⟩) (fun _=>?_) (fun _=>?_)
   ·refine hop 8 (fun _=>sgL false [] [] true gE) <| hoh 0 (fun _ _ h k=>Kb (enc:=eI) (l:=s1.2) (m:=([0]:(List Int))) (w:=1) (bytes:=8) (ob:=1) (nr:=true) (fl:=true) (nr':=true) (fl':=true) (b:=.ref 2 0 1) (rds:=[2]) false kr kr kr kr gE kr h k) <| hlp 3 (fun s5=>⟨[Yb,(X9 p0 p1),(6,.ref 1 0 s5.2.length),(7,vI 0),(8,vI (Int.tmod (zw (p0.Order.1)) 1)),(9,vI s5.1)],[(Z1 p0),oR true 1 eI s5.2],94⟩) (fun v=>(.exit 2,⟨[Yb,(X9 p0 p1),(6,.ref 1 0 v.length),(7,vI 0),(8,vI (Int.tmod (zw (p0.Order.1)) 1))],[(Z1 p0),oR true 1 eI v],94⟩)) (wz [0,3]) (fun s5=>?_) fun x14=>?_
    ·refine hbr 3 [39] (?_) ?_
     ·refine hbd fun a8 q9=>hop 6 (fun _=>Qw (enc:=eI) (l:=s5.2) (n:=zw (s5.1 - 1)) (w:=1) (ob:=1) (ro:=false) (nr:=true) (fl:=true) (a:=a8) kr kr gE q9) <| hop 0 (fun _=>Z5 (enc:=eI) (l:=s5.2) (n:=zw (s5.1 - 1)) (w:=1) (ob:=1) (c:=0) (bx:=false) (ro:=false) (nr:=true) (fl:=true) (a:=a8) kr kr q9 gE) <| hbd fun a10 q11=>hop 0 (fun _=>Qw (enc:=eI) (l:=s5.2) (n:=s5.1) (w:=1) (ob:=1) (ro:=false) (nr:=true) (fl:=true) (a:=a10) kr kr gE q11) <| hop 0 (fun _=>X3 (enc:=eI) (l:=s5.2) (n:=s5.1) (ob:=1) (w:=1) (bx:=false) (nr:=true) (fl:=true) (c:=0) (a:=a10) (a':=a8) (v:=vI a8) false kr kr q11 kr kr kr gE kr) <| hkl 0 [6,42,44] (ls s5.2 (zt s5.1) a8) <| hnx 3 (wz [0,1])
     refine hdx 1 (wz [0,1])
    refine hbd fun a15 q16=>hop 3 (fun _=>Qw (enc:=eI) (l:=x14) (n:=Int.tmod (zw (p0.Order.1)) 1) (w:=1) (ob:=1) (ro:=false) (nr:=true) (fl:=true) (a:=a15) kr kr gE q16) <| hbd fun a17 q18=>hop 0 (fun _=>X3 (enc:=eI) (l:=x14) (n:=(Int.tmod (zw (p0.Order.1)) 1)) (ob:=1) (w:=1) (bx:=false) (nr:=true) (fl:=true) (c:=0) (a:=a17) (a':=0) (v:=vI 0) false kr kr q18 kr kr kr gE kr) <| hkl 0 [6,50] (ls x14 (zt (Int.tmod (zw (p0.Order.1)) 1)) 0) <| hnx 3 (wz [0,1])
   refine hqi 0 (fun n20=>⟨(Qfk (6,.ref 1 0 s1.2.length) (7,vI n20) (20,vI n20) (25,vI n20) p0 p1),[(Z1 p0),oR true 1 eI s1.2],94⟩) (fun _=>?_) (fun _=>?_)
   ·refine hop 8 (fun _=>sgL false [] [] true gE) <| hoh 0 (fun _ _ h k=>Kb (enc:=eI) (l:=s1.2) (m:=([0]:(List Int))) (w:=1) (bytes:=8) (ob:=1) (nr:=true) (fl:=true) (nr':=true) (fl':=true) (b:=.ref 2 0 1) (rds:=[2]) false kr kr kr kr gE kr h k) <| hlp 3 (fun s21=>⟨[Yb,(X9 p0 p1),(6,.ref 1 0 s21.2.length),(7,vI 1),(8,vI (Int.tmod (zw (p0.Order.2.1)) 2)),(9,vI s21.1)],[(Z1 p0),oR true 1 eI s21.2],94⟩) (fun v=>(.exit 2,⟨[Yb,(X9 p0 p1),(6,.ref 1 0 v.length),(7,vI 1),(8,vI (Int.tmod (zw (p0.Order.2.1)) 2))],[(Z1 p0),oR true 1 eI v],94⟩)) (wz [0,3]) (fun s21=>?_) fun x30=>?_
    ·refine hbr 3 [39] (?_) ?_
     ·refine hbd fun a24 q25=>hop 6 (fun _=>Qw (enc:=eI) (l:=s21.2) (n:=zw (s21.1 - 1)) (w:=1) (ob:=1) (ro:=false) (nr:=true) (fl:=true) (a:=a24) kr kr gE q25) <| hop 0 (fun _=>Z5 (enc:=eI) (l:=s21.2) (n:=zw (s21.1 - 1)) (w:=1) (ob:=1) (c:=0) (bx:=false) (ro:=false) (nr:=true) (fl:=true) (a:=a24) kr kr q25 gE) <| hbd fun a26 q27=>hop 0 (fun _=>Qw (enc:=eI) (l:=s21.2) (n:=s21.1) (w:=1) (ob:=1) (ro:=false) (nr:=true) (fl:=true) (a:=a26) kr kr gE q27) <| hop 0 (fun _=>X3 (enc:=eI) (l:=s21.2) (n:=s21.1) (ob:=1) (w:=1) (bx:=false) (nr:=true) (fl:=true) (c:=0) (a:=a26) (a':=a24) (v:=vI a24) false kr kr q27 kr kr kr gE kr) <| hkl 0 [6,42,44] (ls s21.2 (zt s21.1) a24) <| hnx 3 (wz [0,1])
     refine hdx 1 (wz [0,1])
    refine hbd fun a31 q32=>hop 3 (fun _=>Qw (enc:=eI) (l:=x30) (n:=Int.tmod (zw (p0.Order.2.1)) 2) (w:=1) (ob:=1) (ro:=false) (nr:=true) (fl:=true) (a:=a31) kr kr gE q32) <| hbd fun a33 q34=>hop 0 (fun _=>X3 (enc:=eI) (l:=x30) (n:=(Int.tmod (zw (p0.Order.2.1)) 2)) (ob:=1) (w:=1) (bx:=false) (nr:=true) (fl:=true) (c:=0) (a:=a33) (a':=1) (v:=vI 1) false kr kr q34 kr kr kr gE kr) <| hkl 0 [6,50] (ls x30 (zt (Int.tmod (zw (p0.Order.2.1)) 2)) 1) <| hnx 3 (wz [0,1])
   refine hqi 0 (fun n36=>⟨(Qfk (6,.ref 1 0 s1.2.length) (7,vI n36) (20,vI n36) (25,vI n36) p0 p1),[(Z1 p0),oR true 1 eI s1.2],94⟩) (fun _=>?_) (fun _=>?_)
   ·refine hop 8 (fun _=>sgL false [] [] true gE) <| hoh 0 (fun _ _ h k=>Kb (enc:=eI) (l:=s1.2) (m:=([0]:(List Int))) (w:=1) (bytes:=8) (ob:=1) (nr:=true) (fl:=true) (nr':=true) (fl':=true) (b:=.ref 2 0 1) (rds:=[2]) false kr kr kr kr gE kr h k) <| hlp 3 (fun s37=>⟨[Yb,(X9 p0 p1),(6,.ref 1 0 s37.2.length),(7,vI 2),(8,vI (Int.tmod (zw (p0.Order.2.2.1)) 3)),(9,vI s37.1)],[(Z1 p0),oR true 1 eI s37.2],94⟩) (fun v=>(.exit 2,⟨[Yb,(X9 p0 p1),(6,.ref 1 0 v.length),(7,vI 2),(8,vI (Int.tmod (zw (p0.Order.2.2.1)) 3))],[(Z1 p0),oR true 1 eI v],94⟩)) (wz [0,3]) (fun s37=>?_) fun x46=>?_
    ·refine hbr 3 [39] (?_) ?_
     ·refine hbd fun a40 q41=>hop 6 (fun _=>Qw (enc:=eI) (l:=s37.2) (n:=zw (s37.1 - 1)) (w:=1) (ob:=1) (ro:=false) (nr:=true) (fl:=true) (a:=a40) kr kr gE q41) <| hop 0 (fun _=>Z5 (enc:=eI) (l:=s37.2) (n:=zw (s37.1 - 1)) (w:=1) (ob:=1) (c:=0) (bx:=false) (ro:=false) (nr:=true) (fl:=true) (a:=a40) kr kr q41 gE) <| hbd fun a42 q43=>hop 0 (fun _=>Qw (enc:=eI) (l:=s37.2) (n:=s37.1) (w:=1) (ob:=1) (ro:=false) (nr:=true) (fl:=true) (a:=a42) kr kr gE q43) <| hop 0 (fun _=>X3 (enc:=eI) (l:=s37.2) (n:=s37.1) (ob:=1) (w:=1) (bx:=false) (nr:=true) (fl:=true) (c:=0) (a:=a42) (a':=a40) (v:=vI a40) false kr kr q43 kr kr kr gE kr) <| hkl 0 [6,42,44] (ls s37.2 (zt s37.1) a40) <| hnx 3 (wz [0,1])
     refine hdx 1 (wz [0,1])
    refine hbd fun a47 q48=>hop 3 (fun _=>Qw (enc:=eI) (l:=x46) (n:=Int.tmod (zw (p0.Order.2.2.1)) 3) (w:=1) (ob:=1) (ro:=false) (nr:=true) (fl:=true) (a:=a47) kr kr gE q48) <| hbd fun a49 q50=>hop 0 (fun _=>X3 (enc:=eI) (l:=x46) (n:=(Int.tmod (zw (p0.Order.2.2.1)) 3)) (ob:=1) (w:=1) (bx:=false) (nr:=true) (fl:=true) (c:=0) (a:=a49) (a':=2) (v:=vI 2) false kr kr q50 kr kr kr gE kr) <| hkl 0 [6,50] (ls x46 (zt (Int.tmod (zw (p0.Order.2.2.1)) 3)) 2) <| hnx 3 (wz [0,1])
   refine hqi 0 (fun n52=>⟨(Qfk (6,.ref 1 0 s1.2.length) (7,vI n52) (20,vI n52) (25,vI n52) p0 p1),[(Z1 p0),oR true 1 eI s1.2],94⟩) (fun _=>?_) (fun _=>?_)
   ·refine hop 8 (fun _=>sgL false [] [] true gE) <| hoh 0 (fun _ _ h k=>Kb (enc:=eI) (l:=s1.2) (m:=([0]:(List Int))) (w:=1) (bytes:=8) (ob:=1) (nr:=true) (fl:=true) (nr':=true) (fl':=true) (b:=.ref 2 0 1) (rds:=[2]) false kr kr kr kr gE kr h k) <| hlp 3 (fun s53=>⟨[Yb,(X9 p0 p1),(6,.ref 1 0 s53.2.length),(7,vI 3),(8,vI (Int.tmod (zw (p0.Order.2.2.2.1)) 4)),(9,vI s53.1)],[(Z1 p0),oR true 1 eI s53.2],94⟩) (fun v=>(.exit 2,⟨[Yb,(X9 p0 p1),(6,.ref 1 0 v.length),(7,vI 3),(8,vI (Int.tmod (zw (p0.Order.2.2.2.1)) 4))],[(Z1 p0),oR true 1 eI v],94⟩)) (wz [0,3]) (fun s53=>?_) fun x62=>?_
    ·refine hbr 3 [39] (?_) ?_
     ·refine hbd fun a56 q57=>hop 6 (fun _=>Qw (enc:=eI) (l:=s53.2) (n:=zw (s53.1 - 1)) (w:=1) (ob:=1) (ro:=false) (nr:=true) (fl:=true) (a:=a56) kr kr gE q57) <| hop 0 (fun _=>Z5 (enc:=eI) (l:=s53.2) (n:=zw (s53.1 - 1)) (w:=1) (ob:=1) (c:=0) (bx:=false) (ro:=false) (nr:=true) (fl:=true) (a:=a56) kr kr q57 gE) <| hbd fun a58 q59=>hop 0 (fun _=>Qw (enc:=eI) (l:=s53.2) (n:=s53.1) (w:=1) (ob:=1) (ro:=false) (nr:=true) (fl:=true) (a:=a58) kr kr gE q59) <| hop 0 (fun _=>X3 (enc:=eI) (l:=s53.2) (n:=s53.1) (ob:=1) (w:=1) (bx:=false) (nr:=true) (fl:=true) (c:=0) (a:=a58) (a':=a56) (v:=vI a56) false kr kr q59 kr kr kr gE kr) <| hkl 0 [6,42,44] (ls s53.2 (zt s53.1) a56) <| hnx 3 (wz [0,1])
     refine hdx 1 (wz [0,1])
    refine hbd fun a63 q64=>hop 3 (fun _=>Qw (enc:=eI) (l:=x62) (n:=Int.tmod (zw (p0.Order.2.2.2.1)) 4) (w:=1) (ob:=1) (ro:=false) (nr:=true) (fl:=true) (a:=a63) kr kr gE q64) <| hbd fun a65 q66=>hop 0 (fun _=>X3 (enc:=eI) (l:=x62) (n:=(Int.tmod (zw (p0.Order.2.2.2.1)) 4)) (ob:=1) (w:=1) (bx:=false) (nr:=true) (fl:=true) (c:=0) (a:=a65) (a':=3) (v:=vI 3) false kr kr q66 kr kr kr gE kr) <| hkl 0 [6,50] (ls x62 (zt (Int.tmod (zw (p0.Order.2.2.2.1)) 4)) 3) <| hnx 3 (wz [0,1])
   refine hqi 0 (fun n68=>⟨(Qfk (6,.ref 1 0 s1.2.length) (7,vI n68) (20,vI n68) (25,vI n68) p0 p1),[(Z1 p0),oR true 1 eI s1.2],94⟩) (fun _=>?_) (fun _=>?_)
   ·refine hop 8 (fun _=>sgL false [] [] true gE) <| hoh 0 (fun _ _ h k=>Kb (enc:=eI) (l:=s1.2) (m:=([0]:(List Int))) (w:=1) (bytes:=8) (ob:=1) (nr:=true) (fl:=true) (nr':=true) (fl':=true) (b:=.ref 2 0 1) (rds:=[2]) false kr kr kr kr gE kr h k) <| hlp 3 (fun s69=>⟨[Yb,(X9 p0 p1),(6,.ref 1 0 s69.2.length),(7,vI 4),(8,vI (Int.tmod (zw (p0.Order.2.2.2.2.1)) 5)),(9,vI s69.1)],[(Z1 p0),oR true 1 eI s69.2],94⟩) (fun v=>(.exit 2,⟨[Yb,(X9 p0 p1),(6,.ref 1 0 v.length),(7,vI 4),(8,vI (Int.tmod (zw (p0.Order.2.2.2.2.1)) 5))],[(Z1 p0),oR true 1 eI v],94⟩)) (wz [0,3]) (fun s69=>?_) fun x78=>?_
    ·refine hbr 3 [39] (?_) ?_
     ·refine hbd fun a72 q73=>hop 6 (fun _=>Qw (enc:=eI) (l:=s69.2) (n:=zw (s69.1 - 1)) (w:=1) (ob:=1) (ro:=false) (nr:=true) (fl:=true) (a:=a72) kr kr gE q73) <| hop 0 (fun _=>Z5 (enc:=eI) (l:=s69.2) (n:=zw (s69.1 - 1)) (w:=1) (ob:=1) (c:=0) (bx:=false) (ro:=false) (nr:=true) (fl:=true) (a:=a72) kr kr q73 gE) <| hbd fun a74 q75=>hop 0 (fun _=>Qw (enc:=eI) (l:=s69.2) (n:=s69.1) (w:=1) (ob:=1) (ro:=false) (nr:=true) (fl:=true) (a:=a74) kr kr gE q75) <| hop 0 (fun _=>X3 (enc:=eI) (l:=s69.2) (n:=s69.1) (ob:=1) (w:=1) (bx:=false) (nr:=true) (fl:=true) (c:=0) (a:=a74) (a':=a72) (v:=vI a72) false kr kr q75 kr kr kr gE kr) <| hkl 0 [6,42,44] (ls s69.2 (zt s69.1) a72) <| hnx 3 (wz [0,1])
     refine hdx 1 (wz [0,1])
    refine hbd fun a79 q80=>hop 3 (fun _=>Qw (enc:=eI) (l:=x78) (n:=Int.tmod (zw (p0.Order.2.2.2.2.1)) 5) (w:=1) (ob:=1) (ro:=false) (nr:=true) (fl:=true) (a:=a79) kr kr gE q80) <| hbd fun a81 q82=>hop 0 (fun _=>X3 (enc:=eI) (l:=x78) (n:=(Int.tmod (zw (p0.Order.2.2.2.2.1)) 5)) (ob:=1) (w:=1) (bx:=false) (nr:=true) (fl:=true) (c:=0) (a:=a81) (a':=4) (v:=vI 4) false kr kr q82 kr kr kr gE kr) <| hkl 0 [6,50] (ls x78 (zt (Int.tmod (zw (p0.Order.2.2.2.2.1)) 5)) 4) <| hnx 3 (wz [0,1])
   refine hqi 0 (fun n84=>⟨(Qfk (6,.ref 1 0 s1.2.length) (7,vI n84) (20,vI n84) (25,vI n84) p0 p1),[(Z1 p0),oR true 1 eI s1.2],94⟩) (fun _=>?_) (fun _=>?_)
   ·refine hop 8 (fun _=>sgL false [] [] true gE) <| hoh 0 (fun _ _ h k=>Kb (enc:=eI) (l:=s1.2) (m:=([0]:(List Int))) (w:=1) (bytes:=8) (ob:=1) (nr:=true) (fl:=true) (nr':=true) (fl':=true) (b:=.ref 2 0 1) (rds:=[2]) false kr kr kr kr gE kr h k) <| hlp 3 (fun s85=>⟨[Yb,(X9 p0 p1),(6,.ref 1 0 s85.2.length),(7,vI 5),(8,vI (Int.tmod (zw (p0.Order.2.2.2.2.2)) 6)),(9,vI s85.1)],[(Z1 p0),oR true 1 eI s85.2],94⟩) (fun v=>(.exit 2,⟨[Yb,(X9 p0 p1),(6,.ref 1 0 v.length),(7,vI 5),(8,vI (Int.tmod (zw (p0.Order.2.2.2.2.2)) 6))],[(Z1 p0),oR true 1 eI v],94⟩)) (wz [0,3]) (fun s85=>?_) fun x94=>?_
    ·refine hbr 3 [39] (?_) ?_
     ·refine hbd fun a88 q89=>hop 6 (fun _=>Qw (enc:=eI) (l:=s85.2) (n:=zw (s85.1 - 1)) (w:=1) (ob:=1) (ro:=false) (nr:=true) (fl:=true) (a:=a88) kr kr gE q89) <| hop 0 (fun _=>Z5 (enc:=eI) (l:=s85.2) (n:=zw (s85.1 - 1)) (w:=1) (ob:=1) (c:=0) (bx:=false) (ro:=false) (nr:=true) (fl:=true) (a:=a88) kr kr q89 gE) <| hbd fun a90 q91=>hop 0 (fun _=>Qw (enc:=eI) (l:=s85.2) (n:=s85.1) (w:=1) (ob:=1) (ro:=false) (nr:=true) (fl:=true) (a:=a90) kr kr gE q91) <| hop 0 (fun _=>X3 (enc:=eI) (l:=s85.2) (n:=s85.1) (ob:=1) (w:=1) (bx:=false) (nr:=true) (fl:=true) (c:=0) (a:=a90) (a':=a88) (v:=vI a88) false kr kr q91 kr kr kr gE kr) <| hkl 0 [6,42,44] (ls s85.2 (zt s85.1) a88) <| hnx 3 (wz [0,1])
     refine hdx 1 (wz [0,1])
    refine hbd fun a95 q96=>hop 3 (fun _=>Qw (enc:=eI) (l:=x94) (n:=Int.tmod (zw (p0.Order.2.2.2.2.2)) 6) (w:=1) (ob:=1) (ro:=false) (nr:=true) (fl:=true) (a:=a95) kr kr gE q96) <| hbd fun a97 q98=>hop 0 (fun _=>X3 (enc:=eI) (l:=x94) (n:=(Int.tmod (zw (p0.Order.2.2.2.2.2)) 6)) (ob:=1) (w:=1) (bx:=false) (nr:=true) (fl:=true) (c:=0) (a:=a97) (a':=5) (v:=vI 5) false kr kr q98 kr kr kr gE kr) <| hkl 0 [6,50] (ls x94 (zt (Int.tmod (zw (p0.Order.2.2.2.2.2)) 6)) 5) <| hnx 3 (wz [0,1])
   refine hnn
  refine hdx 1 (wz [0,1])
 refine hoh 1 (fun _ _ h k=>mkL (enc:=(AV.int .u64)) (z:=(0:Int)) (z0:=.int .u64 0) (n:=zw (1+(Int.tmod (zw (p0.N)) p1))) (m:=zw (1+(Int.tmod (zw (p0.N)) p1))) (w:=1) (bytes:=8) [] true kr kr gE kr h k) <| hlp 3 (fun s102=>⟨[Yb,(X9 p0 p1),(6,.ref 1 0 x101.length),(10,.ref 2 0 s102.2.2.length),(11,vI s102.1),(12,vI s102.2.1)],[(Z1 p0),oR true 1 eI x101,oR true 1 (AV.int .u64) s102.2.2],94⟩) (fun v=>(.exit 4,⟨[(10,.ref 0 0 v.length)],[oR true 1 (AV.int .u64) v],94⟩)) (wz [0,1,2]) (fun s102=>?_) fun x120=>?_
 ·refine hbr 3 [58] (?_) ?_
  ·refine hlp 2 (fun s105=>⟨[Yb,(X9 p0 p1),(6,.ref 1 0 x101.length),(10,.ref 2 0 s105.2.2.length),(11,vI s105.1),(12,vI s102.2.1),(13,vI s105.2.1)],[(Z1 p0),oR true 1 eI x101,oR true 1 (AV.int .u64) s105.2.2],94⟩) (fun v=>(.exit 6,⟨[Yb,(X9 p0 p1),(6,.ref 1 0 x101.length),(10,.ref 2 0 v.2.length),(11,vI v.1),(12,vI s102.2.1)],[(Z1 p0),oR true 1 eI x101,oR true 1 (AV.int .u64) v.2],94⟩)) (wz [0,1,2]) (fun s105=>?_) fun x118=>?_
   ·refine hbr 3 [63] (?_) ?_
    ·refine hoh 4 (fun _ _ h k=>Xh (k:=.u16) (k':=.i64) (a:=p0.Edges) (b:=s105.1) kr gE h k) <| hbr 2 [71] (?_) ?_
     ·refine hbd fun a110 q111=>hop 5 (fun _=>Qw (enc:=eI) (l:=x101) (n:=s102.2.1) (w:=1) (ob:=1) (ro:=false) (nr:=true) (fl:=true) (a:=a110) kr kr gE q111) <| hop 0 (fun _=>Z5 (enc:=eI) (l:=x101) (n:=s102.2.1) (w:=1) (ob:=1) (c:=0) (bx:=false) (ro:=false) (nr:=true) (fl:=true) (a:=a110) kr kr q111 gE) <| hop 3 (fun _=>Qw (enc:=eI) (l:=x101) (n:=s102.2.1) (w:=1) (ob:=1) (ro:=false) (nr:=true) (fl:=true) (a:=a110) kr kr gE q111) <| hop 0 (fun _=>Z5 (enc:=eI) (l:=x101) (n:=s102.2.1) (w:=1) (ob:=1) (c:=0) (bx:=false) (ro:=false) (nr:=true) (fl:=true) (a:=a110) kr kr q111 gE) <| hbd fun a112 q113=>hop 0 (fun _=>Qw (enc:=(AV.int .u64)) (l:=s105.2.2) (n:=a110) (w:=1) (ob:=2) (ro:=false) (nr:=true) (fl:=true) (a:=a112) kr kr gE q113) <| hop 0 (fun _=>Z5 (enc:=(AV.int .u64)) (l:=s105.2.2) (n:=a110) (w:=1) (ob:=2) (c:=0) (bx:=false) (ro:=false) (nr:=true) (fl:=true) (a:=a112) kr kr q113 gE) <| hbd fun a114 q115=>?_
      refine hop 2 (fun _=>Qw (enc:=eI) (l:=x101) (n:=s105.2.1) (w:=1) (ob:=1) (ro:=false) (nr:=true) (fl:=true) (a:=a114) kr kr gE q115) <| hop 0 (fun _=>Z5 (enc:=eI) (l:=x101) (n:=s105.2.1) (w:=1) (ob:=1) (c:=0) (bx:=false) (ro:=false) (nr:=true) (fl:=true) (a:=a114) kr kr q115 gE) <| hoh 0 (fun _ _ h k=>Qi (k:=.u64) (k':=.i64) (a:=1) (b:=a114) kr gE h k) <| hop 1 (fun _=>Qw (enc:=(AV.int .u64)) (l:=s105.2.2) (n:=a110) (w:=1) (ob:=2) (ro:=false) (nr:=true) (fl:=true) (a:=a112) kr kr gE q113) <| hop 0 (fun _=>X3 (enc:=(AV.int .u64)) (l:=s105.2.2) (n:=a110) (ob:=2) (w:=1) (bx:=false) (nr:=true) (fl:=true) (c:=0) (a:=a112) (a':=zv (zb a112 ||| zb (zv (1*2^min (zt a114) (IntKind.bits .u64)))).toNat) (v:=.int .u64 (zv (zb a112 ||| zb (zv (1*2^min (zt a114) (IntKind.bits .u64)))).toNat)) false kr kr q113 kr kr kr gE kr) <| hkl 0 [10,72,77] (ls s105.2.2 (zt a110) (zv (zb a112 ||| zb (zv (1*2^min (zt a114) (IntKind.bits .u64)))).toNat)) <| hnx 6 (wz [0,1,2])
     refine hnx 7 (wz [0,1,2])
    refine hdx 1 (wz [0,1,2])
   refine hnx 3 (wz [0,1,2])
  refine hdx 1 (wz [2])
 refine hrt 3
theorem g_ref31_In_ok (p0:Int) (p1:Int):Ct Tryd.prog 24 [.int .u64 p0,vI p1] (Xy p0 p1) (fun x=>vB x) (fun x=>[]):=by
 refine hfn [] Tryd.func24 <| hoh 3 (fun _ _ h k=>Xh (k:=.u64) (k':=.i64) (a:=p0) (b:=p1) kr gE h k) <| hrt 4
theorem Qcc (p0:(List Int)) (p1:Int) (p2:Int):Ct Tryd.prog 61 [eL true (AV.int .u64) p0,vI p1,vI p2] (Kd p0 p1 p2) (fun x=>vB x) (fun x=>[]):=by
 refine hfn [] Tryd.func61 <| hbd fun a1 q2=>hop 3 (fun _=>Q7 (enc:=(AV.int .u64)) (l:=p0) (n:=p1) (fl:=true) (w:=1) (a:=a1) kr kr gE q2) <| hcl 2 [] (g_ref31_In_ok a1 p2) fun x3 _=>hbr 1 [12,13] (hrt 9) <| ?_
 refine hbd fun a7 q8=>hop 2 (fun _=>Q7 (enc:=(AV.int .u64)) (l:=p0) (n:=p2) (fl:=true) (w:=1) (a:=a7) kr kr gE q8) <| hcl 2 [] (g_ref31_In_ok a7 p1) fun x9 _=>hrt 3
theorem g_ref31_Skeleton_ok (p0:(List Int)):Ct Tryd.prog 34 [eL true (AV.int .u64) p0] (Jj p0) (fun x=>.ref 0 0 x.length) (fun x=>[oR true 2 (fun x:(Int × Int)=>AV.agg [vI x.1,vI x.2]) x]):=by
 refine hfn [] Tryd.func34 <| hlp 3 (fun s1=>⟨[(0,eL true (AV.int .u64) p0),(3,.ref 0 0 s1.2.length),(4,vI s1.1)],[oR true 2 (fun x:(Int × Int)=>AV.agg [vI x.1,vI x.2]) s1.2],31⟩) (fun v=>(.exit 0,⟨[(3,.ref 0 0 v.length)],[oR true 2 (fun x:(Int × Int)=>AV.agg [vI x.1,vI x.2]) v],31⟩)) (wk_trans (wk_gc (live:=[0,3,4]) (keep:=[]) gE) (wk_trans (wk_nil 3 2 true true gE) (wk_gc (live:=[0,3,4]) (keep:=[0]) kr))) (fun s1=>?_) fun x14=>?_
 ·refine hop 2 (fun _=>Qp (enc:=(AV.int .u64)) (l:=p0) (fl:=true) kr gE) <| hbr 1 [9] (?_) ?_
  ·refine hlp 4 (fun s4=>⟨[(0,eL true (AV.int .u64) p0),(3,.ref 0 0 s4.2.length),(4,vI s1.1),(5,vI s4.1)],[oR true 2 (fun x:(Int × Int)=>AV.agg [vI x.1,vI x.2]) s4.2],31⟩) (fun v=>(.exit 2,⟨[(0,eL true (AV.int .u64) p0),(3,.ref 0 0 v.length),(4,vI s1.1)],[oR true 2 (fun x:(Int × Int)=>AV.agg [vI x.1,vI x.2]) v],31⟩)) (wz [0]) (fun s4=>?_) fun x12=>?_
   ·refine hop 2 (fun _=>Qp (enc:=(AV.int .u64)) (l:=p0) (fl:=true) kr gE) <| hbr 1 [17] (?_) ?_
    ·refine hcl 4 [] (Qcc p0 s1.1 s4.1) fun x7 _=>hbr 0 [23] (?_) ?_
     ·refine hop 5 (fun _=>sgL false [] [] true gE) <| hoh 0 (fun _ _ h k=>Kb (enc:=(fun x:(Int × Int)=>AV.agg [vI x.1,vI x.2])) (l:=s4.2) (m:=([(s1.1,s4.1)]:(List (Int × Int)))) (w:=2) (bytes:=16) (ob:=0) (nr:=true) (fl:=true) (nr':=true) (fl':=true) (b:=.ref 1 0 1) (rds:=[1]) false kr kr kr kr gE kr h k) <| hnx 4 (wz [2])
     refine hnx 4 (wz [0])
    refine hdx 1 (wz [0])
   refine hnx 3 (wz [0])
  refine hdx 1 (wz [0])
 refine hrt 3
theorem Qcu (c0:Int) (d0:(List Int)):Ct Tryd.prog 29 [eL true (AV.int .u64) (c0::d0)] (Vq c0 d0) (fun x=>.ref 0 0 x.length) (fun x=>[oR true 1 (AV.int .u64) x]):=by
 refine hfn [] Tryd.func29 <| hoh 6 (fun _ _ h k=>Q5v (enc:=(AV.int .u64)) (m:=(c0::d0)) (w:=1) (bytes:=8) (nr':=true) (fl':=true) (a:=.emp) (b:=eL true (AV.int .u64) (c0::d0)) (rds:=[]) false kr (.inr rfl) (Qya (fun _=>rfl)) kr gE kr h k) <| hrt 2
theorem Qct  : Ct Tryd.prog 29 [.emn] (Vw) (fun x=>.ref 0 0 x.length) (fun x=>[oR true 1 (AV.int .u64) x]):=by
 refine hfn [] Tryd.func29 <| hrt 9
theorem Qcs  : Ct Tryd.prog 29 [.nils] (Vv) (fun x=>.ref 0 0 x.length) (fun x=>[oR true 1 (AV.int .u64) x]):=by
 refine hfn [] Tryd.func29 <| hwk 5 (wl [2] []) <| hwk 0 (wk_nil 2 1 true true gE) <| hrt 1
theorem g_slices_Clone_uint_uint_ok (p0:(List Int)) (x:(List Int)) (h:Ze p0=some x):Qv Tryd.prog 29 [eL true (AV.int .u64) p0] (.ret (.ref 0 0 x.length) [oR true 1 (AV.int .u64) x]):=by
 cases p0 with
 | cons c0 d0=>exact Qcu c0 d0 x h
 | nil =>
  cases h1:Vv with
  | none=>simp [Ze,h1] at h
  | some y =>
   cases h2:Vw with
   | none=>simp [Ze,h1,h2] at h
   | some z =>
    by_cases e:y=z
    ·subst e
     simp [Ze,h1,h2] at h
     subst h
     exact Qv.nil (l1:=[]) (l2:=[]) (Qcs y h1) (Qct y h2)
    ·simp [Ze,h1,h2,e] at h
theorem Qqb (p0:(List Int)):Ct Tryd.prog 30 [eL true (AV.int .u64) p0] (Qdr p0) (fun x=>.ref 0 0 x.length) (fun x=>[oR true 1 (AV.int .u64) x]):=by
 refine hfn [] Tryd.func30 <| hop 3 (fun _=>Qp (enc:=(AV.int .u64)) (l:=p0) (fl:=true) kr gE) <| hoh 1 (fun _ _ h k=>Q3h (enc:=(AV.int .u64)) (l:=p0) (fl:=true) (lo:=none) (hi:=(some (vI (if 7 < (zn p0) then 7 else (zn p0))))) (a:=0) (b:=(if 7 < (zn p0) then 7 else (zn p0))) (w:=1) kr (fun _=>rfl) kr kr gE h k) <| hcl 0 [] (g_slices_Clone_uint_uint_ok (sub p0 0 (if 7 < (zn p0) then 7 else (zn p0)))) fun x1 _=>hrt 2
theorem g_ref31_Above_ok (p0:(List Int)) (p1:Int):Ct Tryd.prog 60 [eL true (AV.int .u64) p0,.int .u64 p1] (Qbg p0 p1) (fun x=>.int .u64 x) (fun x=>[]):=by
 refine hfn [] Tryd.func60 <| hlp 2 (fun s1=>⟨[(0,eL true (AV.int .u64) p0),(1,.int .u64 s1.1),(5,vI s1.2)],[],29⟩) (fun v=>(.exit 0,⟨[(1,.int .u64 v)],[],29⟩)) (wz []) (fun s1=>?_) fun x16=>?_
 ·refine hop 2 (fun _=>Qp (enc:=(AV.int .u64)) (l:=p0) (fl:=true) kr gE) <| hbr 1 [10] (?_) ?_
  ·refine hlp 2 (fun s4=>⟨[(0,eL true (AV.int .u64) p0),(1,.int .u64 s4.1),(5,vI s1.2),(6,vI s4.2)],[],29⟩) (fun v=>(.exit 2,⟨[(0,eL true (AV.int .u64) p0),(1,.int .u64 v),(5,vI s1.2)],[],29⟩)) (wz []) (fun s4=>?_) fun x14=>?_
   ·refine hop 2 (fun _=>Qp (enc:=(AV.int .u64)) (l:=p0) (fl:=true) kr gE) <| hbr 1 [16] (?_) ?_
    ·refine hcl 3 [] (g_ref31_In_ok s4.1 s4.2) fun x7 _=>hbr 0 [21] (hbd fun a11 q12=>hop 4 (fun _=>Q7 (enc:=(AV.int .u64)) (l:=p0) (n:=s4.2) (fl:=true) (w:=1) (a:=a11) kr kr gE q12) <| hnx 6 (wz [])) <| ?_
     refine hnx 4 (wz [])
    refine hdx 1 (wz [])
   refine hnx 3 (wz [])
  refine hdx 1 (wz [])
 refine hrt 3
theorem g_ref31_Right_ok (p0:(List Int)) (p1:Int):Ct Tryd.prog 32 [eL true (AV.int .u64) p0,vI p1] (Vr p0 p1) (fun x=>vB x) (fun x=>[]):=by
 refine hfn [] Tryd.func32 <| hop 2 (fun _=>Qp (enc:=(AV.int .u64)) (l:=p0) (fl:=true) kr gE) <| hbr 2 [9,10] (hrt 8) <| ?_
 refine hop 1 (fun _=>Qp (enc:=(AV.int .u64)) (l:=p0) (fl:=true) kr gE) <| hbr 3 [14,15] (hrt 3) <| ?_
 refine hlp 2 (fun s5=>⟨[(0,eL true (AV.int .u64) p0),(5,vI s5)],[],44⟩) (fun x=>match x with | .inl v=>(.ret,⟨[(4,vB false)],[],44⟩) | .inr v=>(.exit 0,⟨[(0,eL true (AV.int .u64) p0)],[],44⟩)) (wz []) (fun s5=>?_) (hsm (fun x13=>?_) (fun x14=>?_))
 ·refine hop 2 (fun _=>Qp (enc:=(AV.int .u64)) (l:=p0) (fl:=true) kr gE) <| hbr 1 [19] (?_) ?_
  ·refine hbd fun a8 q9=>hop 3 (fun _=>Q7 (enc:=(AV.int .u64)) (l:=p0) (n:=s5) (fl:=true) (w:=1) (a:=a8) kr kr gE q9) <| hop 2 (fun _=>Qp (enc:=(AV.int .u64)) (l:=p0) (fl:=true) kr gE) <| hoh 0 (fun _ _ h k=>Xh (k:=.u64) (k':=.i64) (a:=a8) (b:=(zn p0)) kr gE h k) <| hbr 1 [29] (hdx 2 (wz [])) <| ?_
   refine hnx 4 (wz [])
  refine hdx 1 (wz [])
 ·refine hrt 0
 refine hlp 1 (fun s15=>⟨[(0,eL true (AV.int .u64) p0),(6,vI s15)],[],44⟩) (fun x=>match x with | .inl v=>(.ret,⟨[(4,vB false)],[],44⟩) | .inr v=>(.exit 2,⟨[],[],44⟩)) (wz []) (fun s15=>?_) (hsm (fun x27=>?_) (fun x28=>?_))
 ·refine hop 2 (fun _=>Qp (enc:=(AV.int .u64)) (l:=p0) (fl:=true) kr gE) <| hbr 1 [33] (?_) ?_
  ·refine hbd fun a18 q19=>hop 4 (fun _=>Q7 (enc:=(AV.int .u64)) (l:=p0) (n:=s15) (fl:=true) (w:=1) (a:=a18) kr kr gE q19) <| hcl 1 [] (g_ref31_Above_ok p0 a18) fun x20 _=>hcl 1 [] (g_ref31_In_ok x20 s15) fun x22 _=>hbr 0 [43] (hdx 2 (wz [])) <| ?_
   refine hnx 4 (wz [])
  refine hdx 1 (wz [])
 ·refine hrt 0
 refine hrt 2
end
section
attribute [local irreducible] RW WP
theorem g_ref31_Colliders_ok (p0:(List Int)):Ct Tryd.prog 36 [eL true (AV.int .u64) p0] (Vy p0) (fun x=>.ref 0 0 x.length) (fun x=>[oR true 3 (fun x:(Int × Int × Int)=>AV.agg [vI x.1,vI x.2.1,vI x.2.2]) x]):=by
 refine hfn [] Tryd.func36 <| hlp 3 (fun s1=>⟨[(0,eL true (AV.int .u64) p0),(3,.ref 0 0 s1.2.length),(4,vI s1.1)],[oR true 3 (fun x:(Int × Int × Int)=>AV.agg [vI x.1,vI x.2.1,vI x.2.2]) s1.2],56⟩) (fun v=>(.exit 0,⟨[(3,.ref 0 0 v.length)],[oR true 3 (fun x:(Int × Int × Int)=>AV.agg [vI x.1,vI x.2.1,vI x.2.2]) v],56⟩)) (wk_trans (wk_gc (live:=[0,3,4]) (keep:=[]) gE) (wk_trans (wk_nil 3 3 true true gE) (wk_gc (live:=[0,3,4]) (keep:=[0]) kr))) (fun s1=>?_) fun x29=>?_
 ·refine hop 2 (fun _=>Qp (enc:=(AV.int .u64)) (l:=p0) (fl:=true) kr gE) <| hbr 1 [10] (?_) ?_
  ·refine hlp 2 (fun s4=>⟨[(0,eL true (AV.int .u64) p0),(3,.ref 0 0 s4.2.length),(4,vI s1.1),(5,vI s4.1)],[oR true 3 (fun x:(Int × Int × Int)=>AV.agg [vI x.1,vI x.2.1,vI x.2.2]) s4.2],56⟩) (fun v=>(.exit 2,⟨[(0,eL true (AV.int .u64) p0),(3,.ref 0 0 v.length),(4,vI s1.1)],[oR true 3 (fun x:(Int × Int × Int)=>AV.agg [vI x.1,vI x.2.1,vI x.2.2]) v],56⟩)) (wz [0]) (fun s4=>?_) fun x27=>?_
   ·refine hop 2 (fun _=>Qp (enc:=(AV.int .u64)) (l:=p0) (fl:=true) kr gE) <| hbr 1 [16] (?_) ?_
    ·refine hlp 4 (fun s7=>⟨[(0,eL true (AV.int .u64) p0),(3,.ref 0 0 s7.2.length),(4,vI s1.1),(5,vI s4.1),(6,vI s7.1)],[oR true 3 (fun x:(Int × Int × Int)=>AV.agg [vI x.1,vI x.2.1,vI x.2.2]) s7.2],56⟩) (fun v=>(.exit 4,⟨[(0,eL true (AV.int .u64) p0),(3,.ref 0 0 v.length),(4,vI s1.1),(5,vI s4.1)],[oR true 3 (fun x:(Int × Int × Int)=>AV.agg [vI x.1,vI x.2.1,vI x.2.2]) v],56⟩)) (wz [0]) (fun s7=>?_) fun x25=>?_
     ·refine hop 2 (fun _=>Qp (enc:=(AV.int .u64)) (l:=p0) (fl:=true) kr gE) <| hbr 1 [24] (?_) ?_
      ·refine hbd fun a10 q11=>hop 3 (fun _=>Q7 (enc:=(AV.int .u64)) (l:=p0) (n:=s4.1) (fl:=true) (w:=1) (a:=a10) kr kr gE q11) <| hcl 2 [] (g_ref31_In_ok a10 s1.1) fun x12 _=>hbr 1 [32,33] (?_) ?_
       ·refine hop 2 (fun _=>Q7 (enc:=(AV.int .u64)) (l:=p0) (n:=s4.1) (fl:=true) (w:=1) (a:=a10) kr kr gE q11) <| hcl 2 [] (g_ref31_In_ok a10 s7.1) fun x16 _=>hbr 2 [39,40,41] (?_) ?_
        ·refine hcl 3 [] (Qcc p0 s1.1 s7.1) fun x20 _=>hbr 2 [46,47] (?_) ?_
         ·refine hop 6 (fun _=>sgL false [] [] true gE) <| hoh 0 (fun _ _ h k=>Kb (enc:=(fun x:(Int × Int × Int)=>AV.agg [vI x.1,vI x.2.1,vI x.2.2])) (l:=s7.2) (m:=([(s1.1,s4.1,s7.1)]:(List (Int × Int × Int)))) (w:=3) (bytes:=24) (ob:=0) (nr:=true) (fl:=true) (nr':=true) (fl':=true) (b:=.ref 1 0 1) (rds:=[1]) false kr kr kr kr gE kr h k) <| hnx 4 (wz [2])
         refine hnx 4 (wz [0])
        refine hnx 10 (wz [0])
       refine hnx 18 (wz [0])
      refine hdx 1 (wz [0])
     refine hnx 3 (wz [0])
    refine hdx 1 (wz [0])
   refine hnx 3 (wz [0])
  refine hdx 1 (wz [0])
 refine hrt 3
theorem Qkh (p0:Int) (p1:(List (Int × Int))):Ct Tryd.prog 62 [vI p0,eL true (fun x:(Int × Int)=>AV.agg [vI x.1,vI x.2]) p1] (Kq p0 p1) (fun x=>.ref 0 0 x.length) (fun x=>[oR false 1 (eL true (AV.int .u64)) x]):=by
 refine hfn [] Tryd.func62 <| hlp 3 (fun s1=>⟨[(0,vI p0),(1,eL true (fun x:(Int × Int)=>AV.agg [vI x.1,vI x.2]) p1),(5,.ref 0 0 s1.2.length),(6,vI s1.1)],[oR false 1 (eL true (AV.int .u64)) s1.2],61⟩) (fun v=>(.exit 0,⟨[(5,.ref 0 0 v.length)],[oR false 1 (eL true (AV.int .u64)) v],61⟩)) (wk_trans (wk_gc (live:=[0,1,5,6]) (keep:=[]) gE) (wk_trans (wk_nil 5 1 true false gE) (wk_gc (live:=[0,1,5,6]) (keep:=[0]) kr))) (fun s1=>?_) fun x24=>?_
 ·refine hop 2 (fun _=>Qp (enc:=(fun x:(Int × Int)=>AV.agg [vI x.1,vI x.2])) (l:=p1) (fl:=true) kr gE) <| hoh 0 (fun _ _ h k=>Qi (k:=.i64) (k':=.i64) (a:=1) (b:=(zn p1)) kr gE h k) <| hbr 1 [15] (?_) ?_
  ·refine hoh 2 (fun _ _ h k=>mkL (enc:=(AV.int .u64)) (z:=(0:Int)) (z0:=.int .u64 0) (n:=p0) (m:=p0) (w:=1) (bytes:=8) [] true kr kr gE kr h k) <| hlp 2 (fun s4=>⟨[(0,vI p0),(1,eL true (fun x:(Int × Int)=>AV.agg [vI x.1,vI x.2]) p1),(5,.ref 0 0 s1.2.length),(6,vI s1.1),(7,.ref 1 0 s4.2.length),(8,vI s4.1)],[oR false 1 (eL true (AV.int .u64)) s1.2,oR true 1 (AV.int .u64) s4.2],61⟩) (fun v=>(.exit 2,⟨[(0,vI p0),(1,eL true (fun x:(Int × Int)=>AV.agg [vI x.1,vI x.2]) p1),(5,.ref 0 0 s1.2.length),(6,vI s1.1),(7,.ref 1 0 v.length)],[oR false 1 (eL true (AV.int .u64)) s1.2,oR true 1 (AV.int .u64) v],61⟩)) (wz [0,1]) (fun s4=>?_) fun x18=>?_
   ·refine hop 2 (fun _=>Qp (enc:=(fun x:(Int × Int)=>AV.agg [vI x.1,vI x.2])) (l:=p1) (fl:=true) kr gE) <| hbr 1 [23] (?_) ?_
    ·refine hbd fun a7 q8=>hop 4 (fun _=>Q7 (enc:=(fun x:(Int × Int)=>AV.agg [vI x.1,vI x.2])) (l:=p1) (n:=s4.1) (fl:=true) (w:=2) (a:=a7) kr kr gE q8) <| hop 4 (fun _=>Q7 (enc:=(fun x:(Int × Int)=>AV.agg [vI x.1,vI x.2])) (l:=p1) (n:=s4.1) (fl:=true) (w:=2) (a:=a7) kr kr gE q8) <| hoh 6 (fun _ _ h k=>Xh (k:=.i64) (k':=.i64) (a:=s1.1) (b:=s4.1) kr gE h k) <| hbr 2 [40] (?_) ?_
     ·refine hbd fun a11 q12=>hop 10 (fun _=>Qw (enc:=(AV.int .u64)) (l:=s4.2) (n:=a7.1) (w:=1) (ob:=1) (ro:=false) (nr:=true) (fl:=true) (a:=a11) kr kr gE q12) <| hop 0 (fun _=>Z5 (enc:=(AV.int .u64)) (l:=s4.2) (n:=a7.1) (w:=1) (ob:=1) (c:=0) (bx:=false) (ro:=false) (nr:=true) (fl:=true) (a:=a11) kr kr q12 gE) <| hoh 1 (fun _ _ h k=>Qi (k:=.u64) (k':=.i64) (a:=1) (b:=a7.2) kr gE h k) <| hop 1 (fun _=>Qw (enc:=(AV.int .u64)) (l:=s4.2) (n:=a7.1) (w:=1) (ob:=1) (ro:=false) (nr:=true) (fl:=true) (a:=a11) kr kr gE q12) <| hop 0 (fun _=>X3 (enc:=(AV.int .u64)) (l:=s4.2) (n:=a7.1) (ob:=1) (w:=1) (bx:=false) (nr:=true) (fl:=true) (c:=0) (a:=a11) (a':=zv (zb a11 ||| zb (zv (1*2^min (zt a7.2) (IntKind.bits .u64)))).toNat) (v:=.int .u64 (zv (zb a11 ||| zb (zv (1*2^min (zt a7.2) (IntKind.bits .u64)))).toNat)) false kr kr q12 kr kr kr gE kr) <| hkl 0 [7,43,45] (ls s4.2 (zt a7.1) (zv (zb a11 ||| zb (zv (1*2^min (zt a7.2) (IntKind.bits .u64)))).toNat)) <| hnx 3 (wz [0,1])
     refine hbd fun a14 q15=>hop 6 (fun _=>Qw (enc:=(AV.int .u64)) (l:=s4.2) (n:=a7.2) (w:=1) (ob:=1) (ro:=false) (nr:=true) (fl:=true) (a:=a14) kr kr gE q15) <| hop 0 (fun _=>Z5 (enc:=(AV.int .u64)) (l:=s4.2) (n:=a7.2) (w:=1) (ob:=1) (c:=0) (bx:=false) (ro:=false) (nr:=true) (fl:=true) (a:=a14) kr kr q15 gE) <| hoh 1 (fun _ _ h k=>Qi (k:=.u64) (k':=.i64) (a:=1) (b:=a7.1) kr gE h k) <| hop 1 (fun _=>Qw (enc:=(AV.int .u64)) (l:=s4.2) (n:=a7.2) (w:=1) (ob:=1) (ro:=false) (nr:=true) (fl:=true) (a:=a14) kr kr gE q15) <| hop 0 (fun _=>X3 (enc:=(AV.int .u64)) (l:=s4.2) (n:=a7.2) (ob:=1) (w:=1) (bx:=false) (nr:=true) (fl:=true) (c:=0) (a:=a14) (a':=zv (zb a14 ||| zb (zv (1*2^min (zt a7.1) (IntKind.bits .u64)))).toNat) (v:=.int .u64 (zv (zb a14 ||| zb (zv (1*2^min (zt a7.1) (IntKind.bits .u64)))).toNat)) false kr kr q15 kr kr kr gE kr) <| hkl 0 [7,43,45] (ls s4.2 (zt a7.2) (zv (zb a14 ||| zb (zv (1*2^min (zt a7.1) (IntKind.bits .u64)))).toNat)) <| hnx 3 (wz [0,1])
    refine hdx 1 (wz [0,1])
   refine hcl 2 [F (AV.int .u64) x18] (g_ref31_Right_ok x18 p0) fun x19 _=>hbr 0 [55] (?_) ?_
   ·refine hbs 3 [.lst true] false [F (AV.int .u64) x18] <| hoh 0 (fun _ _ h k=>Kb (enc:=(eL true (AV.int .u64))) (l:=s1.2) (m:=([x18]:(List (List Int)))) (w:=1) (bytes:=24) (ob:=0) (nr:=true) (fl:=false) (nr':=true) (fl':=false) (b:=.ref 2 0 1) (rds:=[2]) false kr kr kr kr gE kr h k) <| hnx 4 (wz [3])
   refine hnx 4 (wz [0])
  refine hdx 1 (wz [0])
 refine hrt 3
theorem g_ref31_Before_ok (p0:(List Int)) (p1:(List Int)):Ct Tryd.prog 63 [eL true (AV.int .u64) p0,eL true (AV.int .u64) p1] (Qaw p0 p1) (fun x=>vB x) (fun x=>[]):=by
 refine hfn [] Tryd.func63 <| hlp 2 (fun s1=>⟨[(0,eL true (AV.int .u64) p0),(1,eL true (AV.int .u64) p1),(5,vI s1)],[],30⟩) (fun x=>match x with | .inl v=>(.ret,⟨[(4,vB v)],[],30⟩) | .inr v=>(.exit 0,⟨[],[],30⟩)) (wz []) (fun s1=>?_) (hsm (fun x11=>?_) (fun x12=>?_))
 ·refine hop 2 (fun _=>Qp (enc:=(AV.int .u64)) (l:=p0) (fl:=true) kr gE) <| hbr 1 [9] (?_) ?_
  ·refine hbd fun a4 q5=>hop 4 (fun _=>Q7 (enc:=(AV.int .u64)) (l:=p0) (n:=s1) (fl:=true) (w:=1) (a:=a4) kr kr gE q5) <| hbd fun a6 q7=>hop 3 (fun _=>Q7 (enc:=(AV.int .u64)) (l:=p1) (n:=s1) (fl:=true) (w:=1) (a:=a6) kr kr gE q7) <| hbr 2 [20] (?_) ?_
   ·refine hop 4 (fun _=>Q7 (enc:=(AV.int .u64)) (l:=p0) (n:=s1) (fl:=true) (w:=1) (a:=a4) kr kr gE q5) <| hop 3 (fun _=>Q7 (enc:=(AV.int .u64)) (l:=p1) (n:=s1) (fl:=true) (w:=1) (a:=a6) kr kr gE q7) <| hdx 3 (wz [])
   refine hnx 4 (wz [])
  refine hdx 1 (wz [])
 ·refine hrt 0
 refine hrt 2
end
section
attribute [local irreducible] RW WP
noncomputable abbrev Qik (x1:(List (Int × Int × Int))):AObj:=oR true 3 (fun x:(Int × Int × Int)=>AV.agg [vI x.1,vI x.2.1,vI x.2.2]) x1
noncomputable abbrev Qii (x5:(List (List Int))):AObj:=oR false 1 (eL true (AV.int .u64)) x5
theorem g_ref31_Members_ok (p0:(List Int)):Ct Tryd.prog 39 [eL true (AV.int .u64) p0] (Jx p0) (fun x=>.ref 0 0 x.length) (fun x=>[oR false 1 (eL true (AV.int .u64)) x]):=by
 refine hfn [] Tryd.func39 <| hcl 2 [] (g_ref31_Colliders_ok p0) fun x1 _=>hop 3 (fun _=>Qp (enc:=(AV.int .u64)) (l:=p0) (fl:=true) kr gE) <| hcl 1 [] (g_ref31_Skeleton_ok p0) fun x3 _=>hcl 0 [F (fun x:(Int × Int)=>AV.agg [vI x.1,vI x.2]) x3] (Qkh (zn p0) x3) fun x5 _=>hlp 2 (fun s7=>⟨[(3,.ref 0 0 x1.length),(4,.ref 1 0 s7.2.length),(5,.ref 2 0 x5.length),(6,vI s7.1)],[(Qik x1),oR false 1 (eL true (AV.int .u64)) s7.2,(Qii x5)],75⟩) (fun v=>(.exit 0,⟨[(4,.ref 0 0 v.length)],[oR false 1 (eL true (AV.int .u64)) v],75⟩)) (wk_trans (wk_gc (live:=[3,4,5,6]) (keep:=[0,2]) gE) (wk_trans (wk_nil 4 1 true false gE) (wk_gc (live:=[3,4,5,6]) (keep:=[0,2,1]) kr))) (fun s7=>?_) fun x43=>?_
 ·refine hbr 4 [19] (?_) ?_
  ·refine hbd fun a10 q11=>hop 3 (fun _=>Qw (enc:=(eL true (AV.int .u64))) (l:=x5) (n:=s7.1) (w:=1) (ob:=2) (ro:=false) (nr:=true) (fl:=false) (a:=a10) kr kr gE q11) <| hop 0 (fun _=>Z5 (enc:=(eL true (AV.int .u64))) (l:=x5) (n:=s7.1) (w:=1) (ob:=2) (c:=0) (bx:=false) (ro:=false) (nr:=true) (fl:=false) (a:=a10) kr kr q11 gE) <| hcl 0 [] (g_ref31_Colliders_ok a10) fun x12 _=>hcl 1 [F (fun x:(Int × Int × Int)=>AV.agg [vI x.1,vI x.2.1,vI x.2.2]) x12,F (fun x:(Int × Int × Int)=>AV.agg [vI x.1,vI x.2.1,vI x.2.2]) x1] (Qba x12 x1) fun x14 _=>hbr 1 [29] (hwk 1 (wl [3,4,5,6] [0,1,2]) <| hnx 4 (wz [0,1,2])) <| ?_
   refine hlp 4 (fun s18=>⟨[(3,.ref 0 0 x1.length),(4,.ref 1 0 s7.2.length),(5,.ref 2 0 x5.length),(6,vI s7.1),(7,vI s18)],[(Qik x1),oR false 1 (eL true (AV.int .u64)) s7.2,(Qii x5)],75⟩) (fun v=>(.exit 2,⟨[(3,.ref 0 0 x1.length),(4,.ref 1 0 s7.2.length),(5,.ref 2 0 x5.length),(6,vI s7.1),(7,vI v)],[(Qik x1),oR false 1 (eL true (AV.int .u64)) s7.2,(Qii x5)],75⟩)) (wz [0,1,2]) (fun s18=>?_) fun x28=>?_
   ·refine hbr 4 [33,34] (?_) ?_
    ·refine hop 2 (fun _=>Qw (enc:=(eL true (AV.int .u64))) (l:=x5) (n:=s7.1) (w:=1) (ob:=2) (ro:=false) (nr:=true) (fl:=false) (a:=a10) kr kr gE q11) <| hop 0 (fun _=>Z5 (enc:=(eL true (AV.int .u64))) (l:=x5) (n:=s7.1) (w:=1) (ob:=2) (c:=0) (bx:=false) (ro:=false) (nr:=true) (fl:=false) (a:=a10) kr kr q11 gE) <| hbd fun a21 q22=>hop 3 (fun _=>Qw (enc:=(eL true (AV.int .u64))) (l:=s7.2) (n:=zw (s18 - 1)) (w:=1) (ob:=1) (ro:=false) (nr:=true) (fl:=false) (a:=a21) kr kr gE q22) <| hop 0 (fun _=>Z5 (enc:=(eL true (AV.int .u64))) (l:=s7.2) (n:=zw (s18 - 1)) (w:=1) (ob:=1) (c:=0) (bx:=false) (ro:=false) (nr:=true) (fl:=false) (a:=a21) kr kr q22 gE) <| hcl 0 [] (g_ref31_Before_ok a10 a21) fun x23 _=>hbr 1 [44,45] (hnx 4 (wz [0,1,2])) <| ?_
     refine hdx 1 (wz [0,1,2])
    refine hdx 12 (wz [0,1,2])
   refine hop 1 (fun _=>sgL false [] [.lst true] false gE) <| hoh 0 (fun _ _ h k=>Kb (enc:=(eL true (AV.int .u64))) (l:=s7.2) (m:=([[]]:(List (List Int)))) (w:=1) (bytes:=24) (ob:=1) (nr:=true) (fl:=false) (nr':=true) (fl':=false) (b:=.ref 3 0 1) (rds:=[3]) false kr kr kr kr gE kr h k) <| hlp 5 (fun s29=>⟨[(3,.ref 0 0 x1.length),(4,.ref 1 0 s29.2.length),(5,.ref 2 0 x5.length),(6,vI s7.1),(7,vI x28),(8,vI s29.1)],[(Qik x1),oR false 1 (eL true (AV.int .u64)) s29.2,(Qii x5)],75⟩) (fun v=>(.exit 4,⟨[(3,.ref 0 0 x1.length),(4,.ref 1 0 v.length),(5,.ref 2 0 x5.length),(6,vI s7.1),(7,vI x28)],[(Qik x1),oR false 1 (eL true (AV.int .u64)) v,(Qii x5)],75⟩)) (wz [0,4,2]) (fun s29=>?_) fun x38=>?_
   ·refine hbr 3 [56] (?_) ?_
    ·refine hbd fun a32 q33=>hop 6 (fun _=>Qw (enc:=(eL true (AV.int .u64))) (l:=s29.2) (n:=zw (s29.1 - 1)) (w:=1) (ob:=1) (ro:=false) (nr:=true) (fl:=false) (a:=a32) kr kr gE q33) <| hop 0 (fun _=>Z5 (enc:=(eL true (AV.int .u64))) (l:=s29.2) (n:=zw (s29.1 - 1)) (w:=1) (ob:=1) (c:=0) (bx:=false) (ro:=false) (nr:=true) (fl:=false) (a:=a32) kr kr q33 gE) <| hbd fun a34 q35=>hop 0 (fun _=>Qw (enc:=(eL true (AV.int .u64))) (l:=s29.2) (n:=s29.1) (w:=1) (ob:=1) (ro:=false) (nr:=true) (fl:=false) (a:=a34) kr kr gE q35) <| hop 0 (fun _=>X3 (enc:=(eL true (AV.int .u64))) (l:=s29.2) (n:=s29.1) (ob:=1) (w:=1) (bx:=false) (nr:=true) (fl:=false) (c:=0) (a:=a34) (a':=a32) (v:=eL true (AV.int .u64) a32) false kr kr q35 kr kr kr gE kr) <| hkl 0 [4,59,61] (ls s29.2 (zt s29.1) a32) <| hnx 3 (wz [0,1,2])
    refine hdx 1 (wz [0,1,2])
   refine hop 4 (fun _=>Qw (enc:=(eL true (AV.int .u64))) (l:=x5) (n:=s7.1) (w:=1) (ob:=2) (ro:=false) (nr:=true) (fl:=false) (a:=a10) kr kr gE q11) <| hop 0 (fun _=>Z5 (enc:=(eL true (AV.int .u64))) (l:=x5) (n:=s7.1) (w:=1) (ob:=2) (c:=0) (bx:=false) (ro:=false) (nr:=true) (fl:=false) (a:=a10) kr kr q11 gE) <| hbd fun a39 q40=>hop 0 (fun _=>Qw (enc:=(eL true (AV.int .u64))) (l:=x38) (n:=x28) (w:=1) (ob:=1) (ro:=false) (nr:=true) (fl:=false) (a:=a39) kr kr gE q40) <| hop 0 (fun _=>X3 (enc:=(eL true (AV.int .u64))) (l:=x38) (n:=x28) (ob:=1) (w:=1) (bx:=false) (nr:=true) (fl:=false) (c:=0) (a:=a39) (a':=a10) (v:=eL true (AV.int .u64) a10) false kr kr q40 kr kr kr gE kr) <| hkl 0 [4,67] (ls x38 (zt x28) a10) <| hnx 3 (wz [0,1,2])
  refine hdx 1 (wz [1])
 refine hrt 3
theorem g_law31_EqualClasses_1_ok (p0:(List Int)) (p1:(List Int)):Ct Tryd.prog 40 [eL true (AV.int .u64) p0,eL true (AV.int .u64) p1] (J2 p0 p1) (fun x=>vB x) (fun x=>[]):=by
 refine hfn [] Tryd.func40 <| hcl 3 [] (g_slices_Equal_uint_uint_ok p0 p1) fun x1 _=>hrt 2
noncomputable abbrev Qfo:AObj:=oX true false 3 (.agg [vI 0,.nils,.nils])
noncomputable abbrev Qid (x1:(List (List Int))):AObj:=oR false 1 (eL true (AV.int .u64)) x1
noncomputable abbrev Qi0 (p0:(List Int)) (x1:(List (List Int))):List (Nat×AV):=[(0,eL true (AV.int .u64) p0),(2,.ptr 0 0 0),(3,.ref 1 0 x1.length),(4,.ptr 2 0 0)]
theorem Qjo (p0:(List Int)):Ct Tryd.prog 41 [eL true (AV.int .u64) p0] (Vx p0) (fun x=>.agg [vI x.N,.ref 0 0 x.Arrows.length,.ref 1 0 x.Lines.length]) (fun x=>[oR true 2 (fun x:(Int × Int)=>AV.agg [vI x.1,vI x.2]) x.Arrows,oR true 2 (fun x:(Int × Int)=>AV.agg [vI x.1,vI x.2]) x.Lines]):=by
 refine hfn [] Tryd.func41 <| hop 0 (fun _=>sgL false [] [] false gE) <| hcl 1 [] (g_ref31_Members_ok p0) fun x1 _=>hop 2 (fun _=>Qp (enc:=(AV.int .u64)) (l:=p0) (fl:=true) kr gE) <| hop 1 (fun _=>sgL false [] [] false gE) <| hlp 2 (fun s3=>⟨(Qi0 p0 x1)++[(5,vI s3.1)],[Qfo,(Qid x1),oX false false 3 (.agg [vI (zn p0),.ref 3 0 s3.2.1.length,.ref 4 0 s3.2.2.length]),oR true 2 (fun x:(Int × Int)=>AV.agg [vI x.1,vI x.2]) s3.2.1,oR true 2 (fun x:(Int × Int)=>AV.agg [vI x.1,vI x.2]) s3.2.2],87⟩) (fun v=>(.exit 0,⟨[(2,.ptr 0 0 0),(4,.ptr 1 0 0)],[Qfo,oX false false 3 (.agg [vI (zn p0),.ref 2 0 v.1.length,.ref 3 0 v.2.length]),oR true 2 (fun x:(Int × Int)=>AV.agg [vI x.1,vI x.2]) v.1,oR true 2 (fun x:(Int × Int)=>AV.agg [vI x.1,vI x.2]) v.2],87⟩)) (wk_trans (wk_gc (live:=[0,2,3,4,5]) (keep:=[0,1,2]) gE) (wk_trans (Q8 2 0 1 2 true true gE) (wk_trans (Q8 2 0 2 2 true true gE) (wk_gc (live:=[0,2,3,4,5]) (keep:=[0,1,2,3,4]) kr)))) (fun s3=>?_) fun x49=>?_
 ·refine hop 2 (fun _=>Qp (enc:=(AV.int .u64)) (l:=p0) (fl:=true) kr gE) <| hbr 1 [18] (?_) ?_
  ·refine hlp 2 (fun s6=>⟨(Qi0 p0 x1)++[(5,vI s3.1),(6,vI s6.1)],[Qfo,(Qid x1),oX false false 3 (.agg [vI (zn p0),.ref 3 0 s6.2.1.length,.ref 4 0 s6.2.2.length]),oR true 2 (fun x:(Int × Int)=>AV.agg [vI x.1,vI x.2]) s6.2.1,oR true 2 (fun x:(Int × Int)=>AV.agg [vI x.1,vI x.2]) s6.2.2],87⟩) (fun v=>(.exit 2,⟨(Qi0 p0 x1)++[(5,vI s3.1)],[Qfo,(Qid x1),oX false false 3 (.agg [vI (zn p0),.ref 3 0 v.1.length,.ref 4 0 v.2.length]),oR true 2 (fun x:(Int × Int)=>AV.agg [vI x.1,vI x.2]) v.1,oR true 2 (fun x:(Int × Int)=>AV.agg [vI x.1,vI x.2]) v.2],87⟩)) (wz [0,1,2,3,4]) (fun s6=>?_) fun x47=>?_
   ·refine hop 2 (fun _=>Qp (enc:=(AV.int .u64)) (l:=p0) (fl:=true) kr gE) <| hbr 1 [24] (?_) ?_
    ·refine hcl 4 [] (Qcc p0 s3.1 s6.1) fun x9 _=>hbr 1 [31] (hwk 1 (wl [0,2,3,4,5,6] [0,1,2,3,4]) <| hnx 4 (wz [0,1,2,3,4])) <| ?_
     refine hlp 4 (fun s13=>⟨(Qi0 p0 x1)++[(5,vI s3.1),(6,vI s6.1),(7,vB s13.1),(8,vB s13.2.1),(9,vI s13.2.2)],[Qfo,(Qid x1),oX false false 3 (.agg [vI (zn p0),.ref 3 0 s6.2.1.length,.ref 4 0 s6.2.2.length]),oR true 2 (fun x:(Int × Int)=>AV.agg [vI x.1,vI x.2]) s6.2.1,oR true 2 (fun x:(Int × Int)=>AV.agg [vI x.1,vI x.2]) s6.2.2],87⟩) (fun v=>(.exit 4,⟨(Qi0 p0 x1)++[(5,vI s3.1),(6,vI s6.1),(7,vB v.1),(8,vB v.2)],[Qfo,(Qid x1),oX false false 3 (.agg [vI (zn p0),.ref 3 0 s6.2.1.length,.ref 4 0 s6.2.2.length]),oR true 2 (fun x:(Int × Int)=>AV.agg [vI x.1,vI x.2]) s6.2.1,oR true 2 (fun x:(Int × Int)=>AV.agg [vI x.1,vI x.2]) s6.2.2],87⟩)) (wz [0,1,2,3,4]) (fun s13=>?_) fun x39=>?_
     ·refine hbr 4 [35] (?_) ?_
      ·refine hbr 3 [7,38,39] (?_) ?_
       ·refine hbd fun a18 q19=>hop 2 (fun _=>Qw (enc:=(eL true (AV.int .u64))) (l:=x1) (n:=s13.2.2) (w:=1) (ob:=1) (ro:=false) (nr:=true) (fl:=false) (a:=a18) kr kr gE q19) <| hop 0 (fun _=>Z5 (enc:=(eL true (AV.int .u64))) (l:=x1) (n:=s13.2.2) (w:=1) (ob:=1) (c:=0) (bx:=false) (ro:=false) (nr:=true) (fl:=false) (a:=a18) kr kr q19 gE) <| hbd fun a20 q21=>hop 1 (fun _=>Q7 (enc:=(AV.int .u64)) (l:=a18) (n:=s6.1) (fl:=true) (w:=1) (a:=a20) kr kr gE q21) <| hcl 2 [] (g_ref31_In_ok a20 s3.1) fun x22 _=>hbr 4 [8,50,51] (?_) ?_
        ·refine hop 2 (fun _=>Qw (enc:=(eL true (AV.int .u64))) (l:=x1) (n:=s13.2.2) (w:=1) (ob:=1) (ro:=false) (nr:=true) (fl:=false) (a:=a18) kr kr gE q19) <| hop 0 (fun _=>Z5 (enc:=(eL true (AV.int .u64))) (l:=x1) (n:=s13.2.2) (w:=1) (ob:=1) (c:=0) (bx:=false) (ro:=false) (nr:=true) (fl:=false) (a:=a18) kr kr q19 gE) <| hbd fun a26 q27=>hop 1 (fun _=>Q7 (enc:=(AV.int .u64)) (l:=a18) (n:=s3.1) (fl:=true) (w:=1) (a:=a26) kr kr gE q27) <| hcl 2 [] (g_ref31_In_ok a26 s6.1) fun x28 _=>hnx 5 (wz [0,1,2,3,4])
        refine hnx 14 (wz [0,1,2,3,4])
       refine hbr 13 [8,50,51] (?_) ?_
       ·refine hbd fun a32 q33=>hop 2 (fun _=>Qw (enc:=(eL true (AV.int .u64))) (l:=x1) (n:=s13.2.2) (w:=1) (ob:=1) (ro:=false) (nr:=true) (fl:=false) (a:=a32) kr kr gE q33) <| hop 0 (fun _=>Z5 (enc:=(eL true (AV.int .u64))) (l:=x1) (n:=s13.2.2) (w:=1) (ob:=1) (c:=0) (bx:=false) (ro:=false) (nr:=true) (fl:=false) (a:=a32) kr kr q33 gE) <| hbd fun a34 q35=>hop 1 (fun _=>Q7 (enc:=(AV.int .u64)) (l:=a32) (n:=s3.1) (fl:=true) (w:=1) (a:=a34) kr kr gE q35) <| hcl 2 [] (g_ref31_In_ok a34 s6.1) fun x36 _=>hnx 5 (wz [0,1,2,3,4])
       refine hnx 14 (wz [0,1,2,3,4])
      refine hdx 1 (wz [0,1,2,3,4])
     refine hbr 1 [7,62] (?_) ?_
     ·refine hop 6 (fun _=>sgL false [] [] true gE) <| hoh 0 (fun _ _ h k=>Kb (enc:=(fun x:(Int × Int)=>AV.agg [vI x.1,vI x.2])) (l:=s6.2.1) (m:=([(s3.1,s6.1)]:(List (Int × Int)))) (w:=2) (bytes:=16) (ob:=3) (nr:=true) (fl:=true) (nr':=true) (fl':=true) (b:=.ref 5 0 1) (rds:=[5]) false kr kr kr kr gE kr h k) <| hnx 5 (wz [0,1,2,6,4])
     refine hbr 4 [72,73] (?_) ?_
     ·refine hbr 4 [76,77] (?_) ?_
      ·refine hop 6 (fun _=>sgL false [] [] true gE) <| hoh 0 (fun _ _ h k=>Kb (enc:=(fun x:(Int × Int)=>AV.agg [vI x.1,vI x.2])) (l:=s6.2.2) (m:=([(s3.1,s6.1)]:(List (Int × Int)))) (w:=2) (bytes:=16) (ob:=4) (nr:=true) (fl:=true) (nr':=true) (fl':=true) (b:=.ref 5 0 1) (rds:=[5]) false kr kr kr kr gE kr h k) <| hnx 5 (wz [0,1,2,3,6])
      refine hnx 4 (wz [0,1,2,3,4])
     refine hnx 8 (wz [0,1,2,3,4])
    refine hdx 1 (wz [0,1,2,3,4])
   refine hnx 3 (wz [0,1,2,3,4])
  refine hdx 1 (wz [0,2,3,4])
 refine hrt 3
theorem Jz (p0:(List (List Int))) (p1:(List (List Int))):Ct Tryd.prog 38 [eL false (eL true (AV.int .u64)) p0,eL false (eL true (AV.int .u64)) p1,.fn (.func 40) [] []] (Zh p0 p1) (fun x=>vB x) (fun x=>[]):=by
 refine hfn [] Tryd.func38 <| hop 2 (fun _=>Qp (enc:=(eL true (AV.int .u64))) (l:=p0) (fl:=false) kr gE) <| hop 1 (fun _=>Qp (enc:=(eL true (AV.int .u64))) (l:=p1) (fl:=false) kr gE) <| hbr 1 [14] (hrt 3) <| ?_
 refine hop 2 (fun _=>Qp (enc:=(eL true (AV.int .u64))) (l:=p0) (fl:=false) kr gE) <| hlp 1 (fun s3=>⟨[(1,eL false (eL true (AV.int .u64)) p1),(2,.fn (.func 40) [] []),(15,eL false (eL true (AV.int .u64)) p0),(16,vI (zn p0)),(17,vI s3)],[],32⟩) (fun x=>match x with | .inl v=>(.ret,⟨[(6,vB false)],[],32⟩) | .inr v=>(.exit 0,⟨[],[],32⟩)) (wz []) (fun s3=>?_) (hsm (fun x15=>?_) (fun x16=>?_))
 ·refine hbr 1 [18] (?_) ?_
  ·refine hbd fun a6 q7=>hop 2 (fun _=>Q7 (enc:=(eL true (AV.int .u64))) (l:=p0) (n:=s3) (fl:=false) (w:=1) (a:=a6) kr kr gE q7) <| hbd fun a8 q9=>hop 5 (fun _=>Q7 (enc:=(eL true (AV.int .u64))) (l:=p1) (n:=s3) (fl:=false) (w:=1) (a:=a8) kr kr gE q9) <| hcl 5 [] (g_law31_EqualClasses_1_ok a6 a8) fun x10 _=>hbr 1 [30] (hdx 2 (wz [])) <| ?_
   refine hnx 3 (wz [])
  refine hdx 1 (wz [])
 ·refine hrt 0
 refine hrt 2
theorem g_law31_EqualClasses_ok (p0:Qc) (p1:(List Int)):Ct Tryd.prog 9 [.agg [.int .u8 p0.N,.int .u8 p0.Order.1,.int .u8 p0.Order.2.1,.int .u8 p0.Order.2.2.1,.int .u8 p0.Order.2.2.2.1,.int .u8 p0.Order.2.2.2.2.1,.int .u8 p0.Order.2.2.2.2.2,.int .u16 p0.Edges],eL true (AV.int .u64) p1] (Kp p0 p1) (fun x=>vB x) (fun x=>[]):=by
 refine hfn [] Tryd.func9 <| hcl 4 [] (us:=[.agg [.int .u8 p0.N,.int .u8 p0.Order.1,.int .u8 p0.Order.2.1,.int .u8 p0.Order.2.2.1,.int .u8 p0.Order.2.2.2.1,.int .u8 p0.Order.2.2.2.2.1,.int .u8 p0.Order.2.2.2.2.2,.int .u16 p0.Edges],vI 5]) (rv:=fun x1=>eL true (AV.int .u64) x1) (ro:=fun x1=>[]) (fun x1 q2=>Qv.froz (Qa2 (Qc.mk p0.N (p0.Order.1,p0.Order.2.1,p0.Order.2.2.1,p0.Order.2.2.2.1,p0.Order.2.2.2.2.1,p0.Order.2.2.2.2.2) p0.Edges) 5 x1 q2) (Jw (w:=1) (bx:=false) (ro:=false) (enc:=(AV.int .u64)) (l:=x1) (fl:=true) rfl)) fun x1 _=>hcl 1 [] (us:=[eL true (AV.int .u64) p1]) (rv:=fun x3=>eL true (AV.int .u64) x3) (ro:=fun x3=>[]) (fun x3 q4=>Qv.froz (Qqb p1 x3 q4) (Jw (w:=1) (bx:=false) (ro:=false) (enc:=(AV.int .u64)) (l:=x3) (fl:=true) rfl)) fun x3 _=>hcl 1 [] (us:=[.agg [.int .u8 p0.N,.int .u8 p0.Order.1,.int .u8 p0.Order.2.1,.int .u8 p0.Order.2.2.1,.int .u8 p0.Order.2.2.2.1,.int .u8 p0.Order.2.2.2.2.1,.int .u8 p0.Order.2.2.2.2.2,.int .u16 p0.Edges],vI 6]) (rv:=fun x5=>eL true (AV.int .u64) x5) (ro:=fun x5=>[]) (fun x5 q6=>Qv.froz (Qa2 (Qc.mk p0.N (p0.Order.1,p0.Order.2.1,p0.Order.2.2.1,p0.Order.2.2.2.1,p0.Order.2.2.2.2.1,p0.Order.2.2.2.2.2) p0.Edges) 6 x5 q6) (Jw (w:=1) (bx:=false) (ro:=false) (enc:=(AV.int .u64)) (l:=x5) (fl:=true) rfl)) fun x5 _=>hlp 2 (fun s7=>⟨[(17,.agg [eL true (AV.int .u64) x1,eL true (AV.int .u64) x3,eL true (AV.int .u64) x5]),(18,vI s7)],[],109⟩) (fun x=>match x with | .inl v=>(.ret,⟨[(4,vB false)],[],109⟩) | .inr v=>(.exit 0,⟨[],[],109⟩)) (wz []) (fun s7=>?_) (hsm (fun x61=>?_) (fun x62=>?_))
 ·refine hbr 1 [19] (?_) ?_
  ·refine hbd fun a10 q11=>hop 1 (fun _=>Q5z (enc:=(eL true (AV.int .u64))) (l:=([x1,x3,x5]:(List (List Int)))) (n:=s7) (a:=a10) (w:=1) (g:=false) (v:=eL true (AV.int .u64) a10) kr (fun _=>rfl) kr q11 kr gE) <| hcl 2 [] (g_equal_Members_ok a10) fun x12 _=>hcl 6 [] (g_equal_Essential_ok a10) fun x14 _=>hop 3 (fun _=>sgL false [] [] false gE) <| hcl 3 [] (g_ref31_Right_ok a10 6) fun x16 _=>hbr 2 [54,51] (?_) ?_
   ·refine hbr 5 [57,58] (hdx 15 (wz [])) <| ?_
    refine hbr 4 [60,61,62] (hdx 11 (wz [])) <| ?_
    refine hbr 4 [64,65,66] (hdx 7 (wz [])) <| ?_
    refine hcl 2 [F (fun x:(Int × Int)=>AV.agg [vI x.1,vI x.2]) x14.1.Arrows,F (fun x:(Int × Int)=>AV.agg [vI x.1,vI x.2]) x14.1.Lines] (us:=[.agg [vI x14.1.N,eL true (fun x:(Int × Int)=>AV.agg [vI x.1,vI x.2]) x14.1.Arrows,eL true (fun x:(Int × Int)=>AV.agg [vI x.1,vI x.2]) x14.1.Lines],.agg [vI 0,.nils,.nils]]) (rv:=fun x26=>vB x26) (ro:=fun x26=>[]) (fun x26 q27=>Qv.args [[.keep,.keep,.keep],[.keep,.lst true,.lst true]] (Yv x14.1 (Ql.mk 0 [] []) x26 q27)) fun x26 _=>hbr 2 [70,71] (hdx 2 (wz [])) <| ?_
    refine hnx 3 (wz [])
   refine hop 2 (fun _=>Qp (enc:=(AV.int .u64)) (l:=a10) (fl:=true) kr gE) <| hbr 2 [75,72] (?_) ?_
   ·refine hbr 6 [78,79] (hdx 29 (wz [])) <| ?_
    refine hbr 4 [81,82,83] (hdx 25 (wz [])) <| ?_
    refine hbr 4 [85,86,87] (hdx 21 (wz [])) <| ?_
    refine hop 3 (fun _=>Qp (enc:=(AV.int .u64)) (l:=a10) (fl:=true) kr gE) <| hbr 3 [92,93,94] (hdx 14 (wz [])) <| ?_
    refine hcl 8 [] (us:=[eL true (AV.int .u64) a10]) (rv:=fun x40=>eL true (fun x:(Int × Int)=>AV.agg [vI x.1,vI x.2]) x40) (ro:=fun x40=>[]) (fun x40 q41=>Qv.froz (g_ref31_Skeleton_ok a10 x40 q41) (Jw (w:=2) (bx:=false) (ro:=false) (enc:=(fun x:(Int × Int)=>AV.agg [vI x.1,vI x.2])) (l:=x40) (fl:=true) rfl)) fun x40 _=>hop 0 (fun _=>Qp (enc:=(fun x:(Int × Int)=>AV.agg [vI x.1,vI x.2])) (l:=x40) (fl:=true) kr gE) <| hbr 2 [105,106] (hdx 2 (wz [])) <| ?_
    refine hnx 3 (wz [])
   refine hbr 5 [32,33] (hdx 19 (wz [])) <| ?_
   refine hbr 4 [35,36,37] (hdx 15 (wz [])) <| ?_
   refine hcl 2 [] (us:=[eL true (AV.int .u64) a10]) (rv:=fun x48=>eL false (eL true (AV.int .u64)) x48) (ro:=fun x48=>[]) (fun x48 q49=>Qv.froz (g_ref31_Members_ok a10 x48 q49) (Jw (w:=1) (bx:=false) (ro:=false) (enc:=(eL true (AV.int .u64))) (l:=x48) (fl:=false) rfl)) fun x48 _=>hcl 0 [F (eL true (AV.int .u64)) x12.1] (Jz x12.1 x48) fun x50 _=>hbr 3 [42,43,44] (hdx 8 (wz [])) <| ?_
   refine hcl 2 [] (us:=[eL true (AV.int .u64) a10]) (rv:=fun x54=>.agg [vI x54.N,eL true (fun x:(Int × Int)=>AV.agg [vI x.1,vI x.2]) x54.Arrows,eL true (fun x:(Int × Int)=>AV.agg [vI x.1,vI x.2]) x54.Lines]) (ro:=fun x54=>[]) (fun x54 q55=>Qv.froz (Qjo a10 x54 q55) (Qz8 (Qj4 rfl (Qj4 (Jw (w:=2) (bx:=false) (ro:=false) (enc:=(fun x:(Int × Int)=>AV.agg [vI x.1,vI x.2])) (l:=x54.Arrows) (fl:=true) rfl) (Qj4 (Jw (w:=2) (bx:=false) (ro:=false) (enc:=(fun x:(Int × Int)=>AV.agg [vI x.1,vI x.2])) (l:=x54.Lines) (fl:=true) rfl) Qxw (by rfl)) (by rfl)) (by rfl)))) fun x54 _=>hcl 0 [F (fun x:(Int × Int)=>AV.agg [vI x.1,vI x.2]) x14.1.Arrows,F (fun x:(Int × Int)=>AV.agg [vI x.1,vI x.2]) x14.1.Lines] (Yv x14.1 x54) fun x56 _=>hbr 2 [49,50] (hdx 2 (wz [])) <| ?_
   refine hnx 3 (wz [])
  refine hdx 1 (wz [])
 ·refine hrt 0
 refine hcl 0 [] (Qnv ) fun x63 _=>hrt 2
end
end Go.Ab
namespace Go.Ab
open Go
set_option maxRecDepth 100000
set_option maxHeartbeats 400000
def msk:Nat → (Nat → Bool)→Nat
 | 0,_=>0
 | n+1,p=>msk n p ||| (if p n then 2^n else 0)
theorem Z7 (n:Nat) (p:Nat → Bool) (i:Nat):(msk n p).testBit i=(decide (i < n) && p i):=by
 induction n with
 | zero=>simp [msk]
 | succ n ih =>
  unfold msk
  rw [Nat.testBit_or,ih]
  by_cases h:i=n
  ·subst h
   cases hp:p i <;> simp [hp]
  ·have e:decide (i < n+1)=decide (i < n):=by by_cases h2:i < n <;> simp [h2] <;> omega
   rw [e]
   cases hp:p n
   ·simp
   ·simp only [if_true,Nat.testBit_two_pow]
    have e2:¬ n=i:=fun e=>h e.symm
    simp [e2]
theorem msk_lt (n:Nat) (p:Nat → Bool):msk n p < 2^n:=by
 induction n with
 | zero=>simp [msk]
 | succ n ih =>
  unfold msk
  refine Nat.or_lt_two_pow (Nat.lt_of_lt_of_le ih (Nat.pow_le_pow_right (by omega) (by omega))) ?_
  split
  ·exact Nat.pow_lt_pow_right (by omega) (by omega)
  ·exact Nat.two_pow_pos _
theorem Qkq {n:Nat} {p:Nat → Bool} {a:Nat} (ha:a < 2^n) (h:∀i,i < n→a.testBit i=p i):a=msk n p:=by
 apply Nat.eq_of_testBit_eq
 intro i
 rw [Z7]
 by_cases hi:i < n
 ·simp [hi,h i hi]
 ·rw [Nat.testBit_lt_two_pow (Nat.lt_of_lt_of_le ha (Nat.pow_le_pow_right (by omega) (by omega)))]; simp [hi]
theorem Qak {n:Nat} {p q:Nat → Bool} (h:∀i,i < n→p i=q i):msk n p=msk n q :=
 Qkq (msk_lt n p) fun i hi=>by rw [Z7,h i hi]; simp [hi]
theorem Q38 {n a:Nat} (hn:n≤10) (ha:a < 2^n):a < 1024:=Nat.lt_of_lt_of_le ha (Nat.pow_le_pow_right (n:=2) (by omega) hn)
theorem Q29 {n a:Nat} (hn:n≤10) (ha:a < 2^n):a < 18446744073709551616:=by have:=Q38 hn ha; omega
theorem Qfd {n:Nat} (h:n < 18446744073709551616):zv (n:Int)=(n:Int):=by
 simp [IntKind.wrap,IntKind.bits,IntKind.signed]; omega
theorem Qgf {a:Nat} (h:a < 18446744073709551616):(zb (a:Int)).toNat = a:=by
 show (BitVec.ofInt IntKind.u64.bits (a:Int)).toNat = a
 rw [BitVec.ofInt_natCast,BitVec.toNat_ofNat]
 exact Nat.mod_eq_of_lt h
theorem Qnp {a k:Nat}:Int.fdiv (a:Int) ((2:Int)^k)=((a / 2^k:Nat):Int):=by
 rw [Int.fdiv_eq_ediv_of_nonneg _ (by exact_mod_cast Nat.zero_le (2^k))]
 simp
theorem Qxu {a j:Nat} (h:a < 18446744073709551616):(zb (a:Int)).getLsbD j=a.testBit j:=by unfold BitVec.getLsbD; rw [Qgf h]
theorem Qp7 {v:Nat} (hv:v < 64):zv (1*2^min (Int.toNat (v:Int)) (IntKind.bits .u64))=((2^v:Nat):Int):=by
 have hb:IntKind.bits .u64=64:=rfl
 have e0:min (Int.toNat (v:Int)) (IntKind.bits .u64)=v:=by rw [hb,Int.toNat_natCast]; omega
 have hp:2^v < 18446744073709551616:=Nat.pow_lt_pow_right (n:=64) (by omega) hv
 rw [e0,show (1:Int)*2^v=((2^v:Nat):Int) by simp,Qfd hp]
theorem Qn7 {v:Nat} (hv:v < 64):2^v < 18446744073709551616:=Nat.pow_lt_pow_right (n:=64) (by omega) hv
theorem Q4t {n:Nat} {p q:Nat → Bool} {a b:Nat} (hn:n≤64) (ha:a < 2^n) (hb:b < 18446744073709551616) (hp:∀i,i < n→a.testBit i=p i) (hq:∀i,i < n→b.testBit i=q i) :
  zv (zb (a:Int) &&& ~~~ zb (b:Int)).toNat = ((msk n fun i=>p i && !q i:Nat):Int):=by
 have ha':a < 18446744073709551616:=Nat.lt_of_lt_of_le ha (Nat.pow_le_pow_right (n:=2) (by omega) hn)
 have h1:(zb (a:Int) &&& ~~~ zb (b:Int)).toNat < 18446744073709551616:=BitVec.isLt _
 rw [Qfd h1]
 congr 1
 refine Qkq ?_ fun i hi=>?_
 ·refine Nat.lt_of_le_of_lt ?_ ha
  rw [BitVec.toNat_and,Qgf ha']
  exact Nat.and_le_left
 ·have:i < 64:=by omega
  have e:(zb (a:Int) &&& ~~~ zb (b:Int)).toNat.testBit i=(zb (a:Int) &&& ~~~ zb (b:Int)).getLsbD i:=rfl
  rw [e,BitVec.getLsbD_and,BitVec.getLsbD_not,Qxu ha',Qxu hb,hp i hi,hq i hi]
  have h64:i < IntKind.bits .u64:=this
  simp [h64]
theorem Q5r {n:Nat} {p q:Nat → Bool} {a b:Nat} (hn:n≤64) (ha:a < 2^n) (hb:b < 2^n) (hp:∀i,i < n→a.testBit i=p i) (hq:∀i,i < n→b.testBit i=q i) :
  zv (zb (a:Int) ||| zb (b:Int)).toNat = ((msk n fun i=>p i || q i:Nat):Int):=by
 have h64:2^n≤2^64:=Nat.pow_le_pow_right (n:=2) (by omega) hn
 have ha':a < 18446744073709551616:=Nat.lt_of_lt_of_le ha h64
 have hb':b < 18446744073709551616:=Nat.lt_of_lt_of_le hb h64
 rw [BitVec.toNat_or,Qgf ha',Qgf hb',Qfd (Nat.or_lt_two_pow (n:=64) ha' hb')]
 congr 1
 exact Qkq (Nat.or_lt_two_pow ha hb) fun i hi=>by rw [Nat.testBit_or,hp i hi,hq i hi]
theorem Qc1 (v i:Nat):(2^v).testBit i=decide (v=i):=Nat.testBit_two_pow
theorem Q5o {n:Nat} {p:Nat → Bool}:∀i,i < n→(msk n p).testBit i=p i:=fun i hi=>by rw [Z7]; simp [hi]
theorem Q5d {n v:Nat} {p:Nat → Bool} (hn:n≤10) (hv:v < n):zv (zb ((msk n p:Nat):Int) ||| zb (zv (1*2^min (Int.toNat (v:Int)) (IntKind.bits .u64)))).toNat = ((msk n fun i=>p i || decide (v=i):Nat):Int):=by
 rw [Qp7 (by omega)]
 exact Q5r (by omega) (msk_lt n p) (Nat.pow_lt_pow_right (by omega) hv) Q5o fun i _=>Qc1 v i
theorem Qmd {a k:Nat} (ha:a < 18446744073709551616) (hk:k < 64) :
  zv (zb (Int.fdiv (a:Int) (2^min (Int.toNat (k:Int)) (IntKind.bits .u64))) &&& zb 1).toNat = ((a.testBit k).toNat : Int):=by
 have hb:IntKind.bits .u64=64:=rfl
 have e0:min (Int.toNat (k:Int)) (IntKind.bits .u64)=k:=by rw [hb,Int.toNat_natCast]; omega
 rw [e0,Qnp]
 have h1:a / 2^k < 18446744073709551616:=Nat.lt_of_le_of_lt (Nat.div_le_self _ _) ha
 have e1:(zb ((a / 2^k:Nat):Int) &&& zb 1).toNat = (a / 2^k) % 2:=by
  rw [BitVec.toNat_and,Qgf h1,show (zb 1).toNat = 1 from rfl,Nat.and_one_is_mod]
 rw [e1,Qfd (by omega)]
 have e2:a.testBit k=((a / 2^k) % 2==1):=by rw [Nat.testBit_eq_decide_div_mod_eq]; rfl
 rw [e2]
 rcases Nat.mod_two_eq_zero_or_one (a / 2^k) with h | h <;> rw [h] <;> rfl
theorem Qvt (n:Nat):msk n (fun _=>true)=2^n - 1:=(Qkq (by have:=Nat.two_pow_pos n; omega) fun i hi=>by rw [Nat.testBit_two_pow_sub_one]; simp [hi]).symm
theorem Q5a {n:Nat} (hn:n≤10):zv ((zv (1*2^min (Int.toNat (n:Int)) (IntKind.bits .u64))) - 1)=((msk n fun _=>true:Nat):Int):=by
 rw [Qp7 (by omega),Qvt]
 have h1:=Qn7 (v:=n) (by omega)
 have h2:=Nat.two_pow_pos n
 rw [show ((2^n:Nat):Int) - 1=((2^n - 1:Nat):Int) by omega,Qfd (by omega)]
def cnt:Nat → (Nat → Bool)→Nat
 | 0,_=>0
 | n+1,p=>cnt n p+(p n).toNat
theorem Qxo {n:Nat} {p q:Nat → Bool} (h:∀i,i < n→p i=q i):cnt n p=cnt n q:=by
 induction n with
 | zero=>rfl
 | succ n ih=>simp only [cnt]; rw [ih fun i hi=>h i (by omega),h n (by omega)]
theorem Qr7 (n:Nat) (p:Nat → Bool):cnt n p≤n:=by
 induction n with
 | zero=>exact Nat.le_refl _
 | succ n ih =>
  simp only [cnt]; have:(p n).toNat ≤ 1:=by cases p n <;> decide
  omega
theorem Qnu {n:Nat} {p q:Nat → Bool} (h:∀i,i < n→p i=true→q i=true):cnt n p≤cnt n q:=by
 induction n with
 | zero=>exact Nat.le_refl _
 | succ n ih =>
  simp only [cnt]
  have h1:=ih fun i hi=>h i (by omega)
  have h2:=h n (by omega)
  cases hp:p n with
  | false =>
   have:false.toNat = 0:=rfl
   omega
  | true=>rw [h2 hp]; omega
theorem Q1z {n:Nat} {p:Nat → Bool} {i:Nat} (hi:i < n) (h:p i=true):0 < cnt n p:=by
 induction n with
 | zero=>omega
 | succ n ih =>
  simp only [cnt]
  by_cases e:i=n
  ·subst e; rw [h]; show 0 < _+1; omega
  ·have:=ih (by omega); omega
theorem Qqp {n v:Nat} {p:Nat → Bool} (hv:v < n) (h:p v=true):cnt n (fun i=>p i && !decide (v=i))+1=cnt n p:=by
 induction n with
 | zero=>omega
 | succ n ih =>
  simp only [cnt]
  by_cases e:v=n
  ·subst e
   rw [Qxo (n:=v) (q:=p) fun i hi=>by simp; intro _; omega,h]
   simp
  ·have:=ih (by omega)
   have e2:(p n && !decide (v=n))=p n:=by simp; intro _; exact e
   rw [e2]; omega
theorem Yo (k:Nat):(0:Int)≤(k:Int):=Int.natCast_nonneg k
theorem Qso {k:Nat} (h:k < 9223372036854775807):zw ((k:Int)+1)=((k+1:Nat):Int):=by rw [w64 (by omega)]; omega
theorem Kl {τ ρ σ:Type} {n k0:Nat} (hk:k0≤n) (hn:n < 1152921504606846976) (mkS:Int→τ→σ) {body:σ→Option (Qf σ ρ)} (I:Nat → τ→Prop) (Q:ρ→Prop)
  (step:∀(k:Nat) (t:τ),k0≤k→k < n→I k t→(∃t',body (mkS (k:Int) t)=some (.next (mkS (zw ((k:Int)+1)) t'))∧I (k+1) t')∨(∃r,body (mkS (k:Int) t)=some (.done r)∧Q r))
  (done:∀t,I n t→∃r,body (mkS (n:Int) t)=some (.done r)∧Q r) (t0:τ) (h0:I k0 t0):∃r,Qb fuel body (mkS (k0:Int) t0)=some r∧Q r:=by
 have key:∀(j N k:Nat) (t:τ),k+j=n→k0≤k→j < N→I k t→∃r,Qb N body (mkS (k:Int) t)=some r∧Q r:=by
  intro j
  induction j with
  | zero =>
   intro N k t e hk hN hI
   obtain ⟨N,rfl⟩:∃M,N=M+1:=⟨N - 1,by omega⟩
   have:k=n:=by omega
   subst this
   obtain ⟨r,b1,b2⟩:=done t hI
   simp only [Qb,b1]
   exact ⟨r,rfl,b2⟩
  | succ j ih =>
   intro N k t e hk hN hI
   obtain ⟨N,rfl⟩:∃M,N=M+1:=⟨N - 1,by omega⟩
   rcases step k t hk (by omega) hI with ⟨t',b1,b2⟩ | ⟨r,b1,b2⟩
   ·rw [Qso (by omega)] at b1
    simp only [Qb,b1]
    exact ih N (k+1) t' (by omega) (by omega) (by omega) b2
   ·simp only [Qb,b1]
    exact ⟨r,rfl,b2⟩
 exact key (n - k0) fuel k0 t0 (by omega) (Nat.le_refl _) (by show n - k0 < 1152921504606846976; omega) h0
theorem Vn {τ ρ σ:Type} {n k0:Nat} (hk:k0≤n) (hn:n < 1152921504606846976) (mkS:Int→τ→σ) {body:σ→Option (Qf σ ρ)} (T:Nat → τ) (r:ρ)
  (step:∀(k:Nat),k0≤k→k < n→body (mkS (k:Int) (T k))=some (.next (mkS (zw ((k:Int)+1)) (T (k+1)))))
  (done:body (mkS (n:Int) (T n))=some (.done r)):Qb fuel body (mkS (k0:Int) (T k0))=some r:=by
 obtain ⟨r',h1,h2⟩:=Kl hk hn mkS (body:=body) (fun k t=>t=T k) (fun x=>x=r) (fun k t a b c=>.inl ⟨T (k+1),by rw [c]; exact step k a b,rfl⟩) (fun t h=>⟨r,by rw [h]; exact done,rfl⟩) (T k0) rfl
 rw [h1,h2]
theorem dlt {k n:Nat} (h:k < n):decide ((k:Int) < (n:Int))=true:=decide_eq_true (by omega)
theorem nlt (n:Nat):¬ (decide ((n:Int) < (n:Int))=true):=by simp
def Qc9 {α:Type} (n:Nat) (F:Nat → α):List α:=(List.range n).map F
theorem Qtl {α:Type} {n:Nat} {F:Nat → α}:(Qc9 n F).length=n:=by simp [Qc9]
theorem Q0h {α:Type} {n:Nat} {F:Nat → α} {k:Nat} (h:k < n):lkI (Qc9 n F) (k:Int)=some (F k):=by
 rw [Zo (by rw [Qtl]; exact h)]; simp [Qc9]
def Qg (n:Nat) (w:Nat → Nat):List Int:=Qc9 n fun j=>(w j:Int)
theorem Z4 {n k:Nat} {w:Nat → Nat} (h:k < n):lkI (Qg n w) (k:Int)=some (w k:Int):=Q0h h
theorem Z3 {n:Nat} {w:Nat → Nat}:(Qg n w).length=n:=Qtl
theorem Qgy {τ ρ σ:Type} {n:Nat} (hn:n < 1152921504606846976) (good:Nat → Prop) (mkS:Int→τ→σ) {body:σ→Option (Qf σ ρ)} (T:Nat → τ) (r rb:ρ)
  (step:∀k,k < n→(∀j,j < k→good j)→good k→body (mkS (k:Int) (T k))=some (.next (mkS (zw ((k:Int)+1)) (T (k+1)))))
  (bad:∀k,k < n→(∀j,j < k→good j)→¬ good k→body (mkS (k:Int) (T k))=some (.done rb))
  (done:(∀j,j < n→good j)→body (mkS (n:Int) (T n))=some (.done r)) :
  ((∀j,j < n→good j)∧Qb fuel body (mkS ((0:Nat):Int) (T 0))=some r)∨((¬ ∀j,j < n→good j)∧Qb fuel body (mkS ((0:Nat):Int) (T 0))=some rb):=by
 have h:=Kl (n:=n) (k0:=0) (by omega) hn mkS (body:=body) (fun k t=>t=T k∧∀j,j < k→good j) (fun x=>((∀j,j < n→good j)∧x=r)∨((¬ ∀j,j < n→good j)∧x=rb))
  (fun k t _ hk hI=>by
   obtain ⟨rfl,hI⟩:=hI
   by_cases hg:good k
   ·left
    exact ⟨_,step k hk hI hg,rfl,fun j hj=>by
     by_cases e:j=k
     ·rw [e]; exact hg
     ·exact hI j (by omega)⟩
   ·exact .inr ⟨_,bad k hk hI hg,.inr ⟨fun h=>hg (h k hk),rfl⟩⟩)
  (fun t hI=>by
   obtain ⟨rfl,hI⟩:=hI
   exact ⟨_,done hI,.inl ⟨hI,rfl⟩⟩) (T 0) ⟨rfl,fun j hj=>by omega⟩
 obtain ⟨x,h1,h2⟩:=h
 rcases h2 with ⟨a,rfl⟩ | ⟨a,rfl⟩
 ·exact .inl ⟨a,h1⟩
 ·exact .inr ⟨a,h1⟩
theorem Qoh {a b:Nat} (ha:a < 18446744073709551616) (hb:b < 18446744073709551616):zv (zb (a:Int) ||| zb (b:Int)).toNat = ((a ||| b:Nat):Int):=by
 rw [BitVec.toNat_or,Qgf ha,Qgf hb,Qfd (Nat.or_lt_two_pow (n:=64) ha hb)]
theorem Qdk {a v:Nat} (ha:a < 18446744073709551616) (hv:v < 64):Xy (a:Int) (v:Int)=some (a.testBit v):=by
 unfold Xy
 rw [if_pos (Yo v),Qmd ha hv]
 cases a.testBit v <;> rfl
def Xm (a b:Nat):Prop:=∀j,a.testBit j=true→b.testBit j=true
theorem Xm.refl {a:Nat}:Xm a a:=fun _ h=>h
theorem Xm.trans {a b c:Nat} (h:Xm a b) (k:Xm b c):Xm a c:=fun j hj=>k j (h j hj)
theorem Qge {a b:Nat}:Xm a (a ||| b):=fun j h=>by rw [Nat.testBit_or,h]; rfl
theorem Qtz {a b:Nat}:Xm b (a ||| b):=fun j h=>by rw [Nat.testBit_or,h]; simp
theorem or_sub {a b c:Nat} (h:Xm a c) (k:Xm b c):Xm (a ||| b) c:=fun j hj=>by
 rw [Nat.testBit_or,Bool.or_eq_true] at hj
 rcases hj with e | e
 ·exact h j e
 ·exact k j e
theorem sub_anti {a b:Nat} (h:Xm a b) (k:Xm b a):a=b:=Nat.eq_of_testBit_eq fun j=>by
 cases ha:a.testBit j with
 | true=>rw [h j ha]
 | false=>cases hb:b.testBit j with
  | true=>rw [k j hb] at ha; cases ha
  | false=>rfl
def upV (S:Nat → Nat) (s v:Nat):Nat := if s.testBit v then s ||| S v else s
def upR (n:Nat) (S:Nat → Nat) (s:Nat):Nat := (List.range n).foldl (upV S) s
def ups (n:Nat) (S:Nat → Nat):Nat → Nat → Nat
 | 0,s=>s
 | k+1,s=>upR n S (ups n S k s)
theorem Qyd {S:Nat → Nat} {s v:Nat}:Xm s (upV S s v):=by
 unfold upV; split
 ·exact Qge
 ·exact .refl
theorem Qmt {S:Nat → Nat}:∀(l:List Nat) (s:Nat),Xm s (l.foldl (upV S) s)
 | [],s=>.refl
 | v::l,s=>Qyd.trans (Qmt l _)
theorem Qst {S:Nat → Nat} {v:Nat}:∀(l:List Nat) (s:Nat),v∈l→s.testBit v=true→Xm (S v) (l.foldl (upV S) s)
 | [],s,h,_=>by cases h
 | u::l,s,h,hs=>by
  simp only [List.foldl_cons]
  by_cases e:v=u
  ·subst e
   refine Xm.trans ?_ (Qmt l _)
   unfold upV; rw [if_pos hs]; exact Qtz
  ·exact Qst l _ (by simpa [e] using h) (Qyd v hs)
theorem Qp3 {S:Nat → Nat} {T:Nat}:∀(l:List Nat) (s:Nat),(∀v∈l,T.testBit v=true→Xm (S v) T)→Xm s T→Xm (l.foldl (upV S) s) T
 | [],s,_,h=>h
 | v::l,s,hT,h=>by
  simp only [List.foldl_cons]
  refine Qp3 l _ (fun u hu=>hT u (List.mem_cons_of_mem _ hu)) ?_
  unfold upV; split
  ·rename_i hs; exact or_sub h (hT v (by simp) (h v hs))
  ·exact h
def Clo (n:Nat) (S:Nat → Nat) (T:Nat):Prop:=∀v,v < n→T.testBit v=true→Xm (S v) T
theorem Qs0 {n:Nat} {S:Nat → Nat} {s:Nat}:∀k,Xm s (ups n S k s)
 | 0=>.refl
 | k+1=>(Qs0 k).trans (Qmt _ _)
theorem Qa0 {n:Nat} {S:Nat → Nat} {s T:Nat} (hT:Clo n S T) (h:Xm s T):∀k,Xm (ups n S k s) T
 | 0=>h
 | k+1=>Qp3 _ _ (fun v hv=>hT v (List.mem_range.1 hv)) (Qa0 hT h k)
theorem Q14 {n:Nat} {S:Nat → Nat} {s:Nat} (h:upR n S s=s):Clo n S s:=fun v hv hs=>by
 have:=Qst (S:=S) (List.range n) s (List.mem_range.2 hv) hs
 unfold upR at h
 rwa [h] at this
theorem Qtc {n a b:Nat} (h:Xm a b) (hb:∀j,b.testBit j=true→j < n) (hne:a≠b):cnt n a.testBit < cnt n b.testBit:=by
 have:∃j,b.testBit j=true∧a.testBit j=false:=by
  apply Classical.byContradiction
  intro hno
  exact hne (sub_anti h fun j hj=>by
   cases ha:a.testBit j with
   | true=>rfl
   | false=>exact absurd ⟨j,hj,ha⟩ hno)
 obtain ⟨j,h1,h2⟩:=this
 have e:=Qqp (n:=n) (p:=b.testBit) (hb j h1) h1
 have:cnt n a.testBit≤cnt n (fun i=>b.testBit i && !decide (j=i)):=Qnu fun i _ hi=>by
  have:j≠i:=fun e=>by subst e; rw [h2] at hi; cases hi
  simp [h i hi,this]
 omega
theorem Qf5 (n:Nat) {S:Nat → Nat} (hS:∀v,v < n→∀j,(S v).testBit j=true→j < n):Clo n S (2^n - 1):=fun v hv _ j hj=>by
 rw [Nat.testBit_two_pow_sub_one]; simpa using hS v hv j hj
theorem Q2e {n:Nat} {S:Nat → Nat} {s:Nat} (hS:∀v,v < n→∀j,(S v).testBit j=true→j < n) (hs:∀j,s.testBit j=true→j < n):Clo n S (ups n S n s):=by
 have hin:∀k j,(ups n S k s).testBit j=true→j < n:=fun k j hj=>by
  have:=Qa0 (Qf5 n hS) (s:=s) (fun j hj=>by rw [Nat.testBit_two_pow_sub_one]; simpa using hs j hj) k j hj
  rw [Nat.testBit_two_pow_sub_one] at this; simpa using this
 have key:∀k,upR n S (ups n S k s)=ups n S k s∨k+cnt n s.testBit≤cnt n (ups n S k s).testBit:=by
  intro k
  induction k with
  | zero=>right; simp [ups]
  | succ k ih =>
   by_cases hf:upR n S (ups n S k s)=ups n S k s
   ·left; simp only [ups]; rw [hf,hf]
   ·right
    rcases ih with h | h
    ·exact absurd h hf
    ·have:=Qtc (n:=n) (Qmt (S:=S) (List.range n) (ups n S k s)) (hin (k+1)) (fun e=>hf e.symm)
     show k+1+_≤cnt n (upR n S (ups n S k s)).testBit
     unfold upR; omega
 rcases key n with h | h
 ·exact Q14 h
 ·have h0:=Qr7 n (ups n S n s).testBit
  have hz:cnt n s.testBit=0:=by omega
  have:s=0:=Nat.eq_of_testBit_eq fun j=>by
   rw [Nat.zero_testBit,Bool.eq_false_iff]
   intro hj
   have:=Q1z (n:=n) (hs j hj) hj; omega
  subst this
  have h1:=Qa0 (n:=n) (S:=S) (s:=0) (T:=0) (fun v _ hv=>by rw [Nat.zero_testBit] at hv; cases hv) .refl n
  intro v hv hb
  have:=h1 v hb
  rw [Nat.zero_testBit] at this; cases this
theorem Qco {n s:Nat} (h:∀j,s.testBit j=true→j < n):s < 2^n:=by
 apply Nat.lt_pow_two_of_testBit
 intro i hi
 rw [Bool.eq_false_iff]; intro hj
 have:=h i hj; omega
theorem Qyg {n:Nat} {S:Nat → Nat} {s:Nat} (hn:n≤8) (hS:∀v,v < n→∀j,(S v).testBit j=true→j < n) (hs:∀j,s.testBit j=true→j < n):Qbg (Qg n S) (s:Int)=some ((ups n S n s:Nat):Int):=by
 have hlen:(Qg n S).length=n:=Z3
 have hfull:=Qf5 n hS
 have hs0:Xm s (2^n - 1):=fun j hj=>by rw [Nat.testBit_two_pow_sub_one]; simpa using hs j hj
 have p8:(2:Nat)^n≤256:=Nat.pow_le_pow_right (n:=2) (by omega) hn
 have hlt:∀{t:Nat},Xm t (2^n - 1)→t < 18446744073709551616:=fun h=>by
  have:=Qco (n:=n) fun j hj=>by have:=h j hj; rw [Nat.testBit_two_pow_sub_one] at this; simpa using this
  omega
 have inner:∀t,Xm t (2^n - 1)→Qb fuel (Jd (Qg n S)) ((t:Int),(0:Int))=some ((upR n S t:Nat):Int):=fun t ht=>by
  have h:=Vn (n:=n) (k0:=0) (by omega) (by omega) (fun i (x:Int)=>(x,i)) (body:=Jd (Qg n S)) (fun k=>(((List.range k).foldl (upV S) t:Nat):Int)) ((upR n S t:Nat):Int)
   (fun k _ hk=>by
    have hsub:=Qp3 (S:=S) (T:=2^n - 1) (List.range k) t (fun v hv=>hfull v (by have:=List.mem_range.1 hv; omega)) ht
    unfold Jd
    dsimp only
    rw [hlen,if_pos (dlt hk),Qdk (hlt hsub) (by omega),Option.bind_some,List.range_succ,List.foldl_append]
    simp only [List.foldl_cons,List.foldl_nil]
    unfold upV
    by_cases c:((List.range k).foldl (upV S) t).testBit k=true
    ·unfold upV at c
     rw [if_pos c,Z4 hk,Option.bind_some,if_pos c]
     have hsub':=hsub
     unfold upV at hsub'
     rw [Qoh (hlt hsub') (by
      have:=Qco (hS k hk); omega)]
    ·unfold upV at c
     rw [if_neg c,if_neg c])
   (by unfold Jd; dsimp only; rw [hlen,if_neg (nlt n)]; rfl)
  rw [show ((0:Nat):Int)=0 from rfl] at h
  exact h
 have h:=Vn (n:=n) (k0:=0) (by omega) (by omega) (fun i (x:Int)=>(x,i)) (body:=Kn (Qg n S)) (fun k=>((ups n S k s:Nat):Int)) ((ups n S n s:Nat):Int)
  (fun k _ hk=>by
   unfold Kn
   dsimp only
   rw [hlen,if_pos (dlt hk),inner _ (Qa0 hfull hs0 k)]; rfl)
  (by unfold Kn; dsimp only; rw [hlen,if_neg (nlt n)])
 rw [show ((0:Nat):Int)=0 from rfl] at h
 unfold Qbg
 rw [show ups n S 0 s=s from rfl] at h
 rw [h]; rfl
end Go.Ab
namespace Go.Ab
open Go
set_option maxRecDepth 100000
set_option maxHeartbeats 400000
def Qtn (a p:Nat):Bool:=(a ||| p)==p
theorem Qno {a p:Nat}:Qtn a p=true↔Xm a p:=by
 unfold Qtn
 rw [beq_iff_eq]
 constructor
 ·intro h j hj
  have:(a ||| p).testBit j=p.testBit j:=by rw [h]
  rw [Nat.testBit_or,hj] at this; simpa using this.symm
 ·intro h
  exact sub_anti (or_sub h .refl) Qtz
theorem Q49 {a p:Nat} (ha:a < 18446744073709551616) (hp:p < 18446744073709551616) :
  ((zv (zb (a:Int) &&& ~~~ zb (p:Int)).toNat)==0)=Qtn a p:=by
 rw [Q4t (n:=64) (p:=a.testBit) (q:=p.testBit) (by omega) ha hp (fun _ _=>rfl) (fun _ _=>rfl)]
 rw [Bool.eq_iff_iff,beq_iff_eq,Qno]
 constructor
 ·intro h j hj
  have h0:(msk 64 fun i=>a.testBit i && !p.testBit i)=0:=by exact_mod_cast h
  have hj64:j < 64:=by
   apply Classical.byContradiction
   intro hn
   rw [Nat.testBit_lt_two_pow (Nat.lt_of_lt_of_le (show a < 2^64 from ha) (Nat.pow_le_pow_right (by omega) (by omega)))] at hj; cases hj
  have:=Z7 64 (fun i=>a.testBit i && !p.testBit i) j
  rw [h0] at this
  simp [hj64,hj] at this
  exact this
 ·intro h
  have:(msk 64 fun i=>a.testBit i && !p.testBit i)=msk 64 (fun _=>false):=Qak fun i _=>by
   cases e:a.testBit i with
   | false=>rfl
   | true=>rw [h i e]; rfl
  rw [this]
  rfl
def plV (S:Nat → Nat) (p v:Nat):Nat := if Qtn (S v) p=true then p ||| 2^v else p
def plR (n:Nat) (S:Nat → Nat) (p:Nat):Nat := (List.range n).foldl (plV S) p
def pls (n:Nat) (S:Nat → Nat):Nat → Nat
 | 0=>0
 | k+1=>plR n S (pls n S k)
theorem Qxn {S:Nat → Nat} {p v:Nat}:Xm p (plV S p v):=by
 unfold plV; split
 ·exact Qge
 ·exact .refl
theorem Qth {S:Nat → Nat}:∀(l:List Nat) (p:Nat),Xm p (l.foldl (plV S) p)
 | [],_=>.refl
 | v::l,p=>Qxn.trans (Qth l _)
theorem Qvl {S:Nat → Nat} {v:Nat}:∀(l:List Nat) (p:Nat),v∈l→Xm (S v) p→(l.foldl (plV S) p).testBit v=true
 | [],_,h,_=>by cases h
 | u::l,p,h,hs=>by
  simp only [List.foldl_cons]
  by_cases e:v=u
  ·subst e
   refine Qth l _ v ?_
   unfold plV; rw [if_pos (Qno.2 hs),Nat.testBit_or,Qc1]; simp
  ·exact Qvl l _ (by simpa [e] using h) (hs.trans Qxn)
def Rk (n:Nat) (S:Nat → Nat) (p:Nat):Prop:=(∀j,p.testBit j=true→j < n)∧∃(r:Nat → Nat) (M:Nat),(∀x,r x≤M)∧∀v,p.testBit v=true→∀j,(S v).testBit j=true→p.testBit j=true∧r j < r v
theorem Q2q {n:Nat} {S:Nat → Nat} {p v:Nat} (hv:v < n) (h:Rk n S p):Rk n S (plV S p v):=by
 unfold plV
 split
 ·rename_i hs
  have hs:=Qno.1 hs
  obtain ⟨h1,r,M,h2,h3⟩:=h
  by_cases hp:p.testBit v=true
  ·have e:p ||| 2^v=p:=sub_anti (or_sub .refl fun j hj=>by rw [Qc1] at hj; have:=of_decide_eq_true hj; subst this; exact hp) Qge
   rw [e]; exact ⟨h1,r,M,h2,h3⟩
  ·refine ⟨fun j hj=>?_,fun x=>if x=v then M+1 else r x,M+1,fun x=>?_,fun w hw j hj=>?_⟩
   ·rw [Nat.testBit_or,Qc1,Bool.or_eq_true] at hj
    rcases hj with hj | hj
    ·exact h1 j hj
    ·have:=of_decide_eq_true hj; omega
   ·show (if x=v then M+1 else r x)≤M+1
    split
    ·omega
    ·have:=h2 x; omega
   ·rw [Nat.testBit_or,Qc1,Bool.or_eq_true] at hw
    by_cases e:w=v
    ·subst e
     have hjp:=hs j hj
     have:¬ j=w:=fun e=>hp (e ▸ hjp)
     refine ⟨Qge j hjp,?_⟩
     show (if j=w then M+1 else r j) < (if w=w then M+1 else r w)
     rw [if_neg this,if_pos rfl]; have:=h2 j; omega
    ·have hw:p.testBit w=true:=hw.resolve_right fun h=>e (of_decide_eq_true h).symm
     obtain ⟨h4,h5⟩:=h3 w hw j hj
     have:¬ j=v:=fun e=>hp (e ▸ h4)
     refine ⟨Qge j h4,?_⟩
     show (if j=v then M+1 else r j) < (if w=v then M+1 else r w)
     rw [if_neg this,if_neg e]; exact h5
 ·exact h
theorem Qqk {n:Nat} {S:Nat → Nat}:∀(l:List Nat) (p:Nat),(∀v∈l,v < n)→Rk n S p→Rk n S (l.foldl (plV S) p)
 | [],_,_,h=>h
 | v::l,p,hl,h=>Qqk l _ (fun u hu=>hl u (List.mem_cons_of_mem _ hu)) (Q2q (hl v (by simp)) h)
theorem Qog {n:Nat} {S:Nat → Nat}:∀k,Rk n S (pls n S k)
 | 0=>⟨fun j hj=>by simp [pls] at hj,fun _=>0,0,fun _=>Nat.le_refl _,fun v hv=>by simp [pls] at hv⟩
 | k+1=>Qqk _ _ (fun v hv=>List.mem_range.1 hv) (Qog k)
structure Gd (n:Nat) (S:Nat → Nat):Prop where
 inn:∀v,v < n→∀j,(S v).testBit j=true→j < n
 acyc:∀v,v < n→¬ (ups n S n (S v)).testBit v=true
theorem Qnq {n p:Nat} (h:∀j,p.testBit j=true→j < n):p=2^n - 1↔∀j,j < n→p.testBit j=true:=by
 constructor
 ·intro e j hj; rw [e,Nat.testBit_two_pow_sub_one]; simpa using hj
 ·intro k
  apply Nat.eq_of_testBit_eq
  intro j
  rw [Nat.testBit_two_pow_sub_one]
  by_cases hj:j < n
  ·rw [k j hj]; simp [hj]
  ·have:p.testBit j=false:=by rw [Bool.eq_false_iff]; exact fun e=>hj (h j e)
   rw [this]; simp [hj]
theorem Qop {n:Nat} {S:Nat → Nat}:pls n S n=2^n - 1↔Gd n S:=by
 have hrk:=Qog (n:=n) (S:=S)
 constructor
 ·intro h
  obtain ⟨h1,r,M,h2,h3⟩:=hrk n
  have hall:=(Qnq h1).1 h
  refine ⟨fun v hv j hj=>h1 j (h3 v (hall v hv) j hj).1,fun v hv hb=>?_⟩
  have hT:Clo n S (msk n fun j=>decide (r j < r v)):=fun w hw hb j hj=>by
   rw [Z7] at hb ⊢
   simp only [Bool.and_eq_true,decide_eq_true_eq] at hb ⊢
   have:=h3 w (hall w hw) j hj
   exact ⟨h1 j this.1,by omega⟩
  have hs:Xm (S v) (msk n fun j=>decide (r j < r v)):=fun j hj=>by
   rw [Z7]
   simp only [Bool.and_eq_true,decide_eq_true_eq]
   have:=h3 v (hall v hv) j hj
   exact ⟨h1 j this.1,this.2⟩
  have:=Qa0 hT hs n v hb
  rw [Z7] at this
  simp at this
 ·intro h
  have key:∀k,plR n S (pls n S k)=pls n S k∨k≤cnt n (pls n S k).testBit:=by
   intro k
   induction k with
   | zero=>right; exact Nat.zero_le _
   | succ k ih =>
    by_cases hf:plR n S (pls n S k)=pls n S k
    ·left; simp only [pls]; rw [hf,hf]
    ·right
     rcases ih with h | h
     ·exact absurd h hf
     ·have:=Qtc (n:=n) (Qth (S:=S) (List.range n) (pls n S k)) (hrk (k+1)).1 (fun e=>hf e.symm)
      show k+1≤cnt n (plR n S (pls n S k)).testBit
      unfold plR; omega
  refine (Qnq (hrk n).1).2 ?_
  rcases key n with hst | hc
  ·generalize pls n S n=P at *
   have main:∀c v,v < n→¬ P.testBit v=true→cnt n (ups n S n (S v)).testBit=c→False:=by
    intro c
    induction c using Nat.strongRecOn with
    | _ c ih =>
     intro v hv hp hc
     have hns:¬ Xm (S v) P:=fun hs=>hp (by
      have:=Qvl (List.range n) P (List.mem_range.2 hv) hs
      unfold plR at hst
      rwa [hst] at this)
     obtain ⟨j,hj,hjp⟩:∃j,(S v).testBit j=true∧¬ P.testBit j=true:=by
      apply Classical.byContradiction
      intro hno
      exact hns fun j hj=>Classical.byContradiction fun hp=>hno ⟨j,hj,hp⟩
     have hjn:=h.inn v hv j hj
     have hclo:=Q2e h.inn (s:=S v) (h.inn v hv)
     have hin:(ups n S n (S v)).testBit j=true:=Qs0 n j hj
     have hsub:Xm (ups n S n (S j)) (ups n S n (S v)):=Qa0 hclo (hclo j hjn hin) n
     have hb:∀i,(ups n S n (S v)).testBit i=true→i < n:=fun i hi=>by
      have:=Qa0 (Qf5 n h.inn) (s:=S v) (fun i hi=>by rw [Nat.testBit_two_pow_sub_one]; simpa using h.inn v hv i hi) n i hi
      rw [Nat.testBit_two_pow_sub_one] at this; simpa using this
     have:=Qtc (n:=n) hsub hb fun e=>h.acyc j hjn (by rw [e]; exact hin)
     exact ih _ (by omega) j hjn hjp rfl
   exact fun j hj=>Classical.byContradiction fun hp=>main _ j hj hp rfl
  ·intro j hj
   apply Classical.byContradiction
   intro hp
   have h1:cnt n (pls n S n).testBit < n:=by
    have e:=Qqp (n:=n) (p:=fun _=>true) hj rfl
    have:cnt n (pls n S n).testBit≤cnt n (fun i=>true && !decide (j=i)):=Qnu fun i _ hi=>by
     have:j≠i:=fun e=>hp (e ▸ hi)
     simp [this]
    have:=Qr7 n (fun _=>true)
    omega
   omega
theorem Q5g {n:Nat} (hn:n≤8) {S:Nat → Nat} {p:Nat} (h:Rk n S p):p < 18446744073709551616:=by
 have:=Qco h.1
 have:(2:Nat)^n≤256:=Nat.pow_le_pow_right (n:=2) (by omega) hn
 omega
def L64 (n:Nat) (S:Nat → Nat):Prop:=∀v,v < n→S v < 18446744073709551616
theorem Qm4 {n:Nat} {S:Nat → Nat} (hn:n≤8) (hS:L64 n S):Vo (Qg n S)=some (pls n S n==2^n - 1):=by
 have hlen:(Qg n S).length=n:=Z3
 have inner:∀p,Rk n S p→Qb fuel (Vh (Qg n S)) ((p:Int),(0:Int))=some ((plR n S p:Nat):Int):=fun p hp=>by
  have h:=Vn (n:=n) (k0:=0) (by omega) (by omega) (fun i (x:Int)=>(x,i)) (body:=Vh (Qg n S)) (fun k=>(((List.range k).foldl (plV S) p:Nat):Int)) ((plR n S p:Nat):Int)
   (fun k _ hk=>by
    have hr:=Qqk (List.range k) p (fun v hv=>by have:=List.mem_range.1 hv; omega) hp
    have hlt:=Q5g hn hr
    unfold Vh
    dsimp only
    rw [hlen,if_pos (dlt hk),Z4 hk,Option.bind_some,Q49 (hS k hk) hlt,List.range_succ,List.foldl_append]
    simp only [List.foldl_cons,List.foldl_nil]
    generalize (List.range k).foldl (plV S) p=q at *
    unfold plV
    by_cases c:Qtn (S k) q=true
    ·rw [if_pos c,if_pos (Yo k),if_pos c,Qp7 (by omega),Qoh hlt (Qn7 (by omega))]
    ·rw [if_neg c,if_neg c])
   (by unfold Vh; dsimp only; rw [hlen,if_neg (nlt n)]; rfl)
  rw [show ((0:Nat):Int)=0 from rfl] at h
  exact h
 have h:=Vn (n:=n) (k0:=0) (by omega) (by omega) (fun i (x:Int)=>(x,i)) (body:=Ju (Qg n S)) (fun k=>((pls n S k:Nat):Int)) ((pls n S n:Nat):Int)
  (fun k _ hk=>by
   unfold Ju
   dsimp only
   rw [hlen,if_pos (dlt hk),inner _ (Qog k)]; rfl)
  (by unfold Ju; dsimp only; rw [hlen,if_neg (nlt n)])
 rw [show ((0:Nat):Int)=0 from rfl] at h
 unfold Vo
 rw [show ((0:Int),(0:Int))=(((pls n S 0:Nat):Int),(0:Int)) from rfl,h,Option.bind_some,hlen,if_pos (Yo n),Q5a (by omega),Qvt]
 congr 1
 rw [Bool.eq_iff_iff,beq_iff_eq,beq_iff_eq]
 exact Int.ofNat_inj
theorem Qrb {n:Nat} {S:Nat → Nat} (hn:n≤7) (hS:L64 n S):∃c,Q5 (Qg n S)=some (if c=true then 0 else 310)∧(c=true↔(1≤n∧n≤6)∧Gd n S):=by
 have hlen:(Qg n S).length=n:=Z3
 unfold Q5
 rw [hlen]
 by_cases h1:(n:Int) < 1
 ·exact ⟨false,by simp [h1],by simp; omega⟩
 ·by_cases h2:(n:Int) > 6
  ·exact ⟨false,by simp [h1,h2],by simp; omega⟩
  ·refine ⟨pls n S n==2^n - 1,?_,?_⟩
   ·rw [Qm4 (by omega) hS]
    simp only [decide_eq_true_eq,h1,h2,if_false,Option.bind_some]
    cases (pls n S n==2^n - 1) <;> rfl
   ·rw [beq_iff_eq,Qop]
    exact ⟨fun h=>⟨by omega,h⟩,fun h=>h.2⟩
theorem Qq4 {a n:Nat} (hn:n≤64):((Int.fdiv (a:Int) (2^min (Int.toNat (n:Int)) (IntKind.bits .u64))) != 0)=!decide (a < 2^n):=by
 have hb:IntKind.bits .u64=64:=rfl
 have e0:min (Int.toNat (n:Int)) (IntKind.bits .u64)=n:=by rw [hb,Int.toNat_natCast]; omega
 rw [e0,Qnp,Bool.eq_iff_iff]
 simp only [bne_iff_ne,ne_eq,Bool.not_eq_true',decide_eq_false_iff_not]
 have:a / 2^n=0↔a < 2^n:=Nat.div_eq_zero_iff_lt (Nat.two_pow_pos n)
 rw [←this]
 exact not_congr ⟨fun h=>by exact_mod_cast h,fun h=>by rw [h]; rfl⟩
theorem Q1d {a n:Nat}:a < 2^n↔∀j,a.testBit j=true→j < n:=by
 constructor
 ·intro h j hj
  apply Classical.byContradiction
  intro hn
  rw [Nat.testBit_lt_two_pow (Nat.lt_of_lt_of_le h (Nat.pow_le_pow_right (by omega) (by omega)))] at hj; cases hj
 ·exact Qco
theorem Qqr {n m:Nat} {S:Nat → Nat} (hn:n≤7) (hS:L64 n S):∃c,Vr (Qg n S) (m:Int)=some c∧(c=true↔(1≤n∧n≤m)∧Gd n S):=by
 have hlen:(Qg n S).length=n:=Z3
 unfold Vr
 rw [hlen]
 by_cases h1:(n:Int) < 1
 ·exact ⟨false,by simp [h1],by simp; omega⟩
 ·by_cases h2:(n:Int) > m
  ·exact ⟨false,by simp [h1,h2],by simp; omega⟩
  ·simp only [decide_eq_true_eq,h1,h2,if_false]
   rcases Qgy (n:=n) (by omega) (fun k=>S k < 2^n) (fun i (_:Unit)=>i) (body:=Jb (Qg n S)) (fun _=>()) (.inr ()) (.inl ())
    (fun k hk _ hg=>by
     unfold Jb
     rw [hlen,if_pos (dlt hk),Z4 hk,Option.bind_some,if_pos (Yo n),Qq4 (by omega),if_neg (by simpa using hg)])
    (fun k hk _ hg=>by
     unfold Jb
     rw [hlen,if_pos (dlt hk),Z4 hk,Option.bind_some,if_pos (Yo n),Qq4 (by omega),if_pos (by simpa using hg)])
    (fun _=>by unfold Jb; rw [hlen,if_neg (nlt n)]) with ⟨hg,h⟩ | ⟨hg,h⟩
   ·rw [show ((0:Nat):Int)=0 from rfl] at h
    rw [h,Option.bind_some]
    dsimp only
    have hinn:∀v,v < n→∀j,(S v).testBit j=true→j < n:=fun v hv=>Q1d.1 (hg v hv)
    rcases Qgy (n:=n) (by omega) (fun k=>¬ (ups n S n (S k)).testBit k=true) (fun i (_:Unit)=>i) (body:=Jh (Qg n S)) (fun _=>()) (.inr ()) (.inl ())
     (fun k hk _ hg=>by
      have hu:ups n S n (S k) < 18446744073709551616:=by
       have:=Qco (n:=n) fun j hj=>by
        have:=Qa0 (Qf5 n hinn) (s:=S k) (fun i hi=>by rw [Nat.testBit_two_pow_sub_one]; simpa using hinn k hk i hi) n j hj
        rw [Nat.testBit_two_pow_sub_one] at this; simpa using this
       have:(2:Nat)^n≤256:=Nat.pow_le_pow_right (n:=2) (by omega) (show n≤8 by omega)
       omega
      unfold Jh
      rw [hlen,if_pos (dlt hk),Z4 hk,Option.bind_some,Qyg (by omega) hinn (hinn k hk),Option.bind_some,Qdk hu (by omega),Option.bind_some,if_neg hg])
     (fun k hk _ hg=>by
      have hu:ups n S n (S k) < 18446744073709551616:=by
       have:=Qco (n:=n) fun j hj=>by
        have:=Qa0 (Qf5 n hinn) (s:=S k) (fun i hi=>by rw [Nat.testBit_two_pow_sub_one]; simpa using hinn k hk i hi) n j hj
        rw [Nat.testBit_two_pow_sub_one] at this; simpa using this
       have:(2:Nat)^n≤256:=Nat.pow_le_pow_right (n:=2) (by omega) (show n≤8 by omega)
       omega
      unfold Jh
      rw [hlen,if_pos (dlt hk),Z4 hk,Option.bind_some,Qyg (by omega) hinn (hinn k hk),Option.bind_some,Qdk hu (by omega),Option.bind_some,if_pos (Classical.not_not.1 hg)])
     (fun _=>by unfold Jh; rw [hlen,if_neg (nlt n)]) with ⟨hg2,h⟩ | ⟨hg2,h⟩
    ·rw [show ((0:Nat):Int)=0 from rfl] at h
     rw [h,Option.bind_some]
     exact ⟨true,rfl,by simp only [true_iff]; exact ⟨by omega,hinn,hg2⟩⟩
    ·rw [show ((0:Nat):Int)=0 from rfl] at h
     rw [h,Option.bind_some]
     exact ⟨false,rfl,by simp only [Bool.false_eq_true,false_iff]; exact fun h=>hg2 h.2.acyc⟩
   ·rw [show ((0:Nat):Int)=0 from rfl] at h
    rw [h,Option.bind_some]
    exact ⟨false,rfl,by simp only [Bool.false_eq_true,false_iff]; exact fun h=>hg fun v hv=>Qco (h.2.inn v hv)⟩
end Go.Ab
namespace Go.Ab
open Go
set_option maxRecDepth 100000
set_option maxHeartbeats 1000000
def apL {α:Type} (L:Nat → List α) (k0:Nat):Nat → List α
 | 0=>[]
 | j+1=>apL L k0 j++L (k0+j)
theorem Z6 {α:Type} {L:Nat → List α} {k0 m:Nat} (h:∀k,(L k).length≤m):∀j,(apL L k0 j).length≤j*m
 | 0=>by simp [apL]
 | j+1=>by
  have:=Z6 (k0:=k0) h j
  have:=h (k0+j)
  simp only [apL,List.length_append,Nat.succ_mul]; omega
theorem Qaq {α:Type} {L:Nat → List α} {k0:Nat} {x:α}:∀j,x∈apL L k0 j↔∃i,k0≤i∧i < k0+j∧x∈L i
 | 0=>by simp [apL]; intros; omega
 | j+1=>by
  simp only [apL,List.mem_append,Qaq j]
  constructor
  ·rintro (⟨i,h1,h2,h3⟩ | h)
   ·exact ⟨i,h1,by omega,h3⟩
   ·exact ⟨k0+j,by omega,by omega,h⟩
  ·rintro ⟨i,h1,h2,h3⟩
   by_cases e:i=k0+j
   ·right; rw [←e]; exact h3
   ·left; exact ⟨i,h1,by omega,h3⟩
theorem Zf {α:Type} {L L':Nat → List α} {k0:Nat}:∀j,(∀i,k0≤i→i < k0+j→L i=L' i)→apL L k0 j=apL L' k0 j
 | 0,_=>rfl
 | j+1,h=>by
  simp only [apL]
  rw [Zf j fun i h1 h2=>h i h1 (by omega),h (k0+j) (by omega) (by omega)]
theorem Vu {α σ ρ:Type} {n k0 m c:Nat} (hk:k0≤n) (hn:n < 1152921504606846976) (mkS:Int→List α→σ) {body:σ→Option (Qf σ ρ)} (L:Nat → List α) (fin:List α→ρ) (hL:∀k,(L k).length≤m) {out:List α} (hout:out.length≤c)
  (step:∀k o,k0≤k→k < n→o.length≤c+n*m→body (mkS (k:Int) o)=some (.next (mkS (zw ((k:Int)+1)) (o++L k))))
  (done:∀o,body (mkS (n:Int) o)=some (.done (fin o))):Qb fuel body (mkS (k0:Int) out)=some (fin (out++apL L k0 (n - k0))):=by
 have h:=Vn hk hn mkS (body:=body) (fun k=>out++apL L k0 (k - k0)) (fin (out++apL L k0 (n - k0)))
  (fun k h1 h2=>by
   have hb:=Z6 (k0:=k0) hL (k - k0)
   have:(k - k0)*m≤n*m:=Nat.mul_le_mul_right _ (by omega)
   rw [step k _ h1 h2 (by rw [List.length_append]; omega)]
   have e:k+1 - k0=(k - k0)+1:=by omega
   rw [e]
   simp only [apL]
   rw [show k0+(k - k0)=k by omega,List.append_assoc])
  (done _)
 rw [show k0 - k0=0 by omega] at h
 simpa [apL] using h
def Qo (X:Nat → Int):Int × Int × Int × Int × Int × Int:=(X 0,X 1,X 2,X 3,X 4,X 5)
def J5 (x p:Int):Int:=zv (zb x ||| zb (zv (1*2^min (Int.toNat p) (IntKind.bits .u64)))).toNat
def sx (X:Nat → Int) (v:Nat) (y:Int):Nat → Int:=fun i=>if i=v then y else X i
theorem Q32 {L:List Int} {a:Int} {v p:Nat} {X:Nat → Int} (hv:v < 6) (hp:p < 6) (h1:decide ((p:Int) < (L.length:Int))=true)
  (hb:((zv (zb (Int.fdiv a (2^min (Int.toNat (p:Int)) (IntKind.bits .u64))) &&& zb 1).toNat)==1)=true) :
  Zn L a ((v:Int),(v:Int),(p:Int),Qo X)=some (.next ((v:Int),(v:Int),zw ((p:Int)+1),Qo (sx (sx X v (J5 (X v) p)) p (J5 (sx X v (J5 (X v) p) p) v)))):=by
 unfold Zn
 dsimp only
 rw [if_pos h1,if_pos (Yo p),if_pos hb]
 have hv':v=0∨v=1∨v=2∨v=3∨v=4∨v=5:=by omega
 have hp':p=0∨p=1∨p=2∨p=3∨p=4∨p=5:=by omega
 clear hb h1
 rcases hv' with rfl | rfl | rfl | rfl | rfl | rfl <;> rcases hp' with rfl | rfl | rfl | rfl | rfl | rfl <;> rfl
theorem Q1a {L:List Int} {a:Int} {v p:Nat} {X:Nat → Int} (h1:decide ((p:Int) < (L.length:Int))=true)
  (hb:¬ ((zv (zb (Int.fdiv a (2^min (Int.toNat (p:Int)) (IntKind.bits .u64))) &&& zb 1).toNat)==1)=true) :
  Zn L a ((v:Int),(v:Int),(p:Int),Qo X)=some (.next ((v:Int),(v:Int),zw ((p:Int)+1),Qo X)):=by
 unfold Zn
 dsimp only
 rw [if_pos h1,if_pos (Yo p),if_neg hb]
def mI (N:Nat → Nat → Bool):Nat → Int:=fun i=>((msk 6 (N i):Nat):Int)
theorem Qfc {f:Nat → Bool} {p:Nat} (hp:p < 6):J5 ((msk 6 f:Nat):Int) (p:Int)=((msk 6 (fun i=>f i || decide (p=i)):Nat):Int):=Q5d (by omega) hp
theorem Q3q {N:Nat → Nat → Bool} {v p:Nat} (hv:v < 6) (hp:p < 6) :
  sx (sx (mI N) v (J5 (mI N v) p)) p (J5 (sx (mI N) v (J5 (mI N v) p) p) v)=mI fun u w=>N u w || (decide (u=v) && decide (p=w)) || (decide (u=p) && decide (v=w)):=by
 funext i
 by_cases h1:i=p
 ·subst h1
  simp only [sx,if_true]
  by_cases h2:i=v
  ·subst h2
   simp only [if_true,mI]
   rw [Qfc hp,Qfc hp]
   congr 2
   try (funext w; simp)
  ·rw [if_neg h2]
   simp only [mI]
   rw [Qfc hv]
   congr 2
   funext w
   simp [h2]
 ·simp only [sx,h1,if_false]
  by_cases h2:i=v
  ·subst h2
   simp only [if_true,mI]
   rw [Qfc hp]
   congr 2
   funext w
   simp [h1]
  ·rw [if_neg h2]
   simp only [mI]
   congr 2
   funext w
   simp [h1,h2]
theorem Qsc {N N':Nat → Nat → Bool} (h:∀u w,u < 6→w < 6→N u w=N' u w):Qo (mI N)=Qo (mI N'):=by
 have:∀i,i < 6→mI N i=mI N' i:=fun i hi=>by unfold mI; rw [Qak fun w hw=>h i w hi hw]
 unfold Qo
 rw [this 0 (by omega),this 1 (by omega),this 2 (by omega),this 3 (by omega),this 4 (by omega),this 5 (by omega)]
def dn (v p a b:Nat):Bool:=decide (a < v) || (decide (a=v) && decide (b < p))
def nrP (S:Nat → Nat) (v p u w:Nat):Bool:=(dn v p u w && (S u).testBit w) || (dn v p w u && (S w).testBit u)
def near (S:Nat → Nat) (u w:Nat):Bool:=(S u).testBit w || (S w).testBit u
def nrN (n:Nat) (S:Nat → Nat) (u w:Nat):Bool:=(decide (u < n) && (S u).testBit w) || (decide (w < n) && (S w).testBit u)
theorem Qas {n:Nat} {S:Nat → Nat} (hn:n≤6) (h:Gd n S):Zu (Qg n S)=some ⟨(n:Int),Qo (mI (nrN n S))⟩:=by
 have hlen:(Qg n S).length=n:=Z3
 have h64:∀v,v < n→S v < 18446744073709551616:=fun v hv=>by
  have:=Qco (h.inn v hv)
  have:(2:Nat)^n≤256:=Nat.pow_le_pow_right (n:=2) (by omega) (show n≤8 by omega)
  omega
 have inner:∀v,v < n→Qb fuel (Zn (Qg n S) (S v:Int)) ((v:Int),(v:Int),(0:Int),Qo (mI (nrP S v 0)))=some ((v:Int),Qo (mI (nrP S v n))):=fun v hv=>by
  have h1:=Vn (n:=n) (k0:=0) (by omega) (by omega) (fun i (x:Int × Int × Int × Int × Int × Int)=>((v:Int),(v:Int),i,x)) (body:=Zn (Qg n S) (S v:Int)) (fun k=>Qo (mI (nrP S v k))) ((v:Int),Qo (mI (nrP S v n)))
   (fun k _ hk=>by
    have hd:decide ((k:Int) < ((Qg n S).length:Int))=true:=by rw [hlen]; exact dlt hk
    by_cases hb:(S v).testBit k=true
    ·rw [Q32 (by omega) (by omega) hd (by rw [Qmd (h64 v hv) (by omega),hb]; rfl),Q3q (by omega) (by omega)]
     refine congrArg (fun X=>some (Qf.next ((v:Int),(v:Int),zw ((k:Int)+1),Qo (mI X)))) ?_
     funext u w
     unfold nrP dn
     by_cases e1:u=v
     ·by_cases e2:w=k
      ·subst e1; subst e2; simp [hb]
      ·have e3:decide (w < k+1)=decide (w < k):=by rw [Bool.eq_iff_iff]; simp; omega
       have e3':¬ k=w:=fun e=>e2 e.symm
       subst e1
       simp only [e3,e3',decide_false,Bool.and_false,Bool.or_false,decide_true,Bool.true_and]
       by_cases e4:w=u
       ·subst e4
        by_cases e5:w=k
        ·exact absurd e5 e2
        ·have e6:decide (w < k+1)=decide (w < k):=by rw [Bool.eq_iff_iff]; simp; omega
         simp [e6,e2]
       ·have e7:¬ u=w:=fun e=>e4 e.symm
        simp [e4,e7]
     ·have e1':¬ v=u:=fun e=>e1 e.symm
      by_cases e2:w=v
      ·by_cases e3:u=k
       ·subst e2; subst e3; simp [hb]
       ·subst e2
        have e4:decide (u < k+1)=decide (u < k):=by rw [Bool.eq_iff_iff]; simp; omega
        simp [e1,e3,e4]
      ·have e2':¬ v=w:=fun e=>e2 e.symm
       simp [e1,e2,e1',e2']
    ·rw [Q1a hd (by rw [Qmd (h64 v hv) (by omega),Bool.eq_false_iff.2 hb]; simp)]
     refine congrArg (fun X=>some (Qf.next ((v:Int),(v:Int),zw ((k:Int)+1),Qo (mI X)))) ?_
     have hb':=Bool.eq_false_iff.2 hb
     funext u w
     unfold nrP dn
     have e1:((decide (u < v) || decide (u=v) && decide (w < k)) && (S u).testBit w)=((decide (u < v) || decide (u=v) && decide (w < k+1)) && (S u).testBit w):=by
      by_cases e:u=v
      ·subst e
       by_cases e2:w=k
       ·subst e2; simp [hb']
       ·have e3:decide (w < k+1)=decide (w < k):=by rw [Bool.eq_iff_iff]; simp; omega
        rw [e3]
      ·simp [e]
     have e2:((decide (w < v) || decide (w=v) && decide (u < k)) && (S w).testBit u)=((decide (w < v) || decide (w=v) && decide (u < k+1)) && (S w).testBit u):=by
      by_cases e:w=v
      ·subst e
       by_cases e2:u=k
       ·subst e2; simp [hb']
       ·have e3:decide (u < k+1)=decide (u < k):=by rw [Bool.eq_iff_iff]; simp; omega
        rw [e3]
      ·simp [e]
     rw [e1,e2])
   (by unfold Zn; dsimp only; rw [hlen,if_neg (nlt n)])
  rw [show ((0:Nat):Int)=0 from rfl] at h1
  exact h1
 have h2:=Vn (n:=n) (k0:=0) (by omega) (by omega) (fun i (x:Int × Int × Int × Int × Int × Int)=>(i,x)) (body:=Vm (Qg n S)) (fun k=>Qo (mI (nrP S k 0))) (Qo (mI (nrN n S)))
  (fun k _ hk=>by
   unfold Vm
   dsimp only
   rw [hlen,if_pos (dlt hk),Z4 hk,Option.bind_some]
   have:=inner k hk
   unfold Qo at this ⊢
   rw [this,Option.bind_some]
   dsimp only
   have e:Qo (mI (nrP S k n))=Qo (mI (nrP S (k+1) 0)):=Qsc fun u w hu hw=>by
    unfold nrP dn
    have key:∀a b,((decide (a < k) || decide (a=k) && decide (b < n)) && (S a).testBit b)=((decide (a < k+1) || decide (a=k+1) && decide (b < 0)) && (S a).testBit b):=fun a b=>by
     by_cases e:a=k
     ·subst e
      cases hb:(S a).testBit b with
      | false=>simp
      | true=>have:=h.inn a hk b hb; simp [this]
     ·have e3:decide (a < k+1)=decide (a < k):=by rw [Bool.eq_iff_iff]; simp; omega
      simp [e,e3]
    rw [key u w,key w u]
   unfold Qo at e
   rw [e])
  (by
   unfold Vm
   dsimp only
   rw [hlen,if_neg (nlt n)]
   have e:Qo (mI (nrP S n 0))=Qo (mI (nrN n S)):=Qsc fun u w hu hw=>by
    unfold nrP nrN dn; simp
   unfold Qo at e ⊢
   rw [e])
 rw [show ((0:Nat):Int)=0 from rfl] at h2
 have e0:Qo (mI (nrP S 0 0))=(0,0,0,0,0,0):=by
  have:mI (nrP S 0 0)=fun _=>0:=by
   funext i
   unfold mI
   rw [Qak (q:=fun _=>false) fun w _=>by unfold nrP dn; simp]
   rfl
  rw [this]; rfl
 rw [e0] at h2
 unfold Zu
 rw [h2,hlen]
 rfl
theorem Qe1 {m:Int} {N:Nat → Nat → Bool} {a c:Nat} (ha:a < 6) (hc:c < 64):Qj ⟨m,Qo (mI N)⟩ (a:Int) (c:Int)=some ((msk 6 (N a)).testBit c):=by
 have hlt:∀i,msk 6 (N i) < 18446744073709551616:=fun i=>Q29 (by omega) (msk_lt 6 _)
 have key:∀i,((zv (zb (Int.fdiv (mI N i) (2^min (Int.toNat (c:Int)) (IntKind.bits .u64))) &&& zb 1).toNat)==1)=(msk 6 (N i)).testBit c:=fun i=>by
  unfold mI
  rw [Qmd (hlt i) hc]
  cases (msk 6 (N i)).testBit c <;> rfl
 have ha':a=0∨a=1∨a=2∨a=3∨a=4∨a=5:=by omega
 unfold Qj Qo
 dsimp only
 simp only [key,if_pos (Yo c)]
 rcases ha' with rfl | rfl | rfl | rfl | rfl | rfl <;> rfl
theorem Qnm {n:Nat} {S:Nat → Nat} {u w:Nat} (hu:u < n) (hw:w < n):nrN n S u w=near S u w:=by simp [nrN,near,hu,hw]
def prs (n:Nat) (N:Nat → Nat → Bool):List (Int × Int):=apL (fun i=>apL (fun j=>if N i j=true then [((i:Int),(j:Int))] else []) (i+1) (n - (i+1))) 0 n
def cls (n:Nat) (S:Nat → Nat):List (Int × Int × Int) :=
 apL (fun a=>apL (fun b=>apL (fun c=>if ((S b).testBit a && (S b).testBit c && !near S a c)=true then [((a:Int),(b:Int),(c:Int))] else []) (a+1) (n - (a+1))) 0 n) 0 n
theorem Js {α:Type} {c:Bool} {x:α}:(if c=true then [x] else []).length≤1:=by split <;> simp
theorem Qmm {k:Nat} (h:k < 100):zw ((k:Int)+1)=((k+1:Nat):Int):=Qso (by omega)
theorem Qtk {n:Nat} {S:Nat → Nat} (hn:n≤6):Zc ⟨(n:Int),Qo (mI (nrN n S))⟩=some (prs n (near S)):=by
 have inner:∀i o,i < n→o.length≤100→Qb fuel (Xk ⟨(n:Int),Qo (mI (nrN n S))⟩ ((i:Int),o)) (((i+1:Nat):Int),o)=some (o++apL (fun j=>if near S i j=true then [((i:Int),(j:Int))] else []) (i+1) (n - (i+1))):=fun i o hi ho =>
  Vu (m:=1) (c:=100) (by omega) (by omega) (fun k (x:List (Int × Int))=>(k,x)) (body:=Xk ⟨(n:Int),Qo (mI (nrN n S))⟩ ((i:Int),o)) _ id (fun _=>Js) ho
   (fun k x h1 h2 hx=>by
    unfold Xk
    dsimp only
    rw [if_pos (dlt h2)]
    have:=Qe1 (m:=(n:Int)) (N:=nrN n S) (a:=i) (c:=k) (by omega) (by omega)
    unfold Qo at this ⊢
    dsimp only
    rw [this,Option.bind_some,Z7,Qnm hi h2]
    have hk6:k < 6:=by omega
    simp only [hk6,decide_true,Bool.true_and]
    by_cases hb:near S i k=true
    ·rw [if_pos hb,if_pos hb,if_pos (by rw [List.length_append]; simp; omega)]
    ·rw [if_neg hb,if_neg hb,List.append_nil])
   (fun x=>by unfold Xk; dsimp only; rw [if_neg (nlt n)]; rfl)
 have outer:=Vu (n:=n) (k0:=0) (m:=6) (c:=0) (by omega) (by omega) (fun k (x:List (Int × Int))=>(k,x)) (body:=Yp ⟨(n:Int),Qo (mI (nrN n S))⟩)
  (fun i=>if i < n then apL (fun j=>if near S i j=true then [((i:Int),(j:Int))] else []) (i+1) (n - (i+1)) else []) id (fun i=>by
   split
   ·have:=Z6 (L:=fun j=>if near S i j=true then [((i:Int),(j:Int))] else []) (k0:=i+1) (m:=1) (fun _=>Js) (n - (i+1)); omega
   ·simp) (out:=[]) (by simp)
  (fun k o _ hk ho=>by
   unfold Yp
   dsimp only
   rw [if_pos (dlt hk),Qmm (by omega),inner k o hk (by omega),Option.bind_some,if_pos hk])
  (fun o=>by unfold Yp; dsimp only; rw [if_neg (nlt n)]; rfl)
 unfold Zc
 rw [show ((0:Nat):Int)=0 from rfl] at outer
 rw [outer,Option.bind_some,List.nil_append,Nat.sub_zero]
 show some (apL _ 0 n)=_
 rw [Zf n (L':=fun i=>apL (fun j=>if near S i j=true then [((i:Int),(j:Int))] else []) (i+1) (n - (i+1))) fun i _ h=>by rw [if_pos (by omega)]]
 rfl
end Go.Ab
