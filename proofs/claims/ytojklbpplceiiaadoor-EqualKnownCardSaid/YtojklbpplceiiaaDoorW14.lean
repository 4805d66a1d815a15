/- What functions compute. No conditions. -/
import Derived.Test.YtojklbpplceiiaaDoorProg
import Derived.Test.YtojklbpplceiiaaDoorW10
import Derived.KernelRfl
import Derived.Test.YtojklbpplceiiaaDoorW11
import Derived.Test.YtojklbpplceiiaaDoorW13
import Derived.Test.YtojklbpplceiiaaDoorRows
import Derived.Test.YtojklbpplceiiaaDoorEng6
import Derived.WalkKit
import Derived.ProofKit
import Derived.LaidMore
import Derived.Lib.LaidTab
import Derived.Stop.LaidErr
import Derived.Stop.Joined
import Derived.OpenShut
set_option linter.all false
namespace Go.Ab
open Go Go.Proofs
set_option maxRecDepth 100000
set_option maxHeartbeats 4000000
section
attribute [local irreducible] RW WP
noncomputable abbrev o40_150:AObj:=.row false true true true 1 [.int .u64 0,.int .u64 1,.int .u64 2]
noncomputable abbrev Qsd:AObj:=.row false false true true 1 [.int .u64 0,.int .u64 5,.int .u64 0]
noncomputable abbrev Qs1 (x1:((List (Int × Int)) × Int)):AObj:=oR true 2 (fun x:(Int × Int)=>AV.agg [vI x.1,vI x.2]) x1.1
noncomputable abbrev Qsl (x3:((List (Int × Int)) × Int)):AObj:=oR true 2 (fun x:(Int × Int)=>AV.agg [vI x.1,vI x.2]) x3.1
noncomputable abbrev Qsz (x5:((List (Int × Int × Int)) × Int)):AObj:=oR true 3 (fun x:(Int × Int × Int)=>AV.agg [vI x.1,vI x.2.1,vI x.2.2]) x5.1
noncomputable abbrev Qsx (x7:((List (Int × Int × Int)) × Int)):AObj:=oR true 3 (fun x:(Int × Int × Int)=>AV.agg [vI x.1,vI x.2.1,vI x.2.2]) x7.1
noncomputable abbrev Qr1 (x13:((List (List Int)) × Int)):AObj:=oR false 1 (eL true (AV.int .u64)) x13.1
noncomputable abbrev o40_157:AObj:=.row false false true true 2 [.agg [vI 0,vI 1],.agg [vI 1,vI 2]]
noncomputable abbrev o40_158:AObj:=.row false false true true 3 [.agg [vI 0,vI 1,vI 2]]
noncomputable abbrev o40_159:AObj:=.row false false true true 2 [.agg [vI 0,vI 1],.agg [vI 2,vI 1]]
noncomputable abbrev o40_160:AObj:=.row false false true true 1 [.int .u64 0,.int .u64 5,.int .u64 0,.int .u64 2]
noncomputable abbrev o40_161:AObj:=.row false false true true 2 [.agg [vI 0,vI 1],.agg [vI 1,vI 3],.agg [vI 2,vI 1]]
noncomputable abbrev o40_162:AObj:=.row false false true true 3 [.agg [vI 0,vI 2,.int .u64 0]]
noncomputable abbrev o40_163:AObj:=.row false false true true 2 [.agg [vI 0,vI 1],.agg [vI 0,vI 2],.agg [vI 1,vI 2]]
noncomputable abbrev o40_164:AObj:=.row false true true true 1 [.int .u64 2,.int .u64 0,.int .u64 2]
noncomputable abbrev o40_165:AObj:=.row false true true true 1 [.int .u64 2,.int .u64 4,.int .u64 0]
noncomputable abbrev o40_166:AObj:=oR false 1 (eL true (AV.int .u64)) ([[0,1,2],[2,0,2],[2,4,0]]:(List (List Int)))
noncomputable abbrev l40_167 (x1 x3:((List (Int × Int)) × Int)) (x5 x7:((List (Int × Int × Int)) × Int)) (x13:((List (List Int)) × Int)) (x15 x17:((List Tapi_Fact) × Int)):List AObj:=[o40_150,Qsd,(Qs1 x1),(Qsl x3),(Qsz x5),(Qsx x7),(Qr1 x13),oR true 3 eTapi_Fact x15.1,oR true 3 eTapi_Fact x17.1]
theorem g_law31_works_ok  : Ct Tryd.prog 12 [] (Qfd) (fun x=>vB x) (fun x=>[]):=by
 refine hfn [] Tryd.func12 <| hop 1 (fun _=>sgL false [] [] true gE) <| hop 0 (fun _=>sgL false [] [] true gE) <| hcl 3 [] (g_equal_Skeleton_ok [0,1,2]) fun x1 _=>hcl 6 [] (g_equal_Skeleton_ok [0,5,0]) fun x3 _=>hcl 6 [] (Jw [0,1,2]) fun x5 _=>hcl 6 [] (Jw [0,5,0]) fun x7 _=>hcl 7 [] (g_equal_Equal_ok [0,1,2] [0,5,0]) fun x9 _=>hop 6 (fun _=>sgL false [] [] true gE) <| ?_
 refine hcl 0 [] (g_equal_Equal_ok [0,1,2] [2,0,2]) fun x11 _=>hcl 6 [] (g_equal_Members_ok [0,1,2]) fun x13 _=>hcl 6 [] (g_equal_Facts_ok [0,1,2]) fun x15 _=>hcl 6 [] (g_equal_Facts_ok [0,5,0]) fun x17 _=>hop 7 (fun _=>sgL false [] [] true gE) <| hcl 0 [] (g_equal_Learn_ok 3 [(Tapi_Fact.mk 0 2 0),(Tapi_Fact.mk 0 2 2)]) fun x19 _=>hop 3 (fun _=>sgL false [] [] false gE) <| hcl 2 [] (us:=[vI 6,.nils]) (rv:=fun x21=>.tup [.agg [vI x21.1.N,.ref 0 0 x21.1.Arrows.length,.ref 1 0 x21.1.Lines.length],vI x21.2]) (ro:=fun x21=>[oR true 2 (fun x:(Int × Int)=>AV.agg [vI x.1,vI x.2]) x21.1.Arrows,oR true 2 (fun x:(Int × Int)=>AV.agg [vI x.1,vI x.2]) x21.1.Lines]) (fun x21 q22=>Qv.args [[.keep],[.lst true]] (g_equal_Learn_ok 6 [] x21 q22)) fun x21 _=>hop 3 (fun _=>sgL false [] [] false gE) <| ?_
 refine hop 3 (fun _=>sgL false [] [] true gE) <| hcl 0 [] (g_equal_Learn_ok 2 [(Tapi_Fact.mk 1 0 0)]) fun x23 _=>hop 3 (fun _=>sgL false [] [] false gE) <| hop 11 (fun _=>sgL false [] [] true gE) <| hlp 2 (fun s25=>⟨[(1,.ref 0 0 3),(2,.ref 1 0 3),(3,.ref 2 0 x1.1.length),(5,.ref 3 0 x3.1.length),(7,.ref 4 0 x5.1.length),(9,.ref 5 0 x7.1.length),(11,vB x9.1),(13,vB x11.1),(15,.ref 6 0 x13.1.length),(17,.ref 7 0 x15.1.length),(19,.ref 8 0 x17.1.length),(22,vI x19.2),(24,vI x21.2),(26,vI x23.2),(106,.ref 9 0 (([x1.2,x3.2,x5.2,x7.2,x9.2,x11.2,x13.2,x15.2,x17.2]:(List Int)).length)),(107,vI 9),(108,vI s25)],(l40_167 x1 x3 x5 x7 x13 x15 x17)++[oR true 1 eI ([x1.2,x3.2,x5.2,x7.2,x9.2,x11.2,x13.2,x15.2,x17.2]:(List Int))],228⟩) (fun x=>match x with | .inl v=>(.ret,⟨[(0,vB false)],[],228⟩) | .inr v=>(.exit 0,⟨[(1,.ref 0 0 3),(2,.ref 1 0 3),(3,.ref 2 0 x1.1.length),(5,.ref 3 0 x3.1.length),(7,.ref 4 0 x5.1.length),(9,.ref 5 0 x7.1.length),(11,vB x9.1),(13,vB x11.1),(15,.ref 6 0 x13.1.length),(17,.ref 7 0 x15.1.length),(19,.ref 8 0 x17.1.length),(22,vI x19.2),(24,vI x21.2),(26,vI x23.2)],(l40_167 x1 x3 x5 x7 x13 x15 x17),228⟩)) (wz [0,1,2,3,4,5,7,8,9,21]) (fun s25=>?_) (hsm (fun x33=>?_) (fun x34=>?_))
 ·refine hbr 1 [109] (?_) ?_
  ·refine hbd fun a28 q29=>hop 1 (fun _=>X9 (enc:=eI) (l:=([x1.2,x3.2,x5.2,x7.2,x9.2,x11.2,x13.2,x15.2,x17.2]:(List Int))) (n:=s25) (w:=1) (ob:=9) (ro:=false) (nr:=true) (fl:=true) (a:=a28) kr kr gE q29) <| hop 0 (fun _=>V2 (enc:=eI) (l:=([x1.2,x3.2,x5.2,x7.2,x9.2,x11.2,x13.2,x15.2,x17.2]:(List Int))) (n:=s25) (w:=1) (ob:=9) (c:=0) (bx:=false) (ro:=false) (nr:=true) (fl:=true) (a:=a28) kr kr q29 gE) <| hbr 3 [113] (hdx 2 (wz [])) <| ?_
   refine hnx 3 (wz [0,1,2,3,4,5,6,7,8,9])
  refine hdx 1 (wz [0,1,2,3,4,5,6,7,8])
 ·refine hrt 0
 refine hop 2 (fun _=>sgL false [] [] true gE) <| hcl 3 [F (fun x:(Int × Int)=>AV.agg [vI x.1,vI x.2]) x1.1] (Xt x1.1 [(0,1),(1,2)]) fun x35 _=>hbr 1 [120,121] (?_) ?_
 ·refine hcl 2 [F (fun x:(Int × Int)=>AV.agg [vI x.1,vI x.2]) x3.1] (Xt x3.1 [(0,1),(1,2)]) fun x39 _=>hbr 2 [124,125,126] (?_) ?_
  ·refine hbr 5 [129,130,131] (?_) ?_
   ·refine hop 2 (fun _=>sgL false [] [] true gE) <| hcl 0 [F (fun x:(Int × Int × Int)=>AV.agg [vI x.1,vI x.2.1,vI x.2.2]) x7.1] (Qc6 x7.1 [(0,1,2)]) fun x45 _=>hbr 2 [135,136,137] (?_) ?_
    ·refine hbr 4 [139,140,141] (?_) ?_
     ·refine hbr 3 [13,142,143,144] (?_) ?_
      ·refine hbr 4 [146,147,148] (?_) ?_
       ·refine hbr 4 [150,151,152] (?_) ?_
        ·refine hbr 6 [154,155,30,156,157] (?_) ?_
         ·refine hcl 2 [] (us:=[.lst true [.int .u64 0,.int .u64 1,.int .u64 2],.nils,.lst true [.agg [vI 0,vI 1],.agg [vI 1,vI 2]]]) (rv:=fun x59=>vB x59) (ro:=fun x59=>[]) (fun x59 q60=>Qv.args [[.keep],[.lst true],[.keep]] (g_law31_essential_ok [0,1,2] [] [(0,1),(1,2)] x59 q60)) fun x59 _=>hbr 2 [160,161,162] (?_) ?_
          ·refine hop 3 (fun _=>sgL false [] [] true gE) <| hcl 0 [] (us:=[.lst true [.int .u64 0,.int .u64 5,.int .u64 0],.lst true [.agg [vI 0,vI 1],.agg [vI 2,vI 1]],.nils]) (rv:=fun x63=>vB x63) (ro:=fun x63=>[]) (fun x63 q64=>Qv.args [[.keep],[.keep],[.lst true]] (g_law31_essential_ok [0,5,0] [(0,1),(2,1)] [] x63 q64)) fun x63 _=>hbr 2 [167,168,169] (?_) ?_
           ·refine hop 0 (fun _=>sgL false [] [] true gE) <| hop 3 (fun _=>sgL false [] [] true gE) <| hcl 0 [] (us:=[.lst true [.int .u64 0,.int .u64 5,.int .u64 0,.int .u64 2],.lst true [.agg [vI 0,vI 1],.agg [vI 1,vI 3],.agg [vI 2,vI 1]],.nils]) (rv:=fun x67=>vB x67) (ro:=fun x67=>[]) (fun x67 q68=>Qv.args [[.keep],[.keep],[.lst true]] (g_law31_essential_ok [0,5,0,2] [(0,1),(1,3),(2,1)] [] x67 q68)) fun x67 _=>hbr 2 [175,176,177] (?_) ?_
            ·refine hop 1 (fun _=>sgL false [] [] true gE) <| hop 2 (fun _=>sgL false [] [] true gE) <| hcl 0 [] (us:=[vI 3,.lst true [.agg [vI 0,vI 2,.int .u64 0]],.lst true [.agg [vI 0,vI 1],.agg [vI 2,vI 1]],.nils]) (rv:=fun x71=>vB x71) (ro:=fun x71=>[]) (fun x71 q72=>Qv.args [[.keep],[.keep],[.keep],[.lst true]] (Yd 3 [(Tapi_Fact.mk 0 2 0)] [(0,1),(2,1)] [] x71 q72)) fun x71 _=>hbr 2 [183,184,185] (?_) ?_
             ·refine hop 3 (fun _=>sgL false [] [] true gE) <| hcl 0 [] (us:=[vI 3,.nils,.nils,.lst true [.agg [vI 0,vI 1],.agg [vI 0,vI 2],.agg [vI 1,vI 2]]]) (rv:=fun x75=>vB x75) (ro:=fun x75=>[]) (fun x75 q76=>Qv.args [[.keep],[.lst true],[.lst true],[.keep]] (Yd 3 [] [] [(0,1),(0,2),(1,2)] x75 q76)) fun x75 _=>hbr 4 [30,190,191,192,193] (?_) ?_
              ·refine hop 1 (fun _=>sgL false [] [] true gE) <| hop 0 (fun _=>sgL false [] [] true gE) <| hop 0 (fun _=>sgL false [] [] true gE) <| hbs 0 [.lst true] false [] <| hil 0 Tryd.func38 <| hbr 6 [14] (hrt 34) <| ?_
               refine hlp 4 (fun s81=>⟨[(1,.ref 20 0 (([[0,1,2],[2,0,2],[2,4,0]]:(List (List Int))).length)),(2,.fn (.func 48) [] []),(15,.ref 6 0 x13.1.length),(16,vI (zn x13.1)),(17,vI s81)],(l40_167 x1 x3 x5 x7 x13 x15 x17)++[o40_157,o40_158,o40_159,o40_160,o40_161,o40_162,o40_159,o40_163,o40_150,o40_164,o40_165,o40_166],32⟩) (fun x=>match x with | .inl v=>(.ret,⟨[(6,vB false)],(l40_167 x1 x3 x5 x7 x13 x15 x17)++[o40_157,o40_158,o40_159,o40_160,o40_161,o40_162,o40_159,o40_163,o40_150,o40_164,o40_165,o40_166],32⟩) | .inr v=>(.exit 0,⟨[],(l40_167 x1 x3 x5 x7 x13 x15 x17)++[o40_157,o40_158,o40_159,o40_160,o40_161,o40_162,o40_159,o40_163,o40_150,o40_164,o40_165,o40_166],32⟩)) (wz []) (fun s81=>?_) (hsm (fun x93=>?_) (fun x94=>?_))
               ·refine hbr 1 [18] (?_) ?_
                ·refine hbd fun a84 q85=>hop 2 (fun _=>X9 (enc:=(eL true (AV.int .u64))) (l:=x13.1) (n:=s81) (w:=1) (ob:=6) (ro:=false) (nr:=true) (fl:=false) (a:=a84) kr kr gE q85) <| hop 0 (fun _=>V2 (enc:=(eL true (AV.int .u64))) (l:=x13.1) (n:=s81) (w:=1) (ob:=6) (c:=0) (bx:=false) (ro:=false) (nr:=true) (fl:=false) (a:=a84) kr kr q85 gE) <| hbd fun a86 q87=>hop 4 (fun _=>X9 (enc:=(eL true (AV.int .u64))) (l:=([[0,1,2],[2,0,2],[2,4,0]]:(List (List Int)))) (n:=s81) (w:=1) (ob:=20) (ro:=false) (nr:=true) (fl:=false) (a:=a86) kr kr gE q87) <| hop 0 (fun _=>V2 (enc:=(eL true (AV.int .u64))) (l:=([[0,1,2],[2,0,2],[2,4,0]]:(List (List Int)))) (n:=s81) (w:=1) (ob:=20) (c:=0) (bx:=false) (ro:=false) (nr:=true) (fl:=false) (a:=a86) kr kr q87 gE) <| hcl 4 [] (g_law31_works_1_ok a84 a86) fun x88 _=>hbr 1 [30] (hdx 2 (wz [])) <| ?_
                 refine hnx 3 (wz [])
                refine hdx 1 (wz [])
               ·refine hrt 31
               refine hwk 1 (wl [6] []) <| hop 5 (fun _=>sgL false [] [] true gE) <| hcl 0 [F eTapi_Fact x15.1] (g_slices_Equal_api_Fact_api_Fact_ok x15.1 [(Tapi_Fact.mk 0 2 2)]) fun x95 _=>hbr 2 [205,206,207] (?_) ?_
               ·refine hop 2 (fun _=>sgL false [] [] true gE) <| hcl 0 [F eTapi_Fact x17.1] (g_slices_Equal_api_Fact_api_Fact_ok x17.1 [(Tapi_Fact.mk 0 2 0)]) fun x99 _=>hbr 4 [30,211,212,213,214] (?_) ?_
                ·refine hop 0 (fun _=>sgL false [] [] true gE) <| hcl 0 [] (g_equal_Check_ok [2,1]) fun x103 _=>hbr 3 [217,218,219] (?_) ?_
                 ·refine hop 0 (fun _=>sgL false [] [] true gE) <| hcl 0 [] (g_equal_Check_ok [1]) fun x107 _=>hbr 3 [222,223,224] (?_) ?_
                  ·refine hcl 0 [] (us:=[.nils]) (rv:=fun x111=>vI x111) (ro:=fun x111=>[]) (fun x111 q112=>Qv.args [[.lst true]] (g_equal_Check_ok [] x111 q112)) fun x111 _=>hrt 4
                  refine hrt 5
                 refine hrt 10
                refine hrt 15
               refine hrt 23
              refine hrt 37
             refine hrt 46
            refine hrt 54
           refine hrt 62
          refine hrt 69
         refine hrt 74
        refine hrt 80
       refine hrt 84
      refine hrt 88
     refine hrt 91
    refine hrt 95
   refine hrt 101
  refine hrt 106
 refine hrt 111
end
section
attribute [local irreducible] RW WP
theorem g_law31_EqualKnown_ok  : Ct Tryd.prog 6 [] (Kz) (fun x=>vB x) (fun x=>[]):=by
 refine hfn [] Tryd.func6 <| hop 1 (fun _=>sgL false [] [] true gE) <| hcl 2 [] (g_equal_Members_ok [0,1,3,7,15]) fun x1 _=>hop 5 (fun _=>sgL false [] [] true gE) <| hcl 0 [] (g_equal_Essential_ok [0,1,3,7,15,31]) fun x3 _=>hop 3 (fun _=>sgL false [] [] false gE) <| hop 2 (fun _=>sgL false [] [] true gE) <| hcl 0 [] (g_equal_Members_ok [0,0,0,0,0,0]) fun x5 _=>hop 5 (fun _=>sgL false [] [] true gE) <| ?_
 refine hcl 0 [] (g_equal_Facts_ok [0,0,0,0,0,0]) fun x7 _=>hcl 6 [] (g_equal_Facts_ok [0,1,3,7,15]) fun x9 _=>hop 5 (fun _=>sgL false [] [] true gE) <| hcl 0 [] (g_equal_Facts_ok [0,0,0,0,0]) fun x11 _=>hop 5 (fun _=>sgL false [] [] true gE) <| hop 0 (fun _=>sgL false [] [] true gE) <| hcl 0 [] (g_equal_Equal_ok [0] [1]) fun x13 _=>hop 5 (fun _=>sgL false [] [] true gE) <| hop 0 (fun _=>sgL false [] [] true gE) <| ?_
 refine hcl 0 [] (g_equal_Equal_ok [0] [0,0]) fun x15 _=>hop 6 (fun _=>sgL false [] [] true gE) <| hcl 0 [] (g_equal_Learn_ok 0 [(Tapi_Fact.mk 5 0 0)]) fun x17 _=>hop 3 (fun _=>sgL false [] [] false gE) <| hop 3 (fun _=>sgL false [] [] true gE) <| hcl 0 [] (g_equal_Learn_ok 3 [(Tapi_Fact.mk 0 1 8)]) fun x19 _=>hop 3 (fun _=>sgL false [] [] false gE) <| hop 3 (fun _=>sgL false [] [] true gE) <| hcl 0 [] (g_equal_Learn_ok 3 [(Tapi_Fact.mk 0 1 2)]) fun x21 _=>?_
 refine hop 3 (fun _=>sgL false [] [] false gE) <| hop 4 (fun _=>sgL false [] [] true gE) <| hcl 0 [] (g_equal_Learn_ok 3 [(Tapi_Fact.mk 0 1 0),(Tapi_Fact.mk 0 1 0)]) fun x23 _=>hop 3 (fun _=>sgL false [] [] false gE) <| hop 3 (fun _=>sgL false [] [] true gE) <| hcl 0 [] (g_equal_Learn_ok 3 [(Tapi_Fact.mk (-1) 1 0)]) fun x25 _=>hop 3 (fun _=>sgL false [] [] false gE) <| hbr 5 [104,105] (hrt 80) <| ?_
 refine hbr 5 [108,109,110] (hrt 75) <| ?_
 refine hbr 4 [112,113,114] (hrt 71) <| ?_
 refine hbr 6 [118,119,120] (hrt 65) <| ?_
 refine hbr 6 [124,125,126] (hrt 59) <| ?_
 refine hbr 4 [128,129,130] (hrt 55) <| ?_
 refine hbr 4 [132,133,134] (hrt 51) <| ?_
 refine hbr 4 [136,137,138] (hrt 47) <| ?_
 refine hbr 5 [141,142,143] (hrt 42) <| ?_
 refine hbr 4 [145,146,147] (hrt 38) <| ?_
 refine hbr 5 [150,151,152] (hrt 33) <| ?_
 refine hbr 4 [154,155,156] (hrt 29) <| ?_
 refine hbt 3 (fun b51=>⟨[(0,vB false),(29,.ref 0 0 5),(1,.ref 0 0 5),(31,.ref 0 0 5),(32,.tup [.ref 1 0 x1.1.length,vI x1.2]),(30,.tup [.ref 1 0 x1.1.length,vI x1.2]),(33,.ref 1 0 x1.1.length),(34,vI x1.2),(2,.ref 1 0 x1.1.length),(3,vI x1.2),(36,.ref 2 0 6),(37,.tup [.agg [vI x3.1.N,.ref 3 0 x3.1.Arrows.length,.ref 4 0 x3.1.Lines.length],vI x3.2]),(35,.tup [.agg [vI x3.1.N,.ref 3 0 x3.1.Arrows.length,.ref 4 0 x3.1.Lines.length],vI x3.2]),(38,.agg [vI x3.1.N,.ref 3 0 x3.1.Arrows.length,.ref 4 0 x3.1.Lines.length]),(39,vI x3.2),(4,.ptr 5 0 0),(5,vI x3.2),(41,.ref 6 0 6),(42,.tup [.ref 7 0 x5.1.length,vI x5.2]),(40,.tup [.ref 7 0 x5.1.length,vI x5.2]),(43,.ref 7 0 x5.1.length),(44,vI x5.2),(6,.ref 7 0 x5.1.length),(7,vI x5.2),(46,.ref 8 0 6),(47,.tup [.ref 9 0 x7.1.length,vI x7.2]),(45,.tup [.ref 9 0 x7.1.length,vI x7.2]),(48,.ref 9 0 x7.1.length),(49,vI x7.2),(8,.ref 9 0 x7.1.length),(9,vI x7.2),(51,.ref 0 0 5),(52,.tup [.ref 10 0 x9.1.length,vI x9.2]),(50,.tup [.ref 10 0 x9.1.length,vI x9.2]),(53,.ref 10 0 x9.1.length),(54,vI x9.2),(10,.ref 10 0 x9.1.length),(11,vI x9.2),(56,.ref 11 0 5),(57,.tup [.ref 12 0 x11.1.length,vI x11.2]),(55,.tup [.ref 12 0 x11.1.length,vI x11.2]),(58,.ref 12 0 x11.1.length),(59,vI x11.2),(12,.ref 12 0 x11.1.length),(13,vI x11.2),(61,.ref 13 0 1),(62,.ref 14 0 1),(63,.tup [vB x13.1,vI x13.2]),(60,.tup [vB x13.1,vI x13.2]),(64,vB x13.1),(65,vI x13.2),(14,vB x13.1),(15,vI x13.2),(67,.ref 15 0 1),(68,.ref 16 0 2),(69,.tup [vB b51,vI x15.2]),(66,.tup [vB b51,vI x15.2]),(70,vB b51),(71,vI x15.2),(16,vB b51),(17,vI x15.2),(73,.agg [vI 5,vI 0,.int .u64 0]),(74,.ref 17 0 1),(75,.tup [.agg [vI x17.1.N,.ref 18 0 x17.1.Arrows.length,.ref 19 0 x17.1.Lines.length],vI x17.2]),(72,.tup [.agg [vI x17.1.N,.ref 18 0 x17.1.Arrows.length,.ref 19 0 x17.1.Lines.length],vI x17.2]),(76,.agg [vI x17.1.N,.ref 18 0 x17.1.Arrows.length,.ref 19 0 x17.1.Lines.length]),(77,vI x17.2),(18,.ptr 20 0 0),(19,vI x17.2),(79,.agg [vI 0,vI 1,.int .u64 8]),(80,.ref 21 0 1),(81,.tup [.agg [vI x19.1.N,.ref 22 0 x19.1.Arrows.length,.ref 23 0 x19.1.Lines.length],vI x19.2]),(78,.tup [.agg [vI x19.1.N,.ref 22 0 x19.1.Arrows.length,.ref 23 0 x19.1.Lines.length],vI x19.2]),(82,.agg [vI x19.1.N,.ref 22 0 x19.1.Arrows.length,.ref 23 0 x19.1.Lines.length]),(83,vI x19.2),(20,.ptr 24 0 0),(21,vI x19.2),(85,.agg [vI 0,vI 1,.int .u64 2]),(86,.ref 25 0 1),(87,.tup [.agg [vI x21.1.N,.ref 26 0 x21.1.Arrows.length,.ref 27 0 x21.1.Lines.length],vI x21.2]),(84,.tup [.agg [vI x21.1.N,.ref 26 0 x21.1.Arrows.length,.ref 27 0 x21.1.Lines.length],vI x21.2]),(88,.agg [vI x21.1.N,.ref 26 0 x21.1.Arrows.length,.ref 27 0 x21.1.Lines.length]),(89,vI x21.2),(22,.ptr 28 0 0),(23,vI x21.2),(91,.agg [vI 0,vI 1,.int .u64 0]),(92,.agg [vI 0,vI 1,.int .u64 0]),(93,.ref 29 0 2),(94,.tup [.agg [vI x23.1.N,.ref 30 0 x23.1.Arrows.length,.ref 31 0 x23.1.Lines.length],vI x23.2]),(90,.tup [.agg [vI x23.1.N,.ref 30 0 x23.1.Arrows.length,.ref 31 0 x23.1.Lines.length],vI x23.2]),(95,.agg [vI x23.1.N,.ref 30 0 x23.1.Arrows.length,.ref 31 0 x23.1.Lines.length]),(96,vI x23.2),(24,.ptr 32 0 0),(25,vI x23.2),(98,.agg [vI (-1),vI 1,.int .u64 0]),(99,.ref 33 0 1),(100,.tup [.agg [vI x25.1.N,.ref 34 0 x25.1.Arrows.length,.ref 35 0 x25.1.Lines.length],vI x25.2]),(97,.tup [.agg [vI x25.1.N,.ref 34 0 x25.1.Arrows.length,.ref 35 0 x25.1.Lines.length],vI x25.2]),(101,.agg [vI x25.1.N,.ref 34 0 x25.1.Arrows.length,.ref 35 0 x25.1.Lines.length]),(102,vI x25.2),(26,.ptr 36 0 0),(27,vI x25.2),(103,vI x1.2),(104,vB false),(105,vB false),(106,.ref 1 0 x1.1.length),(107,vI (zn x1.1)),(108,vB false),(109,vB false),(110,vB false),(111,vI x3.2),(112,vB false),(113,vB false),(114,vB false),(115,.ptr 5 0 2),(116,.ref 4 0 x3.1.Lines.length),(117,vI (zn x3.1.Lines)),(118,vB false),(119,vB false),(120,vB false),(121,.ptr 5 0 1),(122,.ref 3 0 x3.1.Arrows.length),(123,vI (zn x3.1.Arrows)),(124,vB false),(125,vB false),(126,vB false),(127,vI x5.2),(128,vB false),(129,vB false),(130,vB false),(131,vI x7.2),(132,vB false),(133,vB false),(134,vB false),(135,vI x9.2),(136,vB false),(137,vB false),(138,vB false),(139,.ref 10 0 x9.1.length),(140,vI (zn x9.1)),(141,vB false),(142,vB false),(143,vB false),(144,vI x11.2),(145,vB false),(146,vB false),(147,vB false),(148,.ref 12 0 x11.1.length),(149,vI (zn x11.1)),(150,vB false),(151,vB false),(152,vB false),(153,vI x13.2),(154,vB false),(155,vB false),(156,vB false),(157,vB b51),(158,vB b51),(159,vB b51)],[.row false true true true 1 [.int .u64 0,.int .u64 1,.int .u64 3,.int .u64 7,.int .u64 15],oR false 1 (eL true (AV.int .u64)) x1.1,.row false false true true 1 [.int .u64 0,.int .u64 1,.int .u64 3,.int .u64 7,.int .u64 15,.int .u64 31],oR true 2 (fun x:(Int × Int)=>AV.agg [vI x.1,vI x.2]) x3.1.Arrows,oR true 2 (fun x:(Int × Int)=>AV.agg [vI x.1,vI x.2]) x3.1.Lines,oX false false 3 (.agg [vI x3.1.N,.ref 3 0 x3.1.Arrows.length,.ref 4 0 x3.1.Lines.length]),.row false true true true 1 [.int .u64 0,.int .u64 0,.int .u64 0,.int .u64 0,.int .u64 0,.int .u64 0],oR false 1 (eL true (AV.int .u64)) x5.1,.row false false true true 1 [.int .u64 0,.int .u64 0,.int .u64 0,.int .u64 0,.int .u64 0,.int .u64 0],oR true 3 eTapi_Fact x7.1,oR true 3 eTapi_Fact x9.1,.row false false true true 1 [.int .u64 0,.int .u64 0,.int .u64 0,.int .u64 0,.int .u64 0],oR true 3 eTapi_Fact x11.1,.row false false true true 1 [.int .u64 0],.row false false true true 1 [.int .u64 1],.row false false true true 1 [.int .u64 0],.row false false true true 1 [.int .u64 0,.int .u64 0],.row false false true true 3 [.agg [vI 5,vI 0,.int .u64 0]],oR true 2 (fun x:(Int × Int)=>AV.agg [vI x.1,vI x.2]) x17.1.Arrows,oR true 2 (fun x:(Int × Int)=>AV.agg [vI x.1,vI x.2]) x17.1.Lines,oX false false 3 (.agg [vI x17.1.N,.ref 18 0 x17.1.Arrows.length,.ref 19 0 x17.1.Lines.length]),.row false false true true 3 [.agg [vI 0,vI 1,.int .u64 8]],oR true 2 (fun x:(Int × Int)=>AV.agg [vI x.1,vI x.2]) x19.1.Arrows,oR true 2 (fun x:(Int × Int)=>AV.agg [vI x.1,vI x.2]) x19.1.Lines,oX false false 3 (.agg [vI x19.1.N,.ref 22 0 x19.1.Arrows.length,.ref 23 0 x19.1.Lines.length]),.row false false true true 3 [.agg [vI 0,vI 1,.int .u64 2]],oR true 2 (fun x:(Int × Int)=>AV.agg [vI x.1,vI x.2]) x21.1.Arrows,oR true 2 (fun x:(Int × Int)=>AV.agg [vI x.1,vI x.2]) x21.1.Lines,oX false false 3 (.agg [vI x21.1.N,.ref 26 0 x21.1.Arrows.length,.ref 27 0 x21.1.Lines.length]),.row false false true true 3 [.agg [vI 0,vI 1,.int .u64 0],.agg [vI 0,vI 1,.int .u64 0]],oR true 2 (fun x:(Int × Int)=>AV.agg [vI x.1,vI x.2]) x23.1.Arrows,oR true 2 (fun x:(Int × Int)=>AV.agg [vI x.1,vI x.2]) x23.1.Lines,oX false false 3 (.agg [vI x23.1.N,.ref 30 0 x23.1.Arrows.length,.ref 31 0 x23.1.Lines.length]),.row false false true true 3 [.agg [vI (-1),vI 1,.int .u64 0]],oR true 2 (fun x:(Int × Int)=>AV.agg [vI x.1,vI x.2]) x25.1.Arrows,oR true 2 (fun x:(Int × Int)=>AV.agg [vI x.1,vI x.2]) x25.1.Lines,oX false false 3 (.agg [vI x25.1.N,.ref 34 0 x25.1.Arrows.length,.ref 35 0 x25.1.Lines.length])],230⟩) (fun _=>hrt 26) fun _=>?_
 refine hbr 4 [161,162,163] (hrt 22) <| ?_
 refine hbr 4 [165,166,167] (hrt 18) <| ?_
 refine hbr 4 [169,170,171] (hrt 14) <| ?_
 refine hbr 4 [173,174,175] (hrt 10) <| ?_
 refine hbr 4 [177,178,179] (hrt 6) <| ?_
 refine hbr 3 [181,182] (hrt 3) <| ?_
 refine hop 1 (fun _=>sgL false [] [] true gE) <| hcl 2 [] (g_law31_works_ok ) fun x65 _=>hbr 2 [185,186,187] (?_) ?_
 ·refine hop 4 (fun _=>sgL false [] [] true gE) <| hop 2 (fun _=>sgL false [] [] true gE) <| hcl 0 [] (g_law31_essential_ok [0,1,1,7] [(0,3),(1,3),(2,3)] [(0,1),(0,2)]) fun x69 _=>hbr 2 [196,197,198] (?_) ?_
  ·refine hop 0 (fun _=>sgL false [] [] true gE) <| hcl 0 [] (us:=[.lst true [.int .u64 0],.nils,.nils]) (rv:=fun x73=>vB x73) (ro:=fun x73=>[]) (fun x73 q74=>Qv.args [[.keep],[.lst true],[.lst true]] (g_law31_essential_ok [0] [] [] x73 q74)) fun x73 _=>hbr 2 [200,201,202] (?_) ?_
   ·refine hcl 0 [] (us:=[vI 1,.nils,.nils,.nils]) (rv:=fun x77=>vB x77) (ro:=fun x77=>[]) (fun x77 q78=>Qv.args [[.keep],[.lst true],[.lst true],[.lst true]] (Yd 1 [] [] [] x77 q78)) fun x77 _=>hbr 2 [203,204,205] (?_) ?_
    ·refine hop 1 (fun _=>sgL false [] [] true gE) <| hcl 0 [] (us:=[vI 2,.lst true [.agg [vI 0,vI 1,.int .u64 0]],.nils,.nils]) (rv:=fun x81=>vB x81) (ro:=fun x81=>[]) (fun x81 q82=>Qv.args [[.keep],[.keep],[.lst true],[.lst true]] (Yd 2 [(Tapi_Fact.mk 0 1 0)] [] [] x81 q82)) fun x81 _=>hbr 2 [208,209,210] (?_) ?_
     ·refine hop 0 (fun _=>sgL false [] [] true gE) <| hcl 0 [] (g_equal_Check_ok [4,0]) fun x85 _=>hbr 3 [213,214,215] (?_) ?_
      ·refine hoh 0 (fun _ _ h k=>mkL (enc:=(AV.int .u64)) (z:=(0:Int)) (z0:=.int .u64 0) (n:=7) (m:=7) (w:=1) (bytes:=8) [] true kr kr gE kr h k) <| hcl 0 [F (AV.int .u64) (List.replicate (zt 7) (0:Int))] (g_equal_Check_ok (List.replicate (zt 7) (0:Int))) fun x89 _=>hbr 3 [218,219,220] (?_) ?_
       ·refine hop 0 (fun _=>sgL false [] [] true gE) <| hcl 0 [] (g_equal_Check_ok [9223372036854775808]) fun x93 _=>hbr 3 [223,224,225] (hop 0 (fun _=>sgL false [] [] true gE) <| hcl 0 [] (g_equal_Check_ok [2,4,1]) fun x97 _=>hrt 4) <| ?_
        refine hrt 6
       refine hrt 11
      refine hrt 16
     refine hrt 21
    refine hrt 26
   refine hrt 29
  refine hrt 33
 refine hrt 44
end
end Go.Ab
namespace Go.Ab
open Go
set_option maxRecDepth 1000000
theorem eq_known:Kz=some true:=by kernel_rfl
end Go.Ab
namespace Go.Ab
open Go Go.Proofs Go.Proofs.YtojklbpplceiiaaDoor
open Go.ChangeShapes Go.WideShapes Go.ChangeAt Go.RowKit
abbrev dr_laid:List (String × DataW Unit):=[("math/bits.deBruijn32tab",Rows.laid_math_bits_deBruijn32tab),("math/bits.deBruijn64tab",Rows.laid_math_bits_deBruijn64tab)]
theorem dr_own:ownKnob Tryd.prog.godebug=none:=by kernel_rfl
theorem Qrs:Tryd.prog.globalNamed "math/bits.deBruijn32tab" = some 0:=by kernel_rfl
theorem Qrl:Tryd.prog.globalNamed "math/bits.deBruijn64tab" = some 1:=by kernel_rfl
theorem dr_met (os:Os) (args:Array Value):laidMetH Tryd.prog dr_laid ((World.doorLaid Tryd.prog 19 os).forCall (fun _ _=>0) ⟨#[],args,[]⟩).memory :=
 laidMetH_of_parts3 (fuel:=8) (laidMet_of_run' 8 (by kernel_rfl) (by kernel_rfl)) (by kernel_rfl) (by kernel_rfl)
theorem dr_glob {W:World} (h:laidMetH Tryd.prog dr_laid W):Go.Ab.GlobIn W:=by
 rw [MakeChecks.laidMetH_plain _ _ _ (by kernel_rfl)] at h
 have h0:=Lib.tabIs_of_head (k:=.u8) (zs:=Go.Ab.tab0) (t:=164) (e:=5) (n:=32) Qrs (by kernel_rfl) (by kernel_rfl) (by kernel_rfl) (by kernel_rfl) (by kernel_rfl) h
 have h1:=Lib.tabIs_of_head (k:=.u8) (zs:=Go.Ab.tab1) (t:=165) (e:=5) (n:=64) Qrl (by kernel_rfl) (by kernel_rfl) (by kernel_rfl) (by kernel_rfl) (by kernel_rfl) h.tail
 intro g xs hg i v hv
 match g,hg with
 | 0,hg =>
  cases hg
  have hi:i < Go.Ab.tab0.length:=by have:=(List.getElem?_eq_some_iff.1 hv).1; simpa using this
  have:=h0.cell Qrs i hi
  rw [this]
  rw [List.getElem?_map] at hv
  simpa [List.getD,hi] using hv
 | 1,hg =>
  cases hg
  have hi:i < Go.Ab.tab1.length:=by have:=(List.getElem?_eq_some_iff.1 hv).1; simpa using this
  have:=h1.cell Qrl i hi
  rw [this]
  rw [List.getElem?_map] at hv
  simpa [List.getD,hi] using hv
 | n+2,hg=>cases hg
end Go.Ab
