/- What functions compute. No conditions. -/
import Derived.Test.YtojklbpplceiiaaDoorProg
import Derived.Test.YtojklbpplceiiaaDoorW11
import Derived.KernelRfl
import Derived.Test.YtojklbpplceiiaaDoorW12
import Derived.Test.YtojklbpplceiiaaDoorW14
import Derived.Test.YtojklbpplceiiaaDoorEng7
set_option linter.all false
namespace Go.Ab
open Go Go.Proofs
set_option maxRecDepth 100000
set_option maxHeartbeats 4000000
section
attribute [local irreducible] RW WP
noncomputable abbrev o40_150:AObj:=.row false true true true 1 [.int .u64 0,.int .u64 1,.int .u64 2]
noncomputable abbrev Q0i:AObj:=.row false false true true 1 [.int .u64 0,.int .u64 5,.int .u64 0]
noncomputable abbrev Q0h (x1:((List (Int × Int)) × Int)):AObj:=oR true 2 (fun x:(Int × Int)=>AV.agg [vI x.1,vI x.2]) x1.1
noncomputable abbrev Qzo (x3:((List (Int × Int)) × Int)):AObj:=oR true 2 (fun x:(Int × Int)=>AV.agg [vI x.1,vI x.2]) x3.1
noncomputable abbrev Qzt (x5:((List (Int × Int × Int)) × Int)):AObj:=oR true 3 (fun x:(Int × Int × Int)=>AV.agg [vI x.1,vI x.2.1,vI x.2.2]) x5.1
noncomputable abbrev Qze (x7:((List (Int × Int × Int)) × Int)):AObj:=oR true 3 (fun x:(Int × Int × Int)=>AV.agg [vI x.1,vI x.2.1,vI x.2.2]) x7.1
noncomputable abbrev Qzi (x13:((List (List Int)) × Int)):AObj:=oR false 1 (eL true (AV.int .u64)) x13.1
noncomputable abbrev o40_157:AObj:=.row false false true true 2 [.agg [vI 0,vI 1],.agg [vI 1,vI 2]]
noncomputable abbrev o40_158:AObj:=.row false false true true 3 [.agg [vI 0,vI 1,vI 2]]
noncomputable abbrev o40_159:AObj:=.row false false true true 2 [.agg [vI 0,vI 1],.agg [vI 2,vI 1]]
noncomputable abbrev o40_160:AObj:=.row false false true true 1 [.int .u64 0,.int .u64 5,.int .u64 0,.int .u64 2]
noncomputable abbrev o40_161:AObj:=.row false false true true 2 [.agg [vI 0,vI 1],.agg [vI 1,vI 3],.agg [vI 2,vI 1]]
noncomputable abbrev o40_162:AObj:=.row false false true true 3 [.agg [vI 0,vI 2,.int .u64 0]]
noncomputable abbrev o40_163:AObj:=.row false false true true 2 [.agg [vI 0,vI 1],.agg [vI 0,vI 2],.agg [vI 1,vI 2]]
noncomputable abbrev o40_164:AObj:=.row false true true true 1 [.int .u64 2,.int .u64 0,.int .u64 2]
noncomputable abbrev o40_165:AObj:=.row false true true true 1 [.int .u64 2,.int .u64 4,.int .u64 0]
noncomputable abbrev o40_166:AObj:=oR false 1 (eL true (AV.int .u64)) ([[0,1,2],[2,0,2],[2,4,0]]:(List (List Int)))
noncomputable abbrev l40_167 (x1 x3:((List (Int × Int)) × Int)) (x5 x7:((List (Int × Int × Int)) × Int)) (x13:((List (List Int)) × Int)) (x15 x17:((List Tapi_Fact) × Int)):List AObj:=[o40_150,Q0i,(Q0h x1),(Qzo x3),(Qzt x5),(Qze x7),(Qzi x13),oR true 3 eTapi_Fact x15.1,oR true 3 eTapi_Fact x17.1]
theorem Qly  : Ct Tryd.prog 12 [] (Qdd) (fun x=>vB x) (fun x=>[]):=by
 refine hfn [] Tryd.func12 <| hop 1 (fun _=>sgL false [] [] true gE) <| hop 0 (fun _=>sgL false [] [] true gE) <| hcl 3 [] (g_equal_Skeleton_ok [0,1,2]) fun x1 _=>hcl 6 [] (g_equal_Skeleton_ok [0,5,0]) fun x3 _=>hcl 6 [] (Qbv [0,1,2]) fun x5 _=>hcl 6 [] (Qbv [0,5,0]) fun x7 _=>hcl 7 [] (Qet [0,1,2] [0,5,0]) fun x9 _=>hop 6 (fun _=>sgL false [] [] true gE) <| ?_
 refine hcl 0 [] (Qet [0,1,2] [2,0,2]) fun x11 _=>hcl 6 [] (Qj2 [0,1,2]) fun x13 _=>hcl 6 [] (g_equal_Facts_ok [0,1,2]) fun x15 _=>hcl 6 [] (g_equal_Facts_ok [0,5,0]) fun x17 _=>hop 7 (fun _=>sgL false [] [] true gE) <| hcl 0 [] (g_equal_Learn_ok 3 [(Tapi_Fact.mk 0 2 0),(Tapi_Fact.mk 0 2 2)]) fun x19 _=>hop 3 (fun _=>sgL false [] [] false gE) <| hcl 2 [] (us:=[vI 6,.nils]) (rv:=fun x21=>.tup [.agg [vI x21.1.N,.ref 0 0 x21.1.Arrows.length,.ref 1 0 x21.1.Lines.length],vI x21.2]) (ro:=fun x21=>[oR true 2 (fun x:(Int × Int)=>AV.agg [vI x.1,vI x.2]) x21.1.Arrows,oR true 2 (fun x:(Int × Int)=>AV.agg [vI x.1,vI x.2]) x21.1.Lines]) (fun x21 q22=>Qz.args [[.keep],[.lst true]] (g_equal_Learn_ok 6 [] x21 q22)) fun x21 _=>hop 3 (fun _=>sgL false [] [] false gE) <| ?_
 refine hop 3 (fun _=>sgL false [] [] true gE) <| hcl 0 [] (g_equal_Learn_ok 2 [(Tapi_Fact.mk 1 0 0)]) fun x23 _=>hop 3 (fun _=>sgL false [] [] false gE) <| hop 11 (fun _=>sgL false [] [] true gE) <| hlp 2 (fun s25=>⟨[(1,.ref 0 0 3),(2,.ref 1 0 3),(3,.ref 2 0 x1.1.length),(5,.ref 3 0 x3.1.length),(7,.ref 4 0 x5.1.length),(9,.ref 5 0 x7.1.length),(11,vB x9.1),(13,vB x11.1),(15,.ref 6 0 x13.1.length),(17,.ref 7 0 x15.1.length),(19,.ref 8 0 x17.1.length),(22,vI x19.2),(24,vI x21.2),(26,vI x23.2),(106,.ref 9 0 (([x1.2,x3.2,x5.2,x7.2,x9.2,x11.2,x13.2,x15.2,x17.2]:(List Int)).length)),(107,vI 9),(108,vI s25)],(l40_167 x1 x3 x5 x7 x13 x15 x17)++[oR true 1 eI ([x1.2,x3.2,x5.2,x7.2,x9.2,x11.2,x13.2,x15.2,x17.2]:(List Int))],228⟩) (fun x=>match x with | .inl v=>(.ret,⟨[(0,vB false)],[],228⟩) | .inr v=>(.exit 0,⟨[(1,.ref 0 0 3),(2,.ref 1 0 3),(3,.ref 2 0 x1.1.length),(5,.ref 3 0 x3.1.length),(7,.ref 4 0 x5.1.length),(9,.ref 5 0 x7.1.length),(11,vB x9.1),(13,vB x11.1),(15,.ref 6 0 x13.1.length),(17,.ref 7 0 x15.1.length),(19,.ref 8 0 x17.1.length),(22,vI x19.2),(24,vI x21.2),(26,vI x23.2)],(l40_167 x1 x3 x5 x7 x13 x15 x17),228⟩)) (wz [0,1,2,3,4,5,7,8,9,21]) (fun s25=>?_) (hsm (fun x33=>?_) (fun x34=>?_))
 ·refine hbr 1 [109] (?_) ?_
  ·refine hbd fun a28 q29=>hop 1 (fun _=>Za (enc:=eI) (l:=([x1.2,x3.2,x5.2,x7.2,x9.2,x11.2,x13.2,x15.2,x17.2]:(List Int))) (n:=s25) (w:=1) (ob:=9) (ro:=false) (nr:=true) (fl:=true) (a:=a28) kr kr gE q29) <| hop 0 (fun _=>Ya (enc:=eI) (l:=([x1.2,x3.2,x5.2,x7.2,x9.2,x11.2,x13.2,x15.2,x17.2]:(List Int))) (n:=s25) (w:=1) (ob:=9) (c:=0) (bx:=false) (ro:=false) (nr:=true) (fl:=true) (a:=a28) kr kr q29 gE) <| hbr 3 [113] (hdx 2 (wz [])) <| ?_
   refine hnx 3 (wz [0,1,2,3,4,5,6,7,8,9])
  refine hdx 1 (wz [0,1,2,3,4,5,6,7,8])
 ·refine hrt 0
 refine hop 2 (fun _=>sgL false [] [] true gE) <| hcl 3 [F (fun x:(Int × Int)=>AV.agg [vI x.1,vI x.2]) x1.1] (Vi x1.1 [(0,1),(1,2)]) fun x35 _=>hbr 1 [120,121] (?_) ?_
 ·refine hcl 2 [F (fun x:(Int × Int)=>AV.agg [vI x.1,vI x.2]) x3.1] (Vi x3.1 [(0,1),(1,2)]) fun x39 _=>hbr 2 [124,125,126] (?_) ?_
  ·refine hbr 5 [129,130,131] (?_) ?_
   ·refine hop 2 (fun _=>sgL false [] [] true gE) <| hcl 0 [F (fun x:(Int × Int × Int)=>AV.agg [vI x.1,vI x.2.1,vI x.2.2]) x7.1] (Qf1 x7.1 [(0,1,2)]) fun x45 _=>hbr 2 [135,136,137] (?_) ?_
    ·refine hbr 4 [139,140,141] (?_) ?_
     ·refine hbr 3 [13,142,143,144] (?_) ?_
      ·refine hbr 4 [146,147,148] (?_) ?_
       ·refine hbr 4 [150,151,152] (?_) ?_
        ·refine hbr 6 [154,155,30,156,157] (?_) ?_
         ·refine hcl 2 [] (us:=[.lst true [.int .u64 0,.int .u64 1,.int .u64 2],.nils,.lst true [.agg [vI 0,vI 1],.agg [vI 1,vI 2]]]) (rv:=fun x59=>vB x59) (ro:=fun x59=>[]) (fun x59 q60=>Qz.args [[.keep],[.lst true],[.keep]] (Js [0,1,2] [] [(0,1),(1,2)] x59 q60)) fun x59 _=>hbr 2 [160,161,162] (?_) ?_
          ·refine hop 3 (fun _=>sgL false [] [] true gE) <| hcl 0 [] (us:=[.lst true [.int .u64 0,.int .u64 5,.int .u64 0],.lst true [.agg [vI 0,vI 1],.agg [vI 2,vI 1]],.nils]) (rv:=fun x63=>vB x63) (ro:=fun x63=>[]) (fun x63 q64=>Qz.args [[.keep],[.keep],[.lst true]] (Js [0,5,0] [(0,1),(2,1)] [] x63 q64)) fun x63 _=>hbr 2 [167,168,169] (?_) ?_
           ·refine hop 0 (fun _=>sgL false [] [] true gE) <| hop 3 (fun _=>sgL false [] [] true gE) <| hcl 0 [] (us:=[.lst true [.int .u64 0,.int .u64 5,.int .u64 0,.int .u64 2],.lst true [.agg [vI 0,vI 1],.agg [vI 1,vI 3],.agg [vI 2,vI 1]],.nils]) (rv:=fun x67=>vB x67) (ro:=fun x67=>[]) (fun x67 q68=>Qz.args [[.keep],[.keep],[.lst true]] (Js [0,5,0,2] [(0,1),(1,3),(2,1)] [] x67 q68)) fun x67 _=>hbr 2 [175,176,177] (?_) ?_
            ·refine hop 1 (fun _=>sgL false [] [] true gE) <| hop 2 (fun _=>sgL false [] [] true gE) <| hcl 0 [] (us:=[vI 3,.lst true [.agg [vI 0,vI 2,.int .u64 0]],.lst true [.agg [vI 0,vI 1],.agg [vI 2,vI 1]],.nils]) (rv:=fun x71=>vB x71) (ro:=fun x71=>[]) (fun x71 q72=>Qz.args [[.keep],[.keep],[.keep],[.lst true]] (Qc7 3 [(Tapi_Fact.mk 0 2 0)] [(0,1),(2,1)] [] x71 q72)) fun x71 _=>hbr 2 [183,184,185] (?_) ?_
             ·refine hop 3 (fun _=>sgL false [] [] true gE) <| hcl 0 [] (us:=[vI 3,.nils,.nils,.lst true [.agg [vI 0,vI 1],.agg [vI 0,vI 2],.agg [vI 1,vI 2]]]) (rv:=fun x75=>vB x75) (ro:=fun x75=>[]) (fun x75 q76=>Qz.args [[.keep],[.lst true],[.lst true],[.keep]] (Qc7 3 [] [] [(0,1),(0,2),(1,2)] x75 q76)) fun x75 _=>hbr 4 [30,190,191,192,193] (?_) ?_
              ·refine hop 1 (fun _=>sgL false [] [] true gE) <| hop 0 (fun _=>sgL false [] [] true gE) <| hop 0 (fun _=>sgL false [] [] true gE) <| hbs 0 [.lst true] false [] <| hil 0 Tryd.func38 <| hbr 6 [14] (hrt 34) <| ?_
               refine hlp 4 (fun s81=>⟨[(1,.ref 20 0 (([[0,1,2],[2,0,2],[2,4,0]]:(List (List Int))).length)),(2,.fn (.func 48) [] []),(15,.ref 6 0 x13.1.length),(16,vI (zn x13.1)),(17,vI s81)],(l40_167 x1 x3 x5 x7 x13 x15 x17)++[o40_157,o40_158,o40_159,o40_160,o40_161,o40_162,o40_159,o40_163,o40_150,o40_164,o40_165,o40_166],32⟩) (fun x=>match x with | .inl v=>(.ret,⟨[(6,vB false)],(l40_167 x1 x3 x5 x7 x13 x15 x17)++[o40_157,o40_158,o40_159,o40_160,o40_161,o40_162,o40_159,o40_163,o40_150,o40_164,o40_165,o40_166],32⟩) | .inr v=>(.exit 0,⟨[],(l40_167 x1 x3 x5 x7 x13 x15 x17)++[o40_157,o40_158,o40_159,o40_160,o40_161,o40_162,o40_159,o40_163,o40_150,o40_164,o40_165,o40_166],32⟩)) (wz []) (fun s81=>?_) (hsm (fun x93=>?_) (fun x94=>?_))
               ·refine hbr 1 [18] (?_) ?_
                ·refine hbd fun a84 q85=>hop 2 (fun _=>Za (enc:=(eL true (AV.int .u64))) (l:=x13.1) (n:=s81) (w:=1) (ob:=6) (ro:=false) (nr:=true) (fl:=false) (a:=a84) kr kr gE q85) <| hop 0 (fun _=>Ya (enc:=(eL true (AV.int .u64))) (l:=x13.1) (n:=s81) (w:=1) (ob:=6) (c:=0) (bx:=false) (ro:=false) (nr:=true) (fl:=false) (a:=a84) kr kr q85 gE) <| hbd fun a86 q87=>hop 4 (fun _=>Za (enc:=(eL true (AV.int .u64))) (l:=([[0,1,2],[2,0,2],[2,4,0]]:(List (List Int)))) (n:=s81) (w:=1) (ob:=20) (ro:=false) (nr:=true) (fl:=false) (a:=a86) kr kr gE q87) <| hop 0 (fun _=>Ya (enc:=(eL true (AV.int .u64))) (l:=([[0,1,2],[2,0,2],[2,4,0]]:(List (List Int)))) (n:=s81) (w:=1) (ob:=20) (c:=0) (bx:=false) (ro:=false) (nr:=true) (fl:=false) (a:=a86) kr kr q87 gE) <| hcl 4 [] (g_law31_works_1_ok a84 a86) fun x88 _=>hbr 1 [30] (hdx 2 (wz [])) <| ?_
                 refine hnx 3 (wz [])
                refine hdx 1 (wz [])
               ·refine hrt 31
               refine hwk 1 (wl [6] []) <| hop 5 (fun _=>sgL false [] [] true gE) <| hcl 0 [F eTapi_Fact x15.1] (g_slices_Equal_api_Fact_api_Fact_ok x15.1 [(Tapi_Fact.mk 0 2 2)]) fun x95 _=>hbr 2 [205,206,207] (?_) ?_
               ·refine hop 2 (fun _=>sgL false [] [] true gE) <| hcl 0 [F eTapi_Fact x17.1] (g_slices_Equal_api_Fact_api_Fact_ok x17.1 [(Tapi_Fact.mk 0 2 0)]) fun x99 _=>hbr 4 [30,211,212,213,214] (?_) ?_
                ·refine hop 0 (fun _=>sgL false [] [] true gE) <| hcl 0 [] (g_equal_Check_ok [2,1]) fun x103 _=>hbr 3 [217,218,219] (?_) ?_
                 ·refine hop 0 (fun _=>sgL false [] [] true gE) <| hcl 0 [] (g_equal_Check_ok [1]) fun x107 _=>hbr 3 [222,223,224] (?_) ?_
                  ·refine hcl 0 [] (us:=[.nils]) (rv:=fun x111=>vI x111) (ro:=fun x111=>[]) (fun x111 q112=>Qz.args [[.lst true]] (g_equal_Check_ok [] x111 q112)) fun x111 _=>hrt 4
                  refine hrt 5
                 refine hrt 10
                refine hrt 15
               refine hrt 23
              refine hrt 37
             refine hrt 46
            refine hrt 54
           refine hrt 62
          refine hrt 69
         refine hrt 74
        refine hrt 80
       refine hrt 84
      refine hrt 88
     refine hrt 91
    refine hrt 95
   refine hrt 101
  refine hrt 106
 refine hrt 111
noncomputable abbrev Qti (p0:Qc) (p1:Int):Int:=(zw (1+(Int.tmod (zw (p0.N)) p1)))
noncomputable abbrev Zz (p0:Qc):AObj:=oX true true 8 (.agg [.int .u8 p0.N,.int .u8 p0.Order.1,.int .u8 p0.Order.2.1,.int .u8 p0.Order.2.2.1,.int .u8 p0.Order.2.2.2.1,.int .u8 p0.Order.2.2.2.2.1,.int .u8 p0.Order.2.2.2.2.2,.int .u16 p0.Edges])
noncomputable abbrev Xu:Nat×AV:=(2,.ptr 0 0 0)
noncomputable abbrev Xv (p0:Qc) (p1:Int):Nat×AV:=(5,vI (Qti p0 p1))
noncomputable abbrev Qec (a0 a1 a2 a3:Nat×AV) (p0:Qc) (p1:Int):List (Nat×AV):=[Xu,(Xv p0 p1),a0,a1,a2,(21,vI (Qti p0 p1)),(22,vB true),a3,(26,.ptr 0 0 1)]
theorem Qad (p0:Qc) (p1:Int):Ct Tryd.prog 13 [.agg [.int .u8 p0.N,.int .u8 p0.Order.1,.int .u8 p0.Order.2.1,.int .u8 p0.Order.2.2.1,.int .u8 p0.Order.2.2.2.1,.int .u8 p0.Order.2.2.2.2.1,.int .u8 p0.Order.2.2.2.2.2,.int .u16 p0.Edges],vI p1] (Zw p0 p1) (fun x=>.ref 0 0 x.length) (fun x=>[oR true 1 (AV.int .u64) x]):=by
 refine hfn [] Tryd.func13 <| hoh 6 (fun _ _ h k=>Q2r (k:=.i64) (a:=zw (p0.N)) (b:=p1) kr gE h k) <| hlp 4 (fun s1=>⟨[Xu,(Xv p0 p1),(6,.ref 1 0 s1.2.length),(7,vI s1.1)],[(Zz p0),oR true 1 eI s1.2],94⟩) (fun v=>(.exit 0,⟨[Xu,(Xv p0 p1),(6,.ref 1 0 v.length)],[(Zz p0),oR true 1 eI v],94⟩)) (wk_trans (wk_gc (live:=[2,5,6,7]) (keep:=[0]) gE) (wk_trans (wk_nil 6 1 true true gE) (wk_gc (live:=[2,5,6,7]) (keep:=[0,1]) kr))) (fun s1=>?_) fun x101=>?_
 ·refine hbr 3 [22] (?_) ?_
  ·refine hqi 3 (fun n4=>⟨(Qec (6,.ref 1 0 s1.2.length) (7,vI n4) (20,vI n4) (25,vI n4) p0 p1),[(Zz p0),oR true 1 eI s1.2],94⟩) (fun _=>?_) (fun _=>?_)
   ·refine hop 8 (fun _=>sgL false [] [] true gE) <| hoh 0 (fun _ _ h k=>Qat (enc:=eI) (l:=s1.2) (m:=([0]:(List Int))) (w:=1) (bytes:=8) (ob:=1) (nr:=true) (fl:=true) (nr':=true) (fl':=true) (b:=.ref 2 0 1) (rds:=[2]) false kr kr kr kr gE kr h k) <| hlp 3 (fun s5=>⟨[Xu,(Xv p0 p1),(6,.ref 1 0 s5.2.length),(7,vI 0),(8,vI (Int.tmod (zw (p0.Order.1)) 1)),(9,vI s5.1)],[(Zz p0),oR true 1 eI s5.2],94⟩) (fun v=>(.exit 2,⟨[Xu,(Xv p0 p1),(6,.ref 1 0 v.length),(7,vI 0),(8,vI (Int.tmod (zw (p0.Order.1)) 1))],[(Zz p0),oR true 1 eI v],94⟩)) (wz [0,3]) (fun s5=>?_) fun x14=>?_
    ·refine hbr 3 [39] (?_) ?_
     ·refine hbd fun a8 q9=>hop 6 (fun _=>Za (enc:=eI) (l:=s5.2) (n:=zw (s5.1 - 1)) (w:=1) (ob:=1) (ro:=false) (nr:=true) (fl:=true) (a:=a8) kr kr gE q9) <| hop 0 (fun _=>Ya (enc:=eI) (l:=s5.2) (n:=zw (s5.1 - 1)) (w:=1) (ob:=1) (c:=0) (bx:=false) (ro:=false) (nr:=true) (fl:=true) (a:=a8) kr kr q9 gE) <| hbd fun a10 q11=>hop 0 (fun _=>Za (enc:=eI) (l:=s5.2) (n:=s5.1) (w:=1) (ob:=1) (ro:=false) (nr:=true) (fl:=true) (a:=a10) kr kr gE q11) <| hop 0 (fun _=>Yi (enc:=eI) (l:=s5.2) (n:=s5.1) (ob:=1) (w:=1) (bx:=false) (nr:=true) (fl:=true) (c:=0) (a:=a10) (a':=a8) (v:=vI a8) false kr kr q11 kr kr kr gE kr) <| hkl 0 [6,42,44] (ls s5.2 (zt s5.1) a8) <| hnx 3 (wz [0,1])
     refine hdx 1 (wz [0,1])
    refine hbd fun a15 q16=>hop 3 (fun _=>Za (enc:=eI) (l:=x14) (n:=Int.tmod (zw (p0.Order.1)) 1) (w:=1) (ob:=1) (ro:=false) (nr:=true) (fl:=true) (a:=a15) kr kr gE q16) <| hbd fun a17 q18=>hop 0 (fun _=>Yi (enc:=eI) (l:=x14) (n:=(Int.tmod (zw (p0.Order.1)) 1)) (ob:=1) (w:=1) (bx:=false) (nr:=true) (fl:=true) (c:=0) (a:=a17) (a':=0) (v:=vI 0) false kr kr q18 kr kr kr gE kr) <| hkl 0 [6,50] (ls x14 (zt (Int.tmod (zw (p0.Order.1)) 1)) 0) <| hnx 3 (wz [0,1])
   refine hqi 0 (fun n20=>⟨(Qec (6,.ref 1 0 s1.2.length) (7,vI n20) (20,vI n20) (25,vI n20) p0 p1),[(Zz p0),oR true 1 eI s1.2],94⟩) (fun _=>?_) (fun _=>?_)
   ·refine hop 8 (fun _=>sgL false [] [] true gE) <| hoh 0 (fun _ _ h k=>Qat (enc:=eI) (l:=s1.2) (m:=([0]:(List Int))) (w:=1) (bytes:=8) (ob:=1) (nr:=true) (fl:=true) (nr':=true) (fl':=true) (b:=.ref 2 0 1) (rds:=[2]) false kr kr kr kr gE kr h k) <| hlp 3 (fun s21=>⟨[Xu,(Xv p0 p1),(6,.ref 1 0 s21.2.length),(7,vI 1),(8,vI (Int.tmod (zw (p0.Order.2.1)) 2)),(9,vI s21.1)],[(Zz p0),oR true 1 eI s21.2],94⟩) (fun v=>(.exit 2,⟨[Xu,(Xv p0 p1),(6,.ref 1 0 v.length),(7,vI 1),(8,vI (Int.tmod (zw (p0.Order.2.1)) 2))],[(Zz p0),oR true 1 eI v],94⟩)) (wz [0,3]) (fun s21=>?_) fun x30=>?_
    ·refine hbr 3 [39] (?_) ?_
     ·refine hbd fun a24 q25=>hop 6 (fun _=>Za (enc:=eI) (l:=s21.2) (n:=zw (s21.1 - 1)) (w:=1) (ob:=1) (ro:=false) (nr:=true) (fl:=true) (a:=a24) kr kr gE q25) <| hop 0 (fun _=>Ya (enc:=eI) (l:=s21.2) (n:=zw (s21.1 - 1)) (w:=1) (ob:=1) (c:=0) (bx:=false) (ro:=false) (nr:=true) (fl:=true) (a:=a24) kr kr q25 gE) <| hbd fun a26 q27=>hop 0 (fun _=>Za (enc:=eI) (l:=s21.2) (n:=s21.1) (w:=1) (ob:=1) (ro:=false) (nr:=true) (fl:=true) (a:=a26) kr kr gE q27) <| hop 0 (fun _=>Yi (enc:=eI) (l:=s21.2) (n:=s21.1) (ob:=1) (w:=1) (bx:=false) (nr:=true) (fl:=true) (c:=0) (a:=a26) (a':=a24) (v:=vI a24) false kr kr q27 kr kr kr gE kr) <| hkl 0 [6,42,44] (ls s21.2 (zt s21.1) a24) <| hnx 3 (wz [0,1])
     refine hdx 1 (wz [0,1])
    refine hbd fun a31 q32=>hop 3 (fun _=>Za (enc:=eI) (l:=x30) (n:=Int.tmod (zw (p0.Order.2.1)) 2) (w:=1) (ob:=1) (ro:=false) (nr:=true) (fl:=true) (a:=a31) kr kr gE q32) <| hbd fun a33 q34=>hop 0 (fun _=>Yi (enc:=eI) (l:=x30) (n:=(Int.tmod (zw (p0.Order.2.1)) 2)) (ob:=1) (w:=1) (bx:=false) (nr:=true) (fl:=true) (c:=0) (a:=a33) (a':=1) (v:=vI 1) false kr kr q34 kr kr kr gE kr) <| hkl 0 [6,50] (ls x30 (zt (Int.tmod (zw (p0.Order.2.1)) 2)) 1) <| hnx 3 (wz [0,1])
   refine hqi 0 (fun n36=>⟨(Qec (6,.ref 1 0 s1.2.length) (7,vI n36) (20,vI n36) (25,vI n36) p0 p1),[(Zz p0),oR true 1 eI s1.2],94⟩) (fun _=>?_) (fun _=>?_)
   ·refine hop 8 (fun _=>sgL false [] [] true gE) <| hoh 0 (fun _ _ h k=>Qat (enc:=eI) (l:=s1.2) (m:=([0]:(List Int))) (w:=1) (bytes:=8) (ob:=1) (nr:=true) (fl:=true) (nr':=true) (fl':=true) (b:=.ref 2 0 1) (rds:=[2]) false kr kr kr kr gE kr h k) <| hlp 3 (fun s37=>⟨[Xu,(Xv p0 p1),(6,.ref 1 0 s37.2.length),(7,vI 2),(8,vI (Int.tmod (zw (p0.Order.2.2.1)) 3)),(9,vI s37.1)],[(Zz p0),oR true 1 eI s37.2],94⟩) (fun v=>(.exit 2,⟨[Xu,(Xv p0 p1),(6,.ref 1 0 v.length),(7,vI 2),(8,vI (Int.tmod (zw (p0.Order.2.2.1)) 3))],[(Zz p0),oR true 1 eI v],94⟩)) (wz [0,3]) (fun s37=>?_) fun x46=>?_
    ·refine hbr 3 [39] (?_) ?_
     ·refine hbd fun a40 q41=>hop 6 (fun _=>Za (enc:=eI) (l:=s37.2) (n:=zw (s37.1 - 1)) (w:=1) (ob:=1) (ro:=false) (nr:=true) (fl:=true) (a:=a40) kr kr gE q41) <| hop 0 (fun _=>Ya (enc:=eI) (l:=s37.2) (n:=zw (s37.1 - 1)) (w:=1) (ob:=1) (c:=0) (bx:=false) (ro:=false) (nr:=true) (fl:=true) (a:=a40) kr kr q41 gE) <| hbd fun a42 q43=>hop 0 (fun _=>Za (enc:=eI) (l:=s37.2) (n:=s37.1) (w:=1) (ob:=1) (ro:=false) (nr:=true) (fl:=true) (a:=a42) kr kr gE q43) <| hop 0 (fun _=>Yi (enc:=eI) (l:=s37.2) (n:=s37.1) (ob:=1) (w:=1) (bx:=false) (nr:=true) (fl:=true) (c:=0) (a:=a42) (a':=a40) (v:=vI a40) false kr kr q43 kr kr kr gE kr) <| hkl 0 [6,42,44] (ls s37.2 (zt s37.1) a40) <| hnx 3 (wz [0,1])
     refine hdx 1 (wz [0,1])
    refine hbd fun a47 q48=>hop 3 (fun _=>Za (enc:=eI) (l:=x46) (n:=Int.tmod (zw (p0.Order.2.2.1)) 3) (w:=1) (ob:=1) (ro:=false) (nr:=true) (fl:=true) (a:=a47) kr kr gE q48) <| hbd fun a49 q50=>hop 0 (fun _=>Yi (enc:=eI) (l:=x46) (n:=(Int.tmod (zw (p0.Order.2.2.1)) 3)) (ob:=1) (w:=1) (bx:=false) (nr:=true) (fl:=true) (c:=0) (a:=a49) (a':=2) (v:=vI 2) false kr kr q50 kr kr kr gE kr) <| hkl 0 [6,50] (ls x46 (zt (Int.tmod (zw (p0.Order.2.2.1)) 3)) 2) <| hnx 3 (wz [0,1])
   refine hqi 0 (fun n52=>⟨(Qec (6,.ref 1 0 s1.2.length) (7,vI n52) (20,vI n52) (25,vI n52) p0 p1),[(Zz p0),oR true 1 eI s1.2],94⟩) (fun _=>?_) (fun _=>?_)
   ·refine hop 8 (fun _=>sgL false [] [] true gE) <| hoh 0 (fun _ _ h k=>Qat (enc:=eI) (l:=s1.2) (m:=([0]:(List Int))) (w:=1) (bytes:=8) (ob:=1) (nr:=true) (fl:=true) (nr':=true) (fl':=true) (b:=.ref 2 0 1) (rds:=[2]) false kr kr kr kr gE kr h k) <| hlp 3 (fun s53=>⟨[Xu,(Xv p0 p1),(6,.ref 1 0 s53.2.length),(7,vI 3),(8,vI (Int.tmod (zw (p0.Order.2.2.2.1)) 4)),(9,vI s53.1)],[(Zz p0),oR true 1 eI s53.2],94⟩) (fun v=>(.exit 2,⟨[Xu,(Xv p0 p1),(6,.ref 1 0 v.length),(7,vI 3),(8,vI (Int.tmod (zw (p0.Order.2.2.2.1)) 4))],[(Zz p0),oR true 1 eI v],94⟩)) (wz [0,3]) (fun s53=>?_) fun x62=>?_
    ·refine hbr 3 [39] (?_) ?_
     ·refine hbd fun a56 q57=>hop 6 (fun _=>Za (enc:=eI) (l:=s53.2) (n:=zw (s53.1 - 1)) (w:=1) (ob:=1) (ro:=false) (nr:=true) (fl:=true) (a:=a56) kr kr gE q57) <| hop 0 (fun _=>Ya (enc:=eI) (l:=s53.2) (n:=zw (s53.1 - 1)) (w:=1) (ob:=1) (c:=0) (bx:=false) (ro:=false) (nr:=true) (fl:=true) (a:=a56) kr kr q57 gE) <| hbd fun a58 q59=>hop 0 (fun _=>Za (enc:=eI) (l:=s53.2) (n:=s53.1) (w:=1) (ob:=1) (ro:=false) (nr:=true) (fl:=true) (a:=a58) kr kr gE q59) <| hop 0 (fun _=>Yi (enc:=eI) (l:=s53.2) (n:=s53.1) (ob:=1) (w:=1) (bx:=false) (nr:=true) (fl:=true) (c:=0) (a:=a58) (a':=a56) (v:=vI a56) false kr kr q59 kr kr kr gE kr) <| hkl 0 [6,42,44] (ls s53.2 (zt s53.1) a56) <| hnx 3 (wz [0,1])
     refine hdx 1 (wz [0,1])
    refine hbd fun a63 q64=>hop 3 (fun _=>Za (enc:=eI) (l:=x62) (n:=Int.tmod (zw (p0.Order.2.2.2.1)) 4) (w:=1) (ob:=1) (ro:=false) (nr:=true) (fl:=true) (a:=a63) kr kr gE q64) <| hbd fun a65 q66=>hop 0 (fun _=>Yi (enc:=eI) (l:=x62) (n:=(Int.tmod (zw (p0.Order.2.2.2.1)) 4)) (ob:=1) (w:=1) (bx:=false) (nr:=true) (fl:=true) (c:=0) (a:=a65) (a':=3) (v:=vI 3) false kr kr q66 kr kr kr gE kr) <| hkl 0 [6,50] (ls x62 (zt (Int.tmod (zw (p0.Order.2.2.2.1)) 4)) 3) <| hnx 3 (wz [0,1])
   refine hqi 0 (fun n68=>⟨(Qec (6,.ref 1 0 s1.2.length) (7,vI n68) (20,vI n68) (25,vI n68) p0 p1),[(Zz p0),oR true 1 eI s1.2],94⟩) (fun _=>?_) (fun _=>?_)
   ·refine hop 8 (fun _=>sgL false [] [] true gE) <| hoh 0 (fun _ _ h k=>Qat (enc:=eI) (l:=s1.2) (m:=([0]:(List Int))) (w:=1) (bytes:=8) (ob:=1) (nr:=true) (fl:=true) (nr':=true) (fl':=true) (b:=.ref 2 0 1) (rds:=[2]) false kr kr kr kr gE kr h k) <| hlp 3 (fun s69=>⟨[Xu,(Xv p0 p1),(6,.ref 1 0 s69.2.length),(7,vI 4),(8,vI (Int.tmod (zw (p0.Order.2.2.2.2.1)) 5)),(9,vI s69.1)],[(Zz p0),oR true 1 eI s69.2],94⟩) (fun v=>(.exit 2,⟨[Xu,(Xv p0 p1),(6,.ref 1 0 v.length),(7,vI 4),(8,vI (Int.tmod (zw (p0.Order.2.2.2.2.1)) 5))],[(Zz p0),oR true 1 eI v],94⟩)) (wz [0,3]) (fun s69=>?_) fun x78=>?_
    ·refine hbr 3 [39] (?_) ?_
     ·refine hbd fun a72 q73=>hop 6 (fun _=>Za (enc:=eI) (l:=s69.2) (n:=zw (s69.1 - 1)) (w:=1) (ob:=1) (ro:=false) (nr:=true) (fl:=true) (a:=a72) kr kr gE q73) <| hop 0 (fun _=>Ya (enc:=eI) (l:=s69.2) (n:=zw (s69.1 - 1)) (w:=1) (ob:=1) (c:=0) (bx:=false) (ro:=false) (nr:=true) (fl:=true) (a:=a72) kr kr q73 gE) <| hbd fun a74 q75=>hop 0 (fun _=>Za (enc:=eI) (l:=s69.2) (n:=s69.1) (w:=1) (ob:=1) (ro:=false) (nr:=true) (fl:=true) (a:=a74) kr kr gE q75) <| hop 0 (fun _=>Yi (enc:=eI) (l:=s69.2) (n:=s69.1) (ob:=1) (w:=1) (bx:=false) (nr:=true) (fl:=true) (c:=0) (a:=a74) (a':=a72) (v:=vI a72) false kr kr q75 kr kr kr gE kr) <| hkl 0 [6,42,44] (ls s69.2 (zt s69.1) a72) <| hnx 3 (wz [0,1])
     refine hdx 1 (wz [0,1])
    refine hbd fun a79 q80=>hop 3 (fun _=>Za (enc:=eI) (l:=x78) (n:=Int.tmod (zw (p0.Order.2.2.2.2.1)) 5) (w:=1) (ob:=1) (ro:=false) (nr:=true) (fl:=true) (a:=a79) kr kr gE q80) <| hbd fun a81 q82=>hop 0 (fun _=>Yi (enc:=eI) (l:=x78) (n:=(Int.tmod (zw (p0.Order.2.2.2.2.1)) 5)) (ob:=1) (w:=1) (bx:=false) (nr:=true) (fl:=true) (c:=0) (a:=a81) (a':=4) (v:=vI 4) false kr kr q82 kr kr kr gE kr) <| hkl 0 [6,50] (ls x78 (zt (Int.tmod (zw (p0.Order.2.2.2.2.1)) 5)) 4) <| hnx 3 (wz [0,1])
   refine hqi 0 (fun n84=>⟨(Qec (6,.ref 1 0 s1.2.length) (7,vI n84) (20,vI n84) (25,vI n84) p0 p1),[(Zz p0),oR true 1 eI s1.2],94⟩) (fun _=>?_) (fun _=>?_)
   ·refine hop 8 (fun _=>sgL false [] [] true gE) <| hoh 0 (fun _ _ h k=>Qat (enc:=eI) (l:=s1.2) (m:=([0]:(List Int))) (w:=1) (bytes:=8) (ob:=1) (nr:=true) (fl:=true) (nr':=true) (fl':=true) (b:=.ref 2 0 1) (rds:=[2]) false kr kr kr kr gE kr h k) <| hlp 3 (fun s85=>⟨[Xu,(Xv p0 p1),(6,.ref 1 0 s85.2.length),(7,vI 5),(8,vI (Int.tmod (zw (p0.Order.2.2.2.2.2)) 6)),(9,vI s85.1)],[(Zz p0),oR true 1 eI s85.2],94⟩) (fun v=>(.exit 2,⟨[Xu,(Xv p0 p1),(6,.ref 1 0 v.length),(7,vI 5),(8,vI (Int.tmod (zw (p0.Order.2.2.2.2.2)) 6))],[(Zz p0),oR true 1 eI v],94⟩)) (wz [0,3]) (fun s85=>?_) fun x94=>?_
    ·refine hbr 3 [39] (?_) ?_
     ·refine hbd fun a88 q89=>hop 6 (fun _=>Za (enc:=eI) (l:=s85.2) (n:=zw (s85.1 - 1)) (w:=1) (ob:=1) (ro:=false) (nr:=true) (fl:=true) (a:=a88) kr kr gE q89) <| hop 0 (fun _=>Ya (enc:=eI) (l:=s85.2) (n:=zw (s85.1 - 1)) (w:=1) (ob:=1) (c:=0) (bx:=false) (ro:=false) (nr:=true) (fl:=true) (a:=a88) kr kr q89 gE) <| hbd fun a90 q91=>hop 0 (fun _=>Za (enc:=eI) (l:=s85.2) (n:=s85.1) (w:=1) (ob:=1) (ro:=false) (nr:=true) (fl:=true) (a:=a90) kr kr gE q91) <| hop 0 (fun _=>Yi (enc:=eI) (l:=s85.2) (n:=s85.1) (ob:=1) (w:=1) (bx:=false) (nr:=true) (fl:=true) (c:=0) (a:=a90) (a':=a88) (v:=vI a88) false kr kr q91 kr kr kr gE kr) <| hkl 0 [6,42,44] (ls s85.2 (zt s85.1) a88) <| hnx 3 (wz [0,1])
     refine hdx 1 (wz [0,1])
    refine hbd fun a95 q96=>hop 3 (fun _=>Za (enc:=eI) (l:=x94) (n:=Int.tmod (zw (p0.Order.2.2.2.2.2)) 6) (w:=1) (ob:=1) (ro:=false) (nr:=true) (fl:=true) (a:=a95) kr kr gE q96) <| hbd fun a97 q98=>hop 0 (fun _=>Yi (enc:=eI) (l:=x94) (n:=(Int.tmod (zw (p0.Order.2.2.2.2.2)) 6)) (ob:=1) (w:=1) (bx:=false) (nr:=true) (fl:=true) (c:=0) (a:=a97) (a':=5) (v:=vI 5) false kr kr q98 kr kr kr gE kr) <| hkl 0 [6,50] (ls x94 (zt (Int.tmod (zw (p0.Order.2.2.2.2.2)) 6)) 5) <| hnx 3 (wz [0,1])
   refine hnn
  refine hdx 1 (wz [0,1])
 refine hoh 1 (fun _ _ h k=>mkL (enc:=(AV.int .u64)) (z:=(0:Int)) (z0:=.int .u64 0) (n:=zw (1+(Int.tmod (zw (p0.N)) p1))) (m:=zw (1+(Int.tmod (zw (p0.N)) p1))) (w:=1) (bytes:=8) [] true kr kr gE kr h k) <| hlp 3 (fun s102=>⟨[Xu,(Xv p0 p1),(6,.ref 1 0 x101.length),(10,.ref 2 0 s102.2.2.length),(11,vI s102.1),(12,vI s102.2.1)],[(Zz p0),oR true 1 eI x101,oR true 1 (AV.int .u64) s102.2.2],94⟩) (fun v=>(.exit 4,⟨[(10,.ref 0 0 v.length)],[oR true 1 (AV.int .u64) v],94⟩)) (wz [0,1,2]) (fun s102=>?_) fun x120=>?_
 ·refine hbr 3 [58] (?_) ?_
  ·refine hlp 2 (fun s105=>⟨[Xu,(Xv p0 p1),(6,.ref 1 0 x101.length),(10,.ref 2 0 s105.2.2.length),(11,vI s105.1),(12,vI s102.2.1),(13,vI s105.2.1)],[(Zz p0),oR true 1 eI x101,oR true 1 (AV.int .u64) s105.2.2],94⟩) (fun v=>(.exit 6,⟨[Xu,(Xv p0 p1),(6,.ref 1 0 x101.length),(10,.ref 2 0 v.2.length),(11,vI v.1),(12,vI s102.2.1)],[(Zz p0),oR true 1 eI x101,oR true 1 (AV.int .u64) v.2],94⟩)) (wz [0,1,2]) (fun s105=>?_) fun x118=>?_
   ·refine hbr 3 [63] (?_) ?_
    ·refine hoh 4 (fun _ _ h k=>Xg (k:=.u16) (k':=.i64) (a:=p0.Edges) (b:=s105.1) kr gE h k) <| hbr 2 [71] (?_) ?_
     ·refine hbd fun a110 q111=>hop 5 (fun _=>Za (enc:=eI) (l:=x101) (n:=s102.2.1) (w:=1) (ob:=1) (ro:=false) (nr:=true) (fl:=true) (a:=a110) kr kr gE q111) <| hop 0 (fun _=>Ya (enc:=eI) (l:=x101) (n:=s102.2.1) (w:=1) (ob:=1) (c:=0) (bx:=false) (ro:=false) (nr:=true) (fl:=true) (a:=a110) kr kr q111 gE) <| hop 3 (fun _=>Za (enc:=eI) (l:=x101) (n:=s102.2.1) (w:=1) (ob:=1) (ro:=false) (nr:=true) (fl:=true) (a:=a110) kr kr gE q111) <| hop 0 (fun _=>Ya (enc:=eI) (l:=x101) (n:=s102.2.1) (w:=1) (ob:=1) (c:=0) (bx:=false) (ro:=false) (nr:=true) (fl:=true) (a:=a110) kr kr q111 gE) <| hbd fun a112 q113=>hop 0 (fun _=>Za (enc:=(AV.int .u64)) (l:=s105.2.2) (n:=a110) (w:=1) (ob:=2) (ro:=false) (nr:=true) (fl:=true) (a:=a112) kr kr gE q113) <| hop 0 (fun _=>Ya (enc:=(AV.int .u64)) (l:=s105.2.2) (n:=a110) (w:=1) (ob:=2) (c:=0) (bx:=false) (ro:=false) (nr:=true) (fl:=true) (a:=a112) kr kr q113 gE) <| hbd fun a114 q115=>?_
      refine hop 2 (fun _=>Za (enc:=eI) (l:=x101) (n:=s105.2.1) (w:=1) (ob:=1) (ro:=false) (nr:=true) (fl:=true) (a:=a114) kr kr gE q115) <| hop 0 (fun _=>Ya (enc:=eI) (l:=x101) (n:=s105.2.1) (w:=1) (ob:=1) (c:=0) (bx:=false) (ro:=false) (nr:=true) (fl:=true) (a:=a114) kr kr q115 gE) <| hoh 0 (fun _ _ h k=>Qi (k:=.u64) (k':=.i64) (a:=1) (b:=a114) kr gE h k) <| hop 1 (fun _=>Za (enc:=(AV.int .u64)) (l:=s105.2.2) (n:=a110) (w:=1) (ob:=2) (ro:=false) (nr:=true) (fl:=true) (a:=a112) kr kr gE q113) <| hop 0 (fun _=>Yi (enc:=(AV.int .u64)) (l:=s105.2.2) (n:=a110) (ob:=2) (w:=1) (bx:=false) (nr:=true) (fl:=true) (c:=0) (a:=a112) (a':=zv (zb a112 ||| zb (zv (1*2^min (zt a114) (IntKind.bits .u64)))).toNat) (v:=.int .u64 (zv (zb a112 ||| zb (zv (1*2^min (zt a114) (IntKind.bits .u64)))).toNat)) false kr kr q113 kr kr kr gE kr) <| hkl 0 [10,72,77] (ls s105.2.2 (zt a110) (zv (zb a112 ||| zb (zv (1*2^min (zt a114) (IntKind.bits .u64)))).toNat)) <| hnx 6 (wz [0,1,2])
     refine hnx 7 (wz [0,1,2])
    refine hdx 1 (wz [0,1,2])
   refine hnx 3 (wz [0,1,2])
  refine hdx 1 (wz [2])
 refine hrt 3
theorem Yp (p0:Int) (p1:Int):Ct Tryd.prog 24 [.int .u64 p0,vI p1] (Yf p0 p1) (fun x=>vB x) (fun x=>[]):=by
 refine hfn [] Tryd.func24 <| hoh 3 (fun _ _ h k=>Xg (k:=.u64) (k':=.i64) (a:=p0) (b:=p1) kr gE h k) <| hrt 4
theorem Qbz (c0:Int) (d0:(List Int)):Ct Tryd.prog 29 [eL true (AV.int .u64) (c0::d0)] (Vc c0 d0) (fun x=>.ref 0 0 x.length) (fun x=>[oR true 1 (AV.int .u64) x]):=by
 refine hfn [] Tryd.func29 <| hoh 6 (fun _ _ h k=>Q3a (enc:=(AV.int .u64)) (m:=(c0::d0)) (w:=1) (bytes:=8) (nr':=true) (fl':=true) (a:=.emp) (b:=eL true (AV.int .u64) (c0::d0)) (rds:=[]) false kr (.inr rfl) (Qwd (fun _=>rfl)) kr gE kr h k) <| hrt 2
theorem Qb1  : Ct Tryd.prog 29 [.emn] (Vd) (fun x=>.ref 0 0 x.length) (fun x=>[oR true 1 (AV.int .u64) x]):=by
 refine hfn [] Tryd.func29 <| hrt 9
theorem Qb0  : Ct Tryd.prog 29 [.nils] (Va) (fun x=>.ref 0 0 x.length) (fun x=>[oR true 1 (AV.int .u64) x]):=by
 refine hfn [] Tryd.func29 <| hwk 5 (wl [2] []) <| hwk 0 (wk_nil 2 1 true true gE) <| hrt 1
theorem g_slices_Clone_uint_uint_ok (p0:(List Int)) (x:(List Int)) (h:Zb p0=some x):Qz Tryd.prog 29 [eL true (AV.int .u64) p0] (.ret (.ref 0 0 x.length) [oR true 1 (AV.int .u64) x]):=by
 cases p0 with
 | cons c0 d0=>exact Qbz c0 d0 x h
 | nil =>
  cases h1:Va with
  | none=>simp [Zb,h1] at h
  | some y =>
   cases h2:Vd with
   | none=>simp [Zb,h1,h2] at h
   | some z =>
    by_cases e:y=z
    ·subst e
     simp [Zb,h1,h2] at h
     subst h
     exact Qz.nil (l1:=[]) (l2:=[]) (Qb0 y h1) (Qb1 y h2)
    ·simp [Zb,h1,h2,e] at h
theorem Qog (p0:(List Int)):Ct Tryd.prog 30 [eL true (AV.int .u64) p0] (Qcp p0) (fun x=>.ref 0 0 x.length) (fun x=>[oR true 1 (AV.int .u64) x]):=by
 refine hfn [] Tryd.func30 <| hop 3 (fun _=>Qv (enc:=(AV.int .u64)) (l:=p0) (fl:=true) kr gE) <| hoh 1 (fun _ _ h k=>Q0t (enc:=(AV.int .u64)) (l:=p0) (fl:=true) (lo:=none) (hi:=(some (vI (if 7 < (zn p0) then 7 else (zn p0))))) (a:=0) (b:=(if 7 < (zn p0) then 7 else (zn p0))) (w:=1) kr (fun _=>rfl) kr kr gE h k) <| hcl 0 [] (g_slices_Clone_uint_uint_ok (sub p0 0 (if 7 < (zn p0) then 7 else (zn p0)))) fun x1 _=>hrt 2
theorem g_ref31_Above_ok (p0:(List Int)) (p1:Int):Ct Tryd.prog 60 [eL true (AV.int .u64) p0,.int .u64 p1] (J1 p0 p1) (fun x=>.int .u64 x) (fun x=>[]):=by
 refine hfn [] Tryd.func60 <| hlp 2 (fun s1=>⟨[(0,eL true (AV.int .u64) p0),(1,.int .u64 s1.1),(5,vI s1.2)],[],29⟩) (fun v=>(.exit 0,⟨[(1,.int .u64 v)],[],29⟩)) (wz []) (fun s1=>?_) fun x16=>?_
 ·refine hop 2 (fun _=>Qv (enc:=(AV.int .u64)) (l:=p0) (fl:=true) kr gE) <| hbr 1 [10] (?_) ?_
  ·refine hlp 2 (fun s4=>⟨[(0,eL true (AV.int .u64) p0),(1,.int .u64 s4.1),(5,vI s1.2),(6,vI s4.2)],[],29⟩) (fun v=>(.exit 2,⟨[(0,eL true (AV.int .u64) p0),(1,.int .u64 v),(5,vI s1.2)],[],29⟩)) (wz []) (fun s4=>?_) fun x14=>?_
   ·refine hop 2 (fun _=>Qv (enc:=(AV.int .u64)) (l:=p0) (fl:=true) kr gE) <| hbr 1 [16] (?_) ?_
    ·refine hcl 3 [] (Yp s4.1 s4.2) fun x7 _=>hbr 0 [21] (hbd fun a11 q12=>hop 4 (fun _=>Z9 (enc:=(AV.int .u64)) (l:=p0) (n:=s4.2) (fl:=true) (w:=1) (a:=a11) kr kr gE q12) <| hnx 6 (wz [])) <| ?_
     refine hnx 4 (wz [])
    refine hdx 1 (wz [])
   refine hnx 3 (wz [])
  refine hdx 1 (wz [])
 refine hrt 3
theorem Ql6 (p0:(List Int)) (p1:Int):Ct Tryd.prog 32 [eL true (AV.int .u64) p0,vI p1] (X0 p0 p1) (fun x=>vB x) (fun x=>[]):=by
 refine hfn [] Tryd.func32 <| hop 2 (fun _=>Qv (enc:=(AV.int .u64)) (l:=p0) (fl:=true) kr gE) <| hbr 2 [9,10] (hrt 8) <| ?_
 refine hop 1 (fun _=>Qv (enc:=(AV.int .u64)) (l:=p0) (fl:=true) kr gE) <| hbr 3 [14,15] (hrt 3) <| ?_
 refine hlp 2 (fun s5=>⟨[(0,eL true (AV.int .u64) p0),(5,vI s5)],[],44⟩) (fun x=>match x with | .inl v=>(.ret,⟨[(4,vB false)],[],44⟩) | .inr v=>(.exit 0,⟨[(0,eL true (AV.int .u64) p0)],[],44⟩)) (wz []) (fun s5=>?_) (hsm (fun x13=>?_) (fun x14=>?_))
 ·refine hop 2 (fun _=>Qv (enc:=(AV.int .u64)) (l:=p0) (fl:=true) kr gE) <| hbr 1 [19] (?_) ?_
  ·refine hbd fun a8 q9=>hop 3 (fun _=>Z9 (enc:=(AV.int .u64)) (l:=p0) (n:=s5) (fl:=true) (w:=1) (a:=a8) kr kr gE q9) <| hop 2 (fun _=>Qv (enc:=(AV.int .u64)) (l:=p0) (fl:=true) kr gE) <| hoh 0 (fun _ _ h k=>Xg (k:=.u64) (k':=.i64) (a:=a8) (b:=(zn p0)) kr gE h k) <| hbr 1 [29] (hdx 2 (wz [])) <| ?_
   refine hnx 4 (wz [])
  refine hdx 1 (wz [])
 ·refine hrt 0
 refine hlp 1 (fun s15=>⟨[(0,eL true (AV.int .u64) p0),(6,vI s15)],[],44⟩) (fun x=>match x with | .inl v=>(.ret,⟨[(4,vB false)],[],44⟩) | .inr v=>(.exit 2,⟨[],[],44⟩)) (wz []) (fun s15=>?_) (hsm (fun x27=>?_) (fun x28=>?_))
 ·refine hop 2 (fun _=>Qv (enc:=(AV.int .u64)) (l:=p0) (fl:=true) kr gE) <| hbr 1 [33] (?_) ?_
  ·refine hbd fun a18 q19=>hop 4 (fun _=>Z9 (enc:=(AV.int .u64)) (l:=p0) (n:=s15) (fl:=true) (w:=1) (a:=a18) kr kr gE q19) <| hcl 1 [] (g_ref31_Above_ok p0 a18) fun x20 _=>hcl 1 [] (Yp x20 s15) fun x22 _=>hbr 0 [43] (hdx 2 (wz [])) <| ?_
   refine hnx 4 (wz [])
  refine hdx 1 (wz [])
 ·refine hrt 0
 refine hrt 2
end
section
attribute [local irreducible] RW WP
noncomputable abbrev Qn9 (p0:(List Int)) (p1 p2 p3 x1:Int):List (Nat×AV):=[(0,eL true (AV.int .u64) p0),(1,vI p1),(2,vI p2),(3,.int .u64 p3),(9,.int .u64 x1),(10,vI (zn p0))]
theorem Qmb (p0:(List Int)) (p1:Int) (p2:Int) (p3:Int):Ct Tryd.prog 64 [eL true (AV.int .u64) p0,vI p1,vI p2,.int .u64 p3] (Qam p0 p1 p2 p3) (fun x=>vB x) (fun x=>[]):=by
 refine hfn [] Tryd.func64 <| hoh 4 (fun _ _ h k=>Qi (k:=.u64) (k':=.i64) (a:=1) (b:=p1) kr gE h k) <| hoh 1 (fun _ _ h k=>Qi (k:=.u64) (k':=.i64) (a:=1) (b:=p2) kr gE h k) <| hcl 3 [] (g_ref31_Above_ok p0 (zv (zb (zv (zb (zv (1*2^min (zt p1) (IntKind.bits .u64))) ||| zb (zv (1*2^min (zt p2) (IntKind.bits .u64)))).toNat) ||| zb p3).toNat)) fun x1 _=>hop 2 (fun _=>Qv (enc:=(AV.int .u64)) (l:=p0) (fl:=true) kr gE) <| hoh 2 (fun _ _ h k=>mkL (enc:=(AV.int .u64)) (z:=(0:Int)) (z0:=.int .u64 0) (n:=(zn p0)) (m:=(zn p0)) (w:=1) (bytes:=8) [] true kr kr gE kr h k) <| hlp 2 (fun s3=>⟨(Qn9 p0 p1 p2 p3 x1)++[(11,.ref 0 0 s3.2.length),(12,vI s3.1)],[oR true 1 (AV.int .u64) s3.2],94⟩) (fun v=>(.exit 0,⟨[(1,vI p1),(2,vI p2),(3,.int .u64 p3),(9,.int .u64 x1),(10,vI (zn p0)),(11,.ref 0 0 v.length)],[oR true 1 (AV.int .u64) v],94⟩)) (wz [0]) (fun s3=>?_) fun x25=>?_
 ·refine hbr 3 [33] (?_) ?_
  ·refine hbd fun a6 q7=>hop 4 (fun _=>Z9 (enc:=(AV.int .u64)) (l:=p0) (n:=s3.1) (fl:=true) (w:=1) (a:=a6) kr kr gE q7) <| hoh 2 (fun _ _ h k=>Qi (k:=.u64) (k':=.i64) (a:=1) (b:=s3.1) kr gE h k) <| hlp 3 (fun s8=>⟨(Qn9 p0 p1 p2 p3 x1)++[(11,.ref 0 0 s8.2.length),(12,vI s3.1),(13,.int .u64 (zv (zb a6 ||| zb (zv (1*2^min (zt s3.1) (IntKind.bits .u64)))).toNat)),(14,vI s8.1)],[oR true 1 (AV.int .u64) s8.2],94⟩) (fun v=>(.exit 2,⟨(Qn9 p0 p1 p2 p3 x1)++[(11,.ref 0 0 v.length),(12,vI s3.1)],[oR true 1 (AV.int .u64) v],94⟩)) (wz [0]) (fun s8=>?_) fun x23=>?_
   ·refine hbr 3 [45] (?_) ?_
    ·refine hcl 3 [] (Yp x1 s3.1) fun x11 _=>hbr 1 [50,51] (?_) ?_
     ·refine hcl 2 [] (Yp (zv (zb a6 ||| zb (zv (1*2^min (zt s3.1) (IntKind.bits .u64)))).toNat) s8.1) fun x15 _=>hbr 1 [54,55] (?_) ?_
      ·refine hbd fun a19 q20=>hop 5 (fun _=>Za (enc:=(AV.int .u64)) (l:=s8.2) (n:=s8.1) (w:=1) (ob:=0) (ro:=false) (nr:=true) (fl:=true) (a:=a19) kr kr gE q20) <| hop 0 (fun _=>Ya (enc:=(AV.int .u64)) (l:=s8.2) (n:=s8.1) (w:=1) (ob:=0) (c:=0) (bx:=false) (ro:=false) (nr:=true) (fl:=true) (a:=a19) kr kr q20 gE) <| hop 2 (fun _=>Za (enc:=(AV.int .u64)) (l:=s8.2) (n:=s8.1) (w:=1) (ob:=0) (ro:=false) (nr:=true) (fl:=true) (a:=a19) kr kr gE q20) <| hop 0 (fun _=>Yi (enc:=(AV.int .u64)) (l:=s8.2) (n:=s8.1) (ob:=0) (w:=1) (bx:=false) (nr:=true) (fl:=true) (c:=0) (a:=a19) (a':=zv (zb a19 ||| zb (zv (zb a6 ||| zb (zv (1*2^min (zt s3.1) (IntKind.bits .u64)))).toNat)).toNat) (v:=.int .u64 (zv (zb a19 ||| zb (zv (zb a6 ||| zb (zv (1*2^min (zt s3.1) (IntKind.bits .u64)))).toNat)).toNat)) false kr kr q20 kr kr kr gE kr) <| hkl 0 [11,56,58] (ls s8.2 (zt s8.1) (zv (zb a19 ||| zb (zv (zb a6 ||| zb (zv (1*2^min (zt s3.1) (IntKind.bits .u64)))).toNat)).toNat)) <| hnx 3 (wz [0])
      refine hnx 4 (wz [0])
     refine hnx 8 (wz [0])
    refine hdx 1 (wz [0])
   refine hnx 3 (wz [0])
  refine hdx 1 (wz [0])
 refine hoh 1 (fun _ _ h k=>Qi (k:=.u64) (k':=.i64) (a:=1) (b:=p1) kr gE h k) <| hlp 2 (fun s26=>⟨[(2,vI p2),(3,.int .u64 p3),(9,.int .u64 x1),(10,vI (zn p0)),(11,.ref 0 0 x25.length),(15,.int .u64 s26.1),(16,vI s26.2)],[oR true 1 (AV.int .u64) x25],94⟩) (fun v=>(.exit 4,⟨[(2,vI p2),(15,.int .u64 v)],[],94⟩)) (wz [0]) (fun s26=>?_) fun x41=>?_
 ·refine hbr 3 [69] (?_) ?_
  ·refine hlp 2 (fun s29=>⟨[(2,vI p2),(3,.int .u64 p3),(9,.int .u64 x1),(10,vI (zn p0)),(11,.ref 0 0 x25.length),(15,.int .u64 s29.1),(16,vI s26.2),(17,vI s29.2)],[oR true 1 (AV.int .u64) x25],94⟩) (fun v=>(.exit 6,⟨[(2,vI p2),(3,.int .u64 p3),(9,.int .u64 x1),(10,vI (zn p0)),(11,.ref 0 0 x25.length),(15,.int .u64 v),(16,vI s26.2)],[oR true 1 (AV.int .u64) x25],94⟩)) (wz [0]) (fun s29=>?_) fun x39=>?_
   ·refine hbr 3 [74] (?_) ?_
    ·refine hcl 3 [] (Yp s29.1 s29.2) fun x32 _=>hbr 0 [79] (?_) ?_
     ·refine hbd fun a36 q37=>hop 4 (fun _=>Za (enc:=(AV.int .u64)) (l:=x25) (n:=s29.2) (w:=1) (ob:=0) (ro:=false) (nr:=true) (fl:=true) (a:=a36) kr kr gE q37) <| hop 0 (fun _=>Ya (enc:=(AV.int .u64)) (l:=x25) (n:=s29.2) (w:=1) (ob:=0) (c:=0) (bx:=false) (ro:=false) (nr:=true) (fl:=true) (a:=a36) kr kr q37 gE) <| hnx 9 (wz [0])
     refine hnx 4 (wz [0])
    refine hdx 1 (wz [0])
   refine hnx 3 (wz [0])
  refine hdx 1 (wz [])
 refine hcl 2 [] (Yp x41 p2) fun x42 _=>hrt 3
theorem Ql7 (p0:(List Int)):Ct Tryd.prog 42 [eL true (AV.int .u64) p0] (Qaq p0) (fun x=>.ref 0 0 x.length) (fun x=>[oR true 3 eTapi_Fact x]):=by
 refine hfn [] Tryd.func42 <| hlp 3 (fun s1=>⟨[(0,eL true (AV.int .u64) p0),(3,.ref 0 0 s1.2.length),(4,vI s1.1)],[oR true 3 eTapi_Fact s1.2],53⟩) (fun v=>(.exit 0,⟨[(3,.ref 0 0 v.length)],[oR true 3 eTapi_Fact v],53⟩)) (wk_trans (wk_gc (live:=[0,3,4]) (keep:=[]) gE) (wk_trans (wk_nil 3 3 true true gE) (wk_gc (live:=[0,3,4]) (keep:=[0]) kr))) (fun s1=>?_) fun x27=>?_
 ·refine hop 2 (fun _=>Qv (enc:=(AV.int .u64)) (l:=p0) (fl:=true) kr gE) <| hbr 1 [10] (?_) ?_
  ·refine hlp 4 (fun s4=>⟨[(0,eL true (AV.int .u64) p0),(3,.ref 0 0 s4.2.length),(4,vI s1.1),(5,vI s4.1)],[oR true 3 eTapi_Fact s4.2],53⟩) (fun v=>(.exit 2,⟨[(0,eL true (AV.int .u64) p0),(3,.ref 0 0 v.length),(4,vI s1.1)],[oR true 3 eTapi_Fact v],53⟩)) (wz [0]) (fun s4=>?_) fun x25=>?_
   ·refine hop 2 (fun _=>Qv (enc:=(AV.int .u64)) (l:=p0) (fl:=true) kr gE) <| hbr 1 [18] (?_) ?_
    ·refine hlp 2 (fun s7=>⟨[(0,eL true (AV.int .u64) p0),(3,.ref 0 0 s7.2.length),(4,vI s1.1),(5,vI s4.1),(6,.int .u64 s7.1)],[oR true 3 eTapi_Fact s7.2],53⟩) (fun v=>(.exit 4,⟨[(0,eL true (AV.int .u64) p0),(3,.ref 0 0 v.length),(4,vI s1.1),(5,vI s4.1)],[oR true 3 eTapi_Fact v],53⟩)) (wz [0]) (fun s7=>?_) fun x23=>?_
     ·refine hop 2 (fun _=>Qv (enc:=(AV.int .u64)) (l:=p0) (fl:=true) kr gE) <| hoh 0 (fun _ _ h k=>Qi (k:=.u64) (k':=.i64) (a:=1) (b:=(zn p0)) kr gE h k) <| hbr 1 [25] (?_) ?_
      ·refine hcl 3 [] (Yp s7.1 s1.1) fun x10 _=>hbr 2 [31,32] (?_) ?_
       ·refine hcl 2 [] (Yp s7.1 s4.1) fun x14 _=>hbr 3 [36,37,38] (?_) ?_
        ·refine hcl 4 [] (Qmb p0 s1.1 s4.1 s7.1) fun x18 _=>hbr 1 [43,44] (?_) ?_
         ·refine hop 6 (fun _=>sgL false [] [] true gE) <| hoh 0 (fun _ _ h k=>Qat (enc:=eTapi_Fact) (l:=s7.2) (m:=([(Tapi_Fact.mk s1.1 s4.1 s7.1)]:(List Tapi_Fact))) (w:=3) (bytes:=24) (ob:=0) (nr:=true) (fl:=true) (nr':=true) (fl':=true) (b:=.ref 1 0 1) (rds:=[1]) false kr kr kr kr gE kr h k) <| hnx 4 (wz [2])
         refine hnx 4 (wz [0])
        refine hnx 10 (wz [0])
       refine hnx 16 (wz [0])
      refine hdx 1 (wz [0])
     refine hnx 3 (wz [0])
    refine hdx 1 (wz [0])
   refine hnx 3 (wz [0])
  refine hdx 1 (wz [0])
 refine hrt 3
theorem g_law31_EqualFacts_ok (p0:Qc) (p1:(List Int)):Ct Tryd.prog 10 [.agg [.int .u8 p0.N,.int .u8 p0.Order.1,.int .u8 p0.Order.2.1,.int .u8 p0.Order.2.2.1,.int .u8 p0.Order.2.2.2.1,.int .u8 p0.Order.2.2.2.2.1,.int .u8 p0.Order.2.2.2.2.2,.int .u16 p0.Edges],eL true (AV.int .u64) p1] (Kt p0 p1) (fun x=>vB x) (fun x=>[]):=by
 refine hfn [] Tryd.func10 <| hcl 4 [] (us:=[.agg [.int .u8 p0.N,.int .u8 p0.Order.1,.int .u8 p0.Order.2.1,.int .u8 p0.Order.2.2.1,.int .u8 p0.Order.2.2.2.1,.int .u8 p0.Order.2.2.2.2.1,.int .u8 p0.Order.2.2.2.2.2,.int .u16 p0.Edges],vI 5]) (rv:=fun x1=>eL true (AV.int .u64) x1) (ro:=fun x1=>[]) (fun x1 q2=>Qz.froz (Qad (Qc.mk p0.N (p0.Order.1,p0.Order.2.1,p0.Order.2.2.1,p0.Order.2.2.2.1,p0.Order.2.2.2.2.1,p0.Order.2.2.2.2.2) p0.Edges) 5 x1 q2) (Qc5 (w:=1) (bx:=false) (ro:=false) (enc:=(AV.int .u64)) (l:=x1) (fl:=true) rfl)) fun x1 _=>hcl 1 [] (us:=[eL true (AV.int .u64) p1]) (rv:=fun x3=>eL true (AV.int .u64) x3) (ro:=fun x3=>[]) (fun x3 q4=>Qz.froz (Qog p1 x3 q4) (Qc5 (w:=1) (bx:=false) (ro:=false) (enc:=(AV.int .u64)) (l:=x3) (fl:=true) rfl)) fun x3 _=>hcl 1 [] (us:=[.agg [.int .u8 p0.N,.int .u8 p0.Order.1,.int .u8 p0.Order.2.1,.int .u8 p0.Order.2.2.1,.int .u8 p0.Order.2.2.2.1,.int .u8 p0.Order.2.2.2.2.1,.int .u8 p0.Order.2.2.2.2.2,.int .u16 p0.Edges],vI 6]) (rv:=fun x5=>eL true (AV.int .u64) x5) (ro:=fun x5=>[]) (fun x5 q6=>Qz.froz (Qad (Qc.mk p0.N (p0.Order.1,p0.Order.2.1,p0.Order.2.2.1,p0.Order.2.2.2.1,p0.Order.2.2.2.2.1,p0.Order.2.2.2.2.2) p0.Edges) 6 x5 q6) (Qc5 (w:=1) (bx:=false) (ro:=false) (enc:=(AV.int .u64)) (l:=x5) (fl:=true) rfl)) fun x5 _=>hlp 2 (fun s7=>⟨[(15,.agg [eL true (AV.int .u64) x1,eL true (AV.int .u64) x3,eL true (AV.int .u64) x5]),(16,vI s7)],[],58⟩) (fun x=>match x with | .inl v=>(.ret,⟨[(4,vB false)],[],58⟩) | .inr v=>(.exit 0,⟨[],[],58⟩)) (wz []) (fun s7=>?_) (hsm (fun x37=>?_) (fun x38=>?_))
 ·refine hbr 1 [17] (?_) ?_
  ·refine hbd fun a10 q11=>hop 1 (fun _=>Q2t (enc:=(eL true (AV.int .u64))) (l:=([x1,x3,x5]:(List (List Int)))) (n:=s7) (a:=a10) (w:=1) (g:=false) (v:=eL true (AV.int .u64) a10) kr (fun _=>rfl) kr q11 kr gE) <| hcl 2 [] (g_equal_Facts_ok a10) fun x12 _=>hcl 6 [] (Ql6 a10 6) fun x14 _=>hbr 2 [27,24] (?_) ?_
   ·refine hbr 5 [30,31] (hdx 5 (wz [])) <| ?_
    refine hbr 3 [33,34] (hdx 2 (wz [])) <| ?_
    refine hnx 3 (wz [])
   refine hop 2 (fun _=>Qv (enc:=(AV.int .u64)) (l:=a10) (fl:=true) kr gE) <| hbr 2 [38,35] (?_) ?_
   ·refine hbr 5 [41,42] (hdx 5 (wz [])) <| ?_
    refine hbr 3 [44,45] (hdx 2 (wz [])) <| ?_
    refine hnx 3 (wz [])
   refine hbr 4 [48,49] (hdx 9 (wz [])) <| ?_
   refine hcl 2 [] (Ql7 a10) fun x30 _=>hcl 0 [F eTapi_Fact x12.1,F eTapi_Fact x30] (g_slices_Equal_api_Fact_api_Fact_ok x12.1 x30) fun x32 _=>hbr 3 [54,55,46] (hdx 2 (wz [])) <| ?_
   refine hnx 3 (wz [])
  refine hdx 1 (wz [])
 ·refine hrt 0
 refine hcl 0 [] (Qly ) fun x39 _=>hrt 2
end
end Go.Ab
namespace Go.Ab
open Go
set_option maxRecDepth 100000
set_option maxHeartbeats 400000
def msk:Nat → (Nat → Bool)→Nat
 | 0,_=>0
 | n+1,p=>msk n p ||| (if p n then 2^n else 0)
theorem Zk (n:Nat) (p:Nat → Bool) (i:Nat):(msk n p).testBit i=(decide (i < n) && p i):=by
 induction n with
 | zero=>simp [msk]
 | succ n ih =>
  unfold msk
  rw [Nat.testBit_or,ih]
  by_cases h:i=n
  ·subst h
   cases hp:p i <;> simp [hp]
  ·have e:decide (i < n+1)=decide (i < n):=by by_cases h2:i < n <;> simp [h2] <;> omega
   rw [e]
   cases hp:p n
   ·simp
   ·simp only [if_true,Nat.testBit_two_pow]
    have e2:¬ n=i:=fun e=>h e.symm
    simp [e2]
theorem Qe8 (n:Nat) (p:Nat → Bool):msk n p < 2^n:=by
 induction n with
 | zero=>simp [msk]
 | succ n ih =>
  unfold msk
  refine Nat.or_lt_two_pow (Nat.lt_of_lt_of_le ih (Nat.pow_le_pow_right (by omega) (by omega))) ?_
  split
  ·exact Nat.pow_lt_pow_right (by omega) (by omega)
  ·exact Nat.two_pow_pos _
theorem Qes {n:Nat} {p:Nat → Bool} {a:Nat} (ha:a < 2^n) (h:∀i,i < n→a.testBit i=p i):a=msk n p:=by
 apply Nat.eq_of_testBit_eq
 intro i
 rw [Zk]
 by_cases hi:i < n
 ·simp [hi,h i hi]
 ·rw [Nat.testBit_lt_two_pow (Nat.lt_of_lt_of_le ha (Nat.pow_le_pow_right (by omega) (by omega)))]; simp [hi]
theorem Xr {n:Nat} {p q:Nat → Bool} (h:∀i,i < n→p i=q i):msk n p=msk n q :=
 Qes (Qe8 n p) fun i hi=>by rw [Zk,h i hi]; simp [hi]
theorem Qvr {n a:Nat} (hn:n≤10) (ha:a < 2^n):a < 1024:=Nat.lt_of_lt_of_le ha (Nat.pow_le_pow_right (n:=2) (by omega) hn)
theorem Q2y {n a:Nat} (hn:n≤10) (ha:a < 2^n):a < 18446744073709551616:=by have:=Qvr hn ha; omega
theorem Kz {n:Nat} (h:n < 18446744073709551616):zv (n:Int)=(n:Int):=by
 simp [IntKind.wrap,IntKind.bits,IntKind.signed]; omega
theorem Kn {a:Nat} (h:a < 18446744073709551616):(zb (a:Int)).toNat = a:=by
 show (BitVec.ofInt IntKind.u64.bits (a:Int)).toNat = a
 rw [BitVec.ofInt_natCast,BitVec.toNat_ofNat]
 exact Nat.mod_eq_of_lt h
theorem Qez {a k:Nat}:Int.fdiv (a:Int) ((2:Int)^k)=((a / 2^k:Nat):Int):=by
 rw [Int.fdiv_eq_ediv_of_nonneg _ (by exact_mod_cast Nat.zero_le (2^k))]
 simp
theorem Qv7 {a j:Nat} (h:a < 18446744073709551616):(zb (a:Int)).getLsbD j=a.testBit j:=by unfold BitVec.getLsbD; rw [Kn h]
theorem K6 {v:Nat} (hv:v < 64):zv (1*2^min (Int.toNat (v:Int)) (IntKind.bits .u64))=((2^v:Nat):Int):=by
 have hb:IntKind.bits .u64=64:=rfl
 have e0:min (Int.toNat (v:Int)) (IntKind.bits .u64)=v:=by rw [hb,Int.toNat_natCast]; omega
 have hp:2^v < 18446744073709551616:=Nat.pow_lt_pow_right (n:=64) (by omega) hv
 rw [e0,show (1:Int)*2^v=((2^v:Nat):Int) by simp,Kz hp]
theorem K0 {v:Nat} (hv:v < 64):2^v < 18446744073709551616:=Nat.pow_lt_pow_right (n:=64) (by omega) hv
theorem Qvf {n:Nat} {p q:Nat → Bool} {a b:Nat} (hn:n≤64) (ha:a < 2^n) (hb:b < 18446744073709551616) (hp:∀i,i < n→a.testBit i=p i) (hq:∀i,i < n→b.testBit i=q i) :
  zv (zb (a:Int) &&& ~~~ zb (b:Int)).toNat = ((msk n fun i=>p i && !q i:Nat):Int):=by
 have ha':a < 18446744073709551616:=Nat.lt_of_lt_of_le ha (Nat.pow_le_pow_right (n:=2) (by omega) hn)
 have h1:(zb (a:Int) &&& ~~~ zb (b:Int)).toNat < 18446744073709551616:=BitVec.isLt _
 rw [Kz h1]
 congr 1
 refine Qes ?_ fun i hi=>?_
 ·refine Nat.lt_of_le_of_lt ?_ ha
  rw [BitVec.toNat_and,Kn ha']
  exact Nat.and_le_left
 ·have:i < 64:=by omega
  have e:(zb (a:Int) &&& ~~~ zb (b:Int)).toNat.testBit i=(zb (a:Int) &&& ~~~ zb (b:Int)).getLsbD i:=rfl
  rw [e,BitVec.getLsbD_and,BitVec.getLsbD_not,Qv7 ha',Qv7 hb,hp i hi,hq i hi]
  have h64:i < IntKind.bits .u64:=this
  simp [h64]
theorem Q2u {n:Nat} {p q:Nat → Bool} {a b:Nat} (hn:n≤64) (ha:a < 2^n) (hb:b < 2^n) (hp:∀i,i < n→a.testBit i=p i) (hq:∀i,i < n→b.testBit i=q i) :
  zv (zb (a:Int) ||| zb (b:Int)).toNat = ((msk n fun i=>p i || q i:Nat):Int):=by
 have h64:2^n≤2^64:=Nat.pow_le_pow_right (n:=2) (by omega) hn
 have ha':a < 18446744073709551616:=Nat.lt_of_lt_of_le ha h64
 have hb':b < 18446744073709551616:=Nat.lt_of_lt_of_le hb h64
 rw [BitVec.toNat_or,Kn ha',Kn hb',Kz (Nat.or_lt_two_pow (n:=64) ha' hb')]
 congr 1
 exact Qes (Nat.or_lt_two_pow ha hb) fun i hi=>by rw [Nat.testBit_or,hp i hi,hq i hi]
theorem Q1 (v i:Nat):(2^v).testBit i=decide (v=i):=Nat.testBit_two_pow
theorem Q29 {n:Nat} {p:Nat → Bool}:∀i,i < n→(msk n p).testBit i=p i:=fun i hi=>by rw [Zk]; simp [hi]
theorem Q2l {n v:Nat} {p:Nat → Bool} (hn:n≤10) (hv:v < n):zv (zb ((msk n p:Nat):Int) ||| zb (zv (1*2^min (Int.toNat (v:Int)) (IntKind.bits .u64)))).toNat = ((msk n fun i=>p i || decide (v=i):Nat):Int):=by
 rw [K6 (by omega)]
 exact Q2u (by omega) (Qe8 n p) (Nat.pow_lt_pow_right (by omega) hv) Q29 fun i _=>Q1 v i
theorem Qak {a k:Nat} (ha:a < 18446744073709551616) (hk:k < 64) :
  zv (zb (Int.fdiv (a:Int) (2^min (Int.toNat (k:Int)) (IntKind.bits .u64))) &&& zb 1).toNat = ((a.testBit k).toNat : Int):=by
 have hb:IntKind.bits .u64=64:=rfl
 have e0:min (Int.toNat (k:Int)) (IntKind.bits .u64)=k:=by rw [hb,Int.toNat_natCast]; omega
 rw [e0,Qez]
 have h1:a / 2^k < 18446744073709551616:=Nat.lt_of_le_of_lt (Nat.div_le_self _ _) ha
 have e1:(zb ((a / 2^k:Nat):Int) &&& zb 1).toNat = (a / 2^k) % 2:=by
  rw [BitVec.toNat_and,Kn h1,show (zb 1).toNat = 1 from rfl,Nat.and_one_is_mod]
 rw [e1,Kz (by omega)]
 have e2:a.testBit k=((a / 2^k) % 2==1):=by rw [Nat.testBit_eq_decide_div_mod_eq]; rfl
 rw [e2]
 rcases Nat.mod_two_eq_zero_or_one (a / 2^k) with h | h <;> rw [h] <;> rfl
theorem Qth (n:Nat):msk n (fun _=>true)=2^n - 1:=(Qes (by have:=Nat.two_pow_pos n; omega) fun i hi=>by rw [Nat.testBit_two_pow_sub_one]; simp [hi]).symm
theorem Q2i {n:Nat} (hn:n≤10):zv ((zv (1*2^min (Int.toNat (n:Int)) (IntKind.bits .u64))) - 1)=((msk n fun _=>true:Nat):Int):=by
 rw [K6 (by omega),Qth]
 have h1:=K0 (v:=n) (by omega)
 have h2:=Nat.two_pow_pos n
 rw [show ((2^n:Nat):Int) - 1=((2^n - 1:Nat):Int) by omega,Kz (by omega)]
def cnt:Nat → (Nat → Bool)→Nat
 | 0,_=>0
 | n+1,p=>cnt n p+(p n).toNat
def tzN:Nat → (Nat → Bool)→Nat
 | 0,_=>0
 | n+1,p=>if p 0 then 0 else tzN n (fun i=>p (i+1))+1
def isS (x:Option Int) (y:Int):Bool:=match x with | some z=>z==y | none=>false
theorem Q0w {x:Option Int} {y:Int} (h:isS x y=true):x=some y:=by
 cases x with
 | none=>cases h
 | some z=>simp only [isS,beq_iff_eq] at h; rw [h]
theorem Qv0 {p:Nat → Bool} {n:Nat} (h:(List.range n).all p=true) {k:Nat} (hk:k < n):p k=true:=List.all_eq_true.1 h k (List.mem_range.2 hk)
theorem Q3b:((List.range 1024).all fun R=>Nat.beq R 0 || (isS (Qn (R:Int)) (tzN 10 R.testBit:Int)))=true:=by kernel_rfl
theorem Q0u:((List.range 1024).all fun R=>Nat.beq R 0 || (zv (zb (R:Int) &&& zb (zv ((R:Int) - 1))).toNat == ((msk 10 fun i=>R.testBit i && !Nat.beq (tzN 10 R.testBit) i:Nat):Int)))=true:=by kernel_rfl
theorem Qjl {n:Nat} {p q:Nat → Bool} (h:∀i,i < n→p i=q i):cnt n p=cnt n q:=by
 induction n with
 | zero=>rfl
 | succ n ih=>simp only [cnt]; rw [ih fun i hi=>h i (by omega),h n (by omega)]
theorem Qri (n:Nat) (p:Nat → Bool):cnt n p≤n:=by
 induction n with
 | zero=>exact Nat.le_refl _
 | succ n ih =>
  simp only [cnt]; have:(p n).toNat ≤ 1:=by cases p n <;> decide
  omega
theorem Qh6 {n:Nat} {p q:Nat → Bool} (h:∀i,i < n→p i=true→q i=true):cnt n p≤cnt n q:=by
 induction n with
 | zero=>exact Nat.le_refl _
 | succ n ih =>
  simp only [cnt]
  have h1:=ih fun i hi=>h i (by omega)
  have h2:=h n (by omega)
  cases hp:p n with
  | false =>
   have:false.toNat = 0:=rfl
   omega
  | true=>rw [h2 hp]; omega
theorem Qyh {n:Nat} {p:Nat → Bool} (h:∀i,i < n→p i=false):cnt n p=0:=by
 induction n with
 | zero=>rfl
 | succ n ih=>simp only [cnt]; rw [ih fun i hi=>h i (by omega),h n (by omega)]; rfl
theorem Q0o {n:Nat} {p:Nat → Bool} {i:Nat} (hi:i < n) (h:p i=true):0 < cnt n p:=by
 induction n with
 | zero=>omega
 | succ n ih =>
  simp only [cnt]
  by_cases e:i=n
  ·subst e; rw [h]; show 0 < _+1; omega
  ·have:=ih (by omega); omega
theorem Qk7 {n v:Nat} {p:Nat → Bool} (hv:v < n) (h:p v=true):cnt n (fun i=>p i && !decide (v=i))+1=cnt n p:=by
 induction n with
 | zero=>omega
 | succ n ih =>
  simp only [cnt]
  by_cases e:v=n
  ·subst e
   rw [Qjl (n:=v) (q:=p) fun i hi=>by simp; intro _; omega,h]
   simp
  ·have:=ih (by omega)
   have e2:(p n && !decide (v=n))=p n:=by simp; intro _; exact e
   rw [e2]; omega
theorem Qma:∀(n:Nat) (p:Nat → Bool),(∃i,i < n∧p i=true)→tzN n p < n∧p (tzN n p)=true∧∀i,i < tzN n p→p i=false
 | 0,p,⟨i,hi,_⟩=>by omega
 | n+1,p,⟨i,hi,h⟩=>by
  unfold tzN
  by_cases h0:p 0=true
  ·rw [if_pos h0]; exact ⟨by omega,h0,fun i hi=>by omega⟩
  ·rw [if_neg h0]
   have hi0:i≠0:=fun e=>h0 (e ▸ h)
   obtain ⟨a,b,c⟩:=Qma n (fun i=>p (i+1)) ⟨i - 1,by omega,by rw [show i - 1+1=i by omega]; exact h⟩
   refine ⟨by omega,b,fun j hj=>?_⟩
   cases j with
   | zero=>simpa using h0
   | succ j=>exact c j (by omega)
theorem Q0x {n v:Nat} {p:Nat → Bool} (hv:v < n) (h:p v=true) (hl:∀i,i < v→p i=false):tzN n p=v:=by
 obtain ⟨a,b,c⟩:=Qma n p ⟨v,hv,h⟩
 rcases Nat.lt_trichotomy (tzN n p) v with e | e | e
 ·rw [hl _ e] at b; cases b
 ·exact e
 ·rw [c v e] at h; cases h
theorem Qyn {n v:Nat} {p:Nat → Bool} (hn:n≤10) (hv:v < n) (h:p v=true) (hl:∀i,i < v→p i=false) :
  (((msk n p:Nat):Int) != 0)=true∧Qn ((msk n p:Nat):Int)=some (v:Int) ∧
  zv (zb ((msk n p:Nat):Int) &&& zb (zv (((msk n p:Nat):Int) - 1))).toNat = ((msk n fun i=>p i && !decide (v=i):Nat):Int):=by
 have hlt:=Qe8 n p
 have hR:=Qvr hn hlt
 have hb:(msk n p).testBit v=true:=by rw [Zk]; simp [hv,h]
 have h0:msk n p≠0:=fun e=>by rw [e] at hb; simp at hb
 have e0:Nat.beq (msk n p) 0=false:=by
  cases e:msk n p with
  | zero=>exact absurd e h0
  | succ k=>rfl
 have etz:tzN 10 (msk n p).testBit=v:=Q0x (by omega) hb fun i hi=>by rw [Zk,hl i hi]; simp
 have h1:=Qv0 Q3b hR
 have h2:=Qv0 Q0u hR
 simp only [e0,Bool.false_or,etz] at h1 h2
 refine ⟨by simp; omega,Q0w h1,?_⟩
 have h3:zv (zb ((msk n p:Nat):Int) &&& zb (zv (((msk n p:Nat):Int) - 1))).toNat = ((msk 10 fun i=>(msk n p).testBit i && !Nat.beq v i:Nat):Int):=by simpa using h2
 rw [h3]
 congr 1
 apply Nat.eq_of_testBit_eq
 intro j
 rw [Zk,Zk,Zk]
 have e:Nat.beq v j=decide (v=j):=by
  by_cases e:v=j
  ·subst e; simp
  ·rw [decide_eq_false e,Bool.eq_false_iff]; exact fun h=>e (Nat.eq_of_beq_eq_true h)
 rw [e]
 by_cases hj:j < n
 ·simp [hj,show j < 10 by omega]
 ·simp [hj]
theorem Q3 (k:Nat):(0:Int)≤(k:Int):=Int.natCast_nonneg k
theorem Qrx {k:Nat} (h:k < 9223372036854775807):zw ((k:Int)+1)=((k+1:Nat):Int):=by rw [w64 (by omega)]; omega
theorem Qa3 {τ ρ σ:Type} {n k0:Nat} (hk:k0≤n) (hn:n < 1152921504606846976) (mkS:Int→τ→σ) {body:σ→Option (Qh σ ρ)} (I:Nat → τ→Prop) (Q:ρ→Prop)
  (step:∀(k:Nat) (t:τ),k0≤k→k < n→I k t→(∃t',body (mkS (k:Int) t)=some (.next (mkS (zw ((k:Int)+1)) t'))∧I (k+1) t')∨(∃r,body (mkS (k:Int) t)=some (.done r)∧Q r))
  (done:∀t,I n t→∃r,body (mkS (n:Int) t)=some (.done r)∧Q r) (t0:τ) (h0:I k0 t0):∃r,Qb fuel body (mkS (k0:Int) t0)=some r∧Q r:=by
 have key:∀(j N k:Nat) (t:τ),k+j=n→k0≤k→j < N→I k t→∃r,Qb N body (mkS (k:Int) t)=some r∧Q r:=by
  intro j
  induction j with
  | zero =>
   intro N k t e hk hN hI
   obtain ⟨N,rfl⟩:∃M,N=M+1:=⟨N - 1,by omega⟩
   have:k=n:=by omega
   subst this
   obtain ⟨r,b1,b2⟩:=done t hI
   simp only [Qb,b1]
   exact ⟨r,rfl,b2⟩
  | succ j ih =>
   intro N k t e hk hN hI
   obtain ⟨N,rfl⟩:∃M,N=M+1:=⟨N - 1,by omega⟩
   rcases step k t hk (by omega) hI with ⟨t',b1,b2⟩ | ⟨r,b1,b2⟩
   ·rw [Qrx (by omega)] at b1
    simp only [Qb,b1]
    exact ih N (k+1) t' (by omega) (by omega) (by omega) b2
   ·simp only [Qb,b1]
    exact ⟨r,rfl,b2⟩
 exact key (n - k0) fuel k0 t0 (by omega) (Nat.le_refl _) (by show n - k0 < 1152921504606846976; omega) h0
theorem X5 {τ ρ σ:Type} {n k0:Nat} (hk:k0≤n) (hn:n < 1152921504606846976) (mkS:Int→τ→σ) {body:σ→Option (Qh σ ρ)} (T:Nat → τ) (r:ρ)
  (step:∀(k:Nat),k0≤k→k < n→body (mkS (k:Int) (T k))=some (.next (mkS (zw ((k:Int)+1)) (T (k+1)))))
  (done:body (mkS (n:Int) (T n))=some (.done r)):Qb fuel body (mkS (k0:Int) (T k0))=some r:=by
 obtain ⟨r',h1,h2⟩:=Qa3 hk hn mkS (body:=body) (fun k t=>t=T k) (fun x=>x=r) (fun k t a b c=>.inl ⟨T (k+1),by rw [c]; exact step k a b,rfl⟩) (fun t h=>⟨r,by rw [h]; exact done,rfl⟩) (T k0) rfl
 rw [h1,h2]
theorem dlt {k n:Nat} (h:k < n):decide ((k:Int) < (n:Int))=true:=decide_eq_true (by omega)
theorem nlt (n:Nat):¬ (decide ((n:Int) < (n:Int))=true):=by simp
def Qav {α:Type} (n:Nat) (F:Nat → α):List α:=(List.range n).map F
theorem Qq7 {α:Type} {n:Nat} {F:Nat → α}:(Qav n F).length=n:=by simp [Qav]
theorem Qxl {α:Type} {n:Nat} {F:Nat → α} {k:Nat} (h:k < n):lkI (Qav n F) (k:Int)=some (F k):=by
 rw [X3 (by rw [Qq7]; exact h)]; simp [Qav]
def Qe (n:Nat) (w:Nat → Nat):List Int:=Qav n fun j=>(w j:Int)
theorem Zy {n k:Nat} {w:Nat → Nat} (h:k < n):lkI (Qe n w) (k:Int)=some (w k:Int):=Qxl h
theorem Zs {n:Nat} {w:Nat → Nat}:(Qe n w).length=n:=Qq7
theorem Qj6 {τ ρ σ:Type} {n:Nat} (hn:n < 1152921504606846976) (good:Nat → Prop) (mkS:Int→τ→σ) {body:σ→Option (Qh σ ρ)} (T:Nat → τ) (r rb:ρ)
  (step:∀k,k < n→(∀j,j < k→good j)→good k→body (mkS (k:Int) (T k))=some (.next (mkS (zw ((k:Int)+1)) (T (k+1)))))
  (bad:∀k,k < n→(∀j,j < k→good j)→¬ good k→body (mkS (k:Int) (T k))=some (.done rb))
  (done:(∀j,j < n→good j)→body (mkS (n:Int) (T n))=some (.done r)) :
  ((∀j,j < n→good j)∧Qb fuel body (mkS ((0:Nat):Int) (T 0))=some r)∨((¬ ∀j,j < n→good j)∧Qb fuel body (mkS ((0:Nat):Int) (T 0))=some rb):=by
 have h:=Qa3 (n:=n) (k0:=0) (by omega) hn mkS (body:=body) (fun k t=>t=T k∧∀j,j < k→good j) (fun x=>((∀j,j < n→good j)∧x=r)∨((¬ ∀j,j < n→good j)∧x=rb))
  (fun k t _ hk hI=>by
   obtain ⟨rfl,hI⟩:=hI
   by_cases hg:good k
   ·left
    exact ⟨_,step k hk hI hg,rfl,fun j hj=>by
     by_cases e:j=k
     ·rw [e]; exact hg
     ·exact hI j (by omega)⟩
   ·exact .inr ⟨_,bad k hk hI hg,.inr ⟨fun h=>hg (h k hk),rfl⟩⟩)
  (fun t hI=>by
   obtain ⟨rfl,hI⟩:=hI
   exact ⟨_,done hI,.inl ⟨hI,rfl⟩⟩) (T 0) ⟨rfl,fun j hj=>by omega⟩
 obtain ⟨x,h1,h2⟩:=h
 rcases h2 with ⟨a,rfl⟩ | ⟨a,rfl⟩
 ·exact .inl ⟨a,h1⟩
 ·exact .inr ⟨a,h1⟩
theorem Jd {a b:Nat} (ha:a < 18446744073709551616) (hb:b < 18446744073709551616):zv (zb (a:Int) ||| zb (b:Int)).toNat = ((a ||| b:Nat):Int):=by
 rw [BitVec.toNat_or,Kn ha,Kn hb,Kz (Nat.or_lt_two_pow (n:=64) ha hb)]
theorem Qdn {a v:Nat} (ha:a < 18446744073709551616) (hv:v < 64):Yf (a:Int) (v:Int)=some (a.testBit v):=by
 unfold Yf
 rw [if_pos (Q3 v),Qak ha hv]
 cases a.testBit v <;> rfl
def Zh (a b:Nat):Prop:=∀j,a.testBit j=true→b.testBit j=true
theorem Zh.refl {a:Nat}:Zh a a:=fun _ h=>h
theorem Zh.trans {a b c:Nat} (h:Zh a b) (k:Zh b c):Zh a c:=fun j hj=>k j (h j hj)
theorem Qfb {a b:Nat}:Zh a (a ||| b):=fun j h=>by rw [Nat.testBit_or,h]; rfl
theorem Qrj {a b:Nat}:Zh b (a ||| b):=fun j h=>by rw [Nat.testBit_or,h]; simp
theorem or_sub {a b c:Nat} (h:Zh a c) (k:Zh b c):Zh (a ||| b) c:=fun j hj=>by
 rw [Nat.testBit_or,Bool.or_eq_true] at hj
 rcases hj with e | e
 ·exact h j e
 ·exact k j e
theorem sub_anti {a b:Nat} (h:Zh a b) (k:Zh b a):a=b:=Nat.eq_of_testBit_eq fun j=>by
 cases ha:a.testBit j with
 | true=>rw [h j ha]
 | false=>cases hb:b.testBit j with
  | true=>rw [k j hb] at ha; cases ha
  | false=>rfl
def upV (S:Nat → Nat) (s v:Nat):Nat := if s.testBit v then s ||| S v else s
def upR (n:Nat) (S:Nat → Nat) (s:Nat):Nat := (List.range n).foldl (upV S) s
def ups (n:Nat) (S:Nat → Nat):Nat → Nat → Nat
 | 0,s=>s
 | k+1,s=>upR n S (ups n S k s)
theorem Qvd {S:Nat → Nat} {s v:Nat}:Zh s (upV S s v):=by
 unfold upV; split
 ·exact Qfb
 ·exact .refl
theorem Qkw {S:Nat → Nat}:∀(l:List Nat) (s:Nat),Zh s (l.foldl (upV S) s)
 | [],s=>.refl
 | v::l,s=>Qvd.trans (Qkw l _)
theorem Qq0 {S:Nat → Nat} {v:Nat}:∀(l:List Nat) (s:Nat),v∈l→s.testBit v=true→Zh (S v) (l.foldl (upV S) s)
 | [],s,h,_=>by cases h
 | u::l,s,h,hs=>by
  simp only [List.foldl_cons]
  by_cases e:v=u
  ·subst e
   refine Zh.trans ?_ (Qkw l _)
   unfold upV; rw [if_pos hs]; exact Qrj
  ·exact Qq0 l _ (by simpa [e] using h) (Qvd v hs)
theorem Qgv {S:Nat → Nat} {T:Nat}:∀(l:List Nat) (s:Nat),(∀v∈l,T.testBit v=true→Zh (S v) T)→Zh s T→Zh (l.foldl (upV S) s) T
 | [],s,_,h=>h
 | v::l,s,hT,h=>by
  simp only [List.foldl_cons]
  refine Qgv l _ (fun u hu=>hT u (List.mem_cons_of_mem _ hu)) ?_
  unfold upV; split
  ·rename_i hs; exact or_sub h (hT v (by simp) (h v hs))
  ·exact h
def Clo (n:Nat) (S:Nat → Nat) (T:Nat):Prop:=∀v,v < n→T.testBit v=true→Zh (S v) T
theorem Ko {n:Nat} {S:Nat → Nat} {s:Nat}:∀k,Zh s (ups n S k s)
 | 0=>.refl
 | k+1=>(Ko k).trans (Qkw _ _)
theorem Ve {n:Nat} {S:Nat → Nat} {s T:Nat} (hT:Clo n S T) (h:Zh s T):∀k,Zh (ups n S k s) T
 | 0=>h
 | k+1=>Qgv _ _ (fun v hv=>hT v (List.mem_range.1 hv)) (Ve hT h k)
theorem Q0g {n:Nat} {S:Nat → Nat} {s:Nat} (h:upR n S s=s):Clo n S s:=fun v hv hs=>by
 have:=Qq0 (S:=S) (List.range n) s (List.mem_range.2 hv) hs
 unfold upR at h
 rwa [h] at this
theorem Qrk {n a b:Nat} (h:Zh a b) (hb:∀j,b.testBit j=true→j < n) (hne:a≠b):cnt n a.testBit < cnt n b.testBit:=by
 have:∃j,b.testBit j=true∧a.testBit j=false:=by
  apply Classical.byContradiction
  intro hno
  exact hne (sub_anti h fun j hj=>by
   cases ha:a.testBit j with
   | true=>rfl
   | false=>exact absurd ⟨j,hj,ha⟩ hno)
 obtain ⟨j,h1,h2⟩:=this
 have e:=Qk7 (n:=n) (p:=b.testBit) (hb j h1) h1
 have:cnt n a.testBit≤cnt n (fun i=>b.testBit i && !decide (j=i)):=Qh6 fun i _ hi=>by
  have:j≠i:=fun e=>by subst e; rw [h2] at hi; cases hi
  simp [h i hi,this]
 omega
theorem Kv (n:Nat) {S:Nat → Nat} (hS:∀v,v < n→∀j,(S v).testBit j=true→j < n):Clo n S (2^n - 1):=fun v hv _ j hj=>by
 rw [Nat.testBit_two_pow_sub_one]; simpa using hS v hv j hj
theorem Qea {n:Nat} {S:Nat → Nat} {s:Nat} (hS:∀v,v < n→∀j,(S v).testBit j=true→j < n) (hs:∀j,s.testBit j=true→j < n):Clo n S (ups n S n s):=by
 have hin:∀k j,(ups n S k s).testBit j=true→j < n:=fun k j hj=>by
  have:=Ve (Kv n hS) (s:=s) (fun j hj=>by rw [Nat.testBit_two_pow_sub_one]; simpa using hs j hj) k j hj
  rw [Nat.testBit_two_pow_sub_one] at this; simpa using this
 have key:∀k,upR n S (ups n S k s)=ups n S k s∨k+cnt n s.testBit≤cnt n (ups n S k s).testBit:=by
  intro k
  induction k with
  | zero=>right; simp [ups]
  | succ k ih =>
   by_cases hf:upR n S (ups n S k s)=ups n S k s
   ·left; simp only [ups]; rw [hf,hf]
   ·right
    rcases ih with h | h
    ·exact absurd h hf
    ·have:=Qrk (n:=n) (Qkw (S:=S) (List.range n) (ups n S k s)) (hin (k+1)) (fun e=>hf e.symm)
     show k+1+_≤cnt n (upR n S (ups n S k s)).testBit
     unfold upR; omega
 rcases key n with h | h
 ·exact Q0g h
 ·have h0:=Qri n (ups n S n s).testBit
  have hz:cnt n s.testBit=0:=by omega
  have:s=0:=Nat.eq_of_testBit_eq fun j=>by
   rw [Nat.zero_testBit,Bool.eq_false_iff]
   intro hj
   have:=Q0o (n:=n) (hs j hj) hj; omega
  subst this
  have h1:=Ve (n:=n) (S:=S) (s:=0) (T:=0) (fun v _ hv=>by rw [Nat.zero_testBit] at hv; cases hv) .refl n
  intro v hv hb
  have:=h1 v hb
  rw [Nat.zero_testBit] at this; cases this
theorem Vs {n s:Nat} (h:∀j,s.testBit j=true→j < n):s < 2^n:=by
 apply Nat.lt_pow_two_of_testBit
 intro i hi
 rw [Bool.eq_false_iff]; intro hj
 have:=h i hj; omega
theorem Qre {n:Nat} {S:Nat → Nat} {s:Nat} (hn:n≤8) (hS:∀v,v < n→∀j,(S v).testBit j=true→j < n) (hs:∀j,s.testBit j=true→j < n):J1 (Qe n S) (s:Int)=some ((ups n S n s:Nat):Int):=by
 have hlen:(Qe n S).length=n:=Zs
 have hfull:=Kv n hS
 have hs0:Zh s (2^n - 1):=fun j hj=>by rw [Nat.testBit_two_pow_sub_one]; simpa using hs j hj
 have p8:(2:Nat)^n≤256:=Nat.pow_le_pow_right (n:=2) (by omega) hn
 have hlt:∀{t:Nat},Zh t (2^n - 1)→t < 18446744073709551616:=fun h=>by
  have:=Vs (n:=n) fun j hj=>by have:=h j hj; rw [Nat.testBit_two_pow_sub_one] at this; simpa using this
  omega
 have inner:∀t,Zh t (2^n - 1)→Qb fuel (Vw (Qe n S)) ((t:Int),(0:Int))=some ((upR n S t:Nat):Int):=fun t ht=>by
  have h:=X5 (n:=n) (k0:=0) (by omega) (by omega) (fun i (x:Int)=>(x,i)) (body:=Vw (Qe n S)) (fun k=>(((List.range k).foldl (upV S) t:Nat):Int)) ((upR n S t:Nat):Int)
   (fun k _ hk=>by
    have hsub:=Qgv (S:=S) (T:=2^n - 1) (List.range k) t (fun v hv=>hfull v (by have:=List.mem_range.1 hv; omega)) ht
    unfold Vw
    dsimp only
    rw [hlen,if_pos (dlt hk),Qdn (hlt hsub) (by omega),Option.bind_some,List.range_succ,List.foldl_append]
    simp only [List.foldl_cons,List.foldl_nil]
    unfold upV
    by_cases c:((List.range k).foldl (upV S) t).testBit k=true
    ·unfold upV at c
     rw [if_pos c,Zy hk,Option.bind_some,if_pos c]
     have hsub':=hsub
     unfold upV at hsub'
     rw [Jd (hlt hsub') (by
      have:=Vs (hS k hk); omega)]
    ·unfold upV at c
     rw [if_neg c,if_neg c])
   (by unfold Vw; dsimp only; rw [hlen,if_neg (nlt n)]; rfl)
  rw [show ((0:Nat):Int)=0 from rfl] at h
  exact h
 have h:=X5 (n:=n) (k0:=0) (by omega) (by omega) (fun i (x:Int)=>(x,i)) (body:=Jy (Qe n S)) (fun k=>((ups n S k s:Nat):Int)) ((ups n S n s:Nat):Int)
  (fun k _ hk=>by
   unfold Jy
   dsimp only
   rw [hlen,if_pos (dlt hk),inner _ (Ve hfull hs0 k)]; rfl)
  (by unfold Jy; dsimp only; rw [hlen,if_neg (nlt n)])
 rw [show ((0:Nat):Int)=0 from rfl] at h
 unfold J1
 rw [show ups n S 0 s=s from rfl] at h
 rw [h]; rfl
end Go.Ab
namespace Go.Ab
open Go
set_option maxRecDepth 100000
set_option maxHeartbeats 400000
def Qj7 (a p:Nat):Bool:=(a ||| p)==p
theorem Qh9 {a p:Nat}:Qj7 a p=true↔Zh a p:=by
 unfold Qj7
 rw [beq_iff_eq]
 constructor
 ·intro h j hj
  have:(a ||| p).testBit j=p.testBit j:=by rw [h]
  rw [Nat.testBit_or,hj] at this; simpa using this.symm
 ·intro h
  exact sub_anti (or_sub h .refl) Qrj
theorem Qyx {a p:Nat} (ha:a < 18446744073709551616) (hp:p < 18446744073709551616) :
  ((zv (zb (a:Int) &&& ~~~ zb (p:Int)).toNat)==0)=Qj7 a p:=by
 rw [Qvf (n:=64) (p:=a.testBit) (q:=p.testBit) (by omega) ha hp (fun _ _=>rfl) (fun _ _=>rfl)]
 rw [Bool.eq_iff_iff,beq_iff_eq,Qh9]
 constructor
 ·intro h j hj
  have h0:(msk 64 fun i=>a.testBit i && !p.testBit i)=0:=by exact_mod_cast h
  have hj64:j < 64:=by
   apply Classical.byContradiction
   intro hn
   rw [Nat.testBit_lt_two_pow (Nat.lt_of_lt_of_le (show a < 2^64 from ha) (Nat.pow_le_pow_right (by omega) (by omega)))] at hj; cases hj
  have:=Zk 64 (fun i=>a.testBit i && !p.testBit i) j
  rw [h0] at this
  simp [hj64,hj] at this
  exact this
 ·intro h
  have:(msk 64 fun i=>a.testBit i && !p.testBit i)=msk 64 (fun _=>false):=Xr fun i _=>by
   cases e:a.testBit i with
   | false=>rfl
   | true=>rw [h i e]; rfl
  rw [this]
  rfl
def plV (S:Nat → Nat) (p v:Nat):Nat := if Qj7 (S v) p=true then p ||| 2^v else p
def plR (n:Nat) (S:Nat → Nat) (p:Nat):Nat := (List.range n).foldl (plV S) p
def pls (n:Nat) (S:Nat → Nat):Nat → Nat
 | 0=>0
 | k+1=>plR n S (pls n S k)
theorem Qw0 {S:Nat → Nat} {p v:Nat}:Zh p (plV S p v):=by
 unfold plV; split
 ·exact Qfb
 ·exact .refl
theorem Qr1 {S:Nat → Nat}:∀(l:List Nat) (p:Nat),Zh p (l.foldl (plV S) p)
 | [],_=>.refl
 | v::l,p=>Qw0.trans (Qr1 l _)
theorem Qta {S:Nat → Nat} {v:Nat}:∀(l:List Nat) (p:Nat),v∈l→Zh (S v) p→(l.foldl (plV S) p).testBit v=true
 | [],_,h,_=>by cases h
 | u::l,p,h,hs=>by
  simp only [List.foldl_cons]
  by_cases e:v=u
  ·subst e
   refine Qr1 l _ v ?_
   unfold plV; rw [if_pos (Qh9.2 hs),Nat.testBit_or,Q1]; simp
  ·exact Qta l _ (by simpa [e] using h) (hs.trans Qw0)
def Rk (n:Nat) (S:Nat → Nat) (p:Nat):Prop:=(∀j,p.testBit j=true→j < n)∧∃(r:Nat → Nat) (M:Nat),(∀x,r x≤M)∧∀v,p.testBit v=true→∀j,(S v).testBit j=true→p.testBit j=true∧r j < r v
theorem Qzr {n:Nat} {S:Nat → Nat} {p v:Nat} (hv:v < n) (h:Rk n S p):Rk n S (plV S p v):=by
 unfold plV
 split
 ·rename_i hs
  have hs:=Qh9.1 hs
  obtain ⟨h1,r,M,h2,h3⟩:=h
  by_cases hp:p.testBit v=true
  ·have e:p ||| 2^v=p:=sub_anti (or_sub .refl fun j hj=>by rw [Q1] at hj; have:=of_decide_eq_true hj; subst this; exact hp) Qfb
   rw [e]; exact ⟨h1,r,M,h2,h3⟩
  ·refine ⟨fun j hj=>?_,fun x=>if x=v then M+1 else r x,M+1,fun x=>?_,fun w hw j hj=>?_⟩
   ·rw [Nat.testBit_or,Q1,Bool.or_eq_true] at hj
    rcases hj with hj | hj
    ·exact h1 j hj
    ·have:=of_decide_eq_true hj; omega
   ·show (if x=v then M+1 else r x)≤M+1
    split
    ·omega
    ·have:=h2 x; omega
   ·rw [Nat.testBit_or,Q1,Bool.or_eq_true] at hw
    by_cases e:w=v
    ·subst e
     have hjp:=hs j hj
     have:¬ j=w:=fun e=>hp (e ▸ hjp)
     refine ⟨Qfb j hjp,?_⟩
     show (if j=w then M+1 else r j) < (if w=w then M+1 else r w)
     rw [if_neg this,if_pos rfl]; have:=h2 j; omega
    ·have hw:p.testBit w=true:=hw.resolve_right fun h=>e (of_decide_eq_true h).symm
     obtain ⟨h4,h5⟩:=h3 w hw j hj
     have:¬ j=v:=fun e=>hp (e ▸ h4)
     refine ⟨Qfb j h4,?_⟩
     show (if j=v then M+1 else r j) < (if w=v then M+1 else r w)
     rw [if_neg this,if_neg e]; exact h5
 ·exact h
theorem Qn7 {n:Nat} {S:Nat → Nat}:∀(l:List Nat) (p:Nat),(∀v∈l,v < n)→Rk n S p→Rk n S (l.foldl (plV S) p)
 | [],_,_,h=>h
 | v::l,p,hl,h=>Qn7 l _ (fun u hu=>hl u (List.mem_cons_of_mem _ hu)) (Qzr (hl v (by simp)) h)
theorem Qmt {n:Nat} {S:Nat → Nat}:∀k,Rk n S (pls n S k)
 | 0=>⟨fun j hj=>by simp [pls] at hj,fun _=>0,0,fun _=>Nat.le_refl _,fun v hv=>by simp [pls] at hv⟩
 | k+1=>Qn7 _ _ (fun v hv=>List.mem_range.1 hv) (Qmt k)
structure Gd (n:Nat) (S:Nat → Nat):Prop where
 inn:∀v,v < n→∀j,(S v).testBit j=true→j < n
 acyc:∀v,v < n→¬ (ups n S n (S v)).testBit v=true
theorem Ql4 {n p:Nat} (h:∀j,p.testBit j=true→j < n):p=2^n - 1↔∀j,j < n→p.testBit j=true:=by
 constructor
 ·intro e j hj; rw [e,Nat.testBit_two_pow_sub_one]; simpa using hj
 ·intro k
  apply Nat.eq_of_testBit_eq
  intro j
  rw [Nat.testBit_two_pow_sub_one]
  by_cases hj:j < n
  ·rw [k j hj]; simp [hj]
  ·have:p.testBit j=false:=by rw [Bool.eq_false_iff]; exact fun e=>hj (h j e)
   rw [this]; simp [hj]
theorem Qvu {n:Nat} {S:Nat → Nat}:pls n S n=2^n - 1↔Gd n S:=by
 have hrk:=Qmt (n:=n) (S:=S)
 constructor
 ·intro h
  obtain ⟨h1,r,M,h2,h3⟩:=hrk n
  have hall:=(Ql4 h1).1 h
  refine ⟨fun v hv j hj=>h1 j (h3 v (hall v hv) j hj).1,fun v hv hb=>?_⟩
  have hT:Clo n S (msk n fun j=>decide (r j < r v)):=fun w hw hb j hj=>by
   rw [Zk] at hb ⊢
   simp only [Bool.and_eq_true,decide_eq_true_eq] at hb ⊢
   have:=h3 w (hall w hw) j hj
   exact ⟨h1 j this.1,by omega⟩
  have hs:Zh (S v) (msk n fun j=>decide (r j < r v)):=fun j hj=>by
   rw [Zk]
   simp only [Bool.and_eq_true,decide_eq_true_eq]
   have:=h3 v (hall v hv) j hj
   exact ⟨h1 j this.1,this.2⟩
  have:=Ve hT hs n v hb
  rw [Zk] at this
  simp at this
 ·intro h
  have key:∀k,plR n S (pls n S k)=pls n S k∨k≤cnt n (pls n S k).testBit:=by
   intro k
   induction k with
   | zero=>right; exact Nat.zero_le _
   | succ k ih =>
    by_cases hf:plR n S (pls n S k)=pls n S k
    ·left; simp only [pls]; rw [hf,hf]
    ·right
     rcases ih with h | h
     ·exact absurd h hf
     ·have:=Qrk (n:=n) (Qr1 (S:=S) (List.range n) (pls n S k)) (hrk (k+1)).1 (fun e=>hf e.symm)
      show k+1≤cnt n (plR n S (pls n S k)).testBit
      unfold plR; omega
  refine (Ql4 (hrk n).1).2 ?_
  rcases key n with hst | hc
  ·generalize pls n S n=P at *
   have main:∀c v,v < n→¬ P.testBit v=true→cnt n (ups n S n (S v)).testBit=c→False:=by
    intro c
    induction c using Nat.strongRecOn with
    | _ c ih =>
     intro v hv hp hc
     have hns:¬ Zh (S v) P:=fun hs=>hp (by
      have:=Qta (List.range n) P (List.mem_range.2 hv) hs
      unfold plR at hst
      rwa [hst] at this)
     obtain ⟨j,hj,hjp⟩:∃j,(S v).testBit j=true∧¬ P.testBit j=true:=by
      apply Classical.byContradiction
      intro hno
      exact hns fun j hj=>Classical.byContradiction fun hp=>hno ⟨j,hj,hp⟩
     have hjn:=h.inn v hv j hj
     have hclo:=Qea h.inn (s:=S v) (h.inn v hv)
     have hin:(ups n S n (S v)).testBit j=true:=Ko n j hj
     have hsub:Zh (ups n S n (S j)) (ups n S n (S v)):=Ve hclo (hclo j hjn hin) n
     have hb:∀i,(ups n S n (S v)).testBit i=true→i < n:=fun i hi=>by
      have:=Ve (Kv n h.inn) (s:=S v) (fun i hi=>by rw [Nat.testBit_two_pow_sub_one]; simpa using h.inn v hv i hi) n i hi
      rw [Nat.testBit_two_pow_sub_one] at this; simpa using this
     have:=Qrk (n:=n) hsub hb fun e=>h.acyc j hjn (by rw [e]; exact hin)
     exact ih _ (by omega) j hjn hjp rfl
   exact fun j hj=>Classical.byContradiction fun hp=>main _ j hj hp rfl
  ·intro j hj
   apply Classical.byContradiction
   intro hp
   have h1:cnt n (pls n S n).testBit < n:=by
    have e:=Qk7 (n:=n) (p:=fun _=>true) hj rfl
    have:cnt n (pls n S n).testBit≤cnt n (fun i=>true && !decide (j=i)):=Qh6 fun i _ hi=>by
     have:j≠i:=fun e=>hp (e ▸ hi)
     simp [this]
    have:=Qri n (fun _=>true)
    omega
   omega
theorem Q2c {n:Nat} (hn:n≤8) {S:Nat → Nat} {p:Nat} (h:Rk n S p):p < 18446744073709551616:=by
 have:=Vs h.1
 have:(2:Nat)^n≤256:=Nat.pow_le_pow_right (n:=2) (by omega) hn
 omega
def L64 (n:Nat) (S:Nat → Nat):Prop:=∀v,v < n→S v < 18446744073709551616
theorem Qst {n:Nat} {S:Nat → Nat} (hn:n≤8) (hS:L64 n S):Y6 (Qe n S)=some (pls n S n==2^n - 1):=by
 have hlen:(Qe n S).length=n:=Zs
 have inner:∀p,Rk n S p→Qb fuel (Y4 (Qe n S)) ((p:Int),(0:Int))=some ((plR n S p:Nat):Int):=fun p hp=>by
  have h:=X5 (n:=n) (k0:=0) (by omega) (by omega) (fun i (x:Int)=>(x,i)) (body:=Y4 (Qe n S)) (fun k=>(((List.range k).foldl (plV S) p:Nat):Int)) ((plR n S p:Nat):Int)
   (fun k _ hk=>by
    have hr:=Qn7 (List.range k) p (fun v hv=>by have:=List.mem_range.1 hv; omega) hp
    have hlt:=Q2c hn hr
    unfold Y4
    dsimp only
    rw [hlen,if_pos (dlt hk),Zy hk,Option.bind_some,Qyx (hS k hk) hlt,List.range_succ,List.foldl_append]
    simp only [List.foldl_cons,List.foldl_nil]
    generalize (List.range k).foldl (plV S) p=q at *
    unfold plV
    by_cases c:Qj7 (S k) q=true
    ·rw [if_pos c,if_pos (Q3 k),if_pos c,K6 (by omega),Jd hlt (K0 (by omega))]
    ·rw [if_neg c,if_neg c])
   (by unfold Y4; dsimp only; rw [hlen,if_neg (nlt n)]; rfl)
  rw [show ((0:Nat):Int)=0 from rfl] at h
  exact h
 have h:=X5 (n:=n) (k0:=0) (by omega) (by omega) (fun i (x:Int)=>(x,i)) (body:=V7 (Qe n S)) (fun k=>((pls n S k:Nat):Int)) ((pls n S n:Nat):Int)
  (fun k _ hk=>by
   unfold V7
   dsimp only
   rw [hlen,if_pos (dlt hk),inner _ (Qmt k)]; rfl)
  (by unfold V7; dsimp only; rw [hlen,if_neg (nlt n)])
 rw [show ((0:Nat):Int)=0 from rfl] at h
 unfold Y6
 rw [show ((0:Int),(0:Int))=(((pls n S 0:Nat):Int),(0:Int)) from rfl,h,Option.bind_some,hlen,if_pos (Q3 n),Q2i (by omega),Qth]
 congr 1
 rw [Bool.eq_iff_iff,beq_iff_eq,beq_iff_eq]
 exact Int.ofNat_inj
theorem Qo4 {n:Nat} {S:Nat → Nat} (hn:n≤7) (hS:L64 n S):∃c,Q9 (Qe n S)=some (if c=true then 0 else 310)∧(c=true↔(1≤n∧n≤6)∧Gd n S):=by
 have hlen:(Qe n S).length=n:=Zs
 unfold Q9
 rw [hlen]
 by_cases h1:(n:Int) < 1
 ·exact ⟨false,by simp [h1],by simp; omega⟩
 ·by_cases h2:(n:Int) > 6
  ·exact ⟨false,by simp [h1,h2],by simp; omega⟩
  ·refine ⟨pls n S n==2^n - 1,?_,?_⟩
   ·rw [Qst (by omega) hS]
    simp only [decide_eq_true_eq,h1,h2,if_false,Option.bind_some]
    cases (pls n S n==2^n - 1) <;> rfl
   ·rw [beq_iff_eq,Qvu]
    exact ⟨fun h=>⟨by omega,h⟩,fun h=>h.2⟩
theorem Qbf {a n:Nat} (hn:n≤64):((Int.fdiv (a:Int) (2^min (Int.toNat (n:Int)) (IntKind.bits .u64))) != 0)=!decide (a < 2^n):=by
 have hb:IntKind.bits .u64=64:=rfl
 have e0:min (Int.toNat (n:Int)) (IntKind.bits .u64)=n:=by rw [hb,Int.toNat_natCast]; omega
 rw [e0,Qez,Bool.eq_iff_iff]
 simp only [bne_iff_ne,ne_eq,Bool.not_eq_true',decide_eq_false_iff_not]
 have:a / 2^n=0↔a < 2^n:=Nat.div_eq_zero_iff_lt (Nat.two_pow_pos n)
 rw [←this]
 exact not_congr ⟨fun h=>by exact_mod_cast h,fun h=>by rw [h]; rfl⟩
theorem Qtc {a n:Nat}:a < 2^n↔∀j,a.testBit j=true→j < n:=by
 constructor
 ·intro h j hj
  apply Classical.byContradiction
  intro hn
  rw [Nat.testBit_lt_two_pow (Nat.lt_of_lt_of_le h (Nat.pow_le_pow_right (by omega) (by omega)))] at hj; cases hj
 ·exact Vs
theorem Qv3 {n m:Nat} {S:Nat → Nat} (hn:n≤7) (hS:L64 n S):∃c,X0 (Qe n S) (m:Int)=some c∧(c=true↔(1≤n∧n≤m)∧Gd n S):=by
 have hlen:(Qe n S).length=n:=Zs
 unfold X0
 rw [hlen]
 by_cases h1:(n:Int) < 1
 ·exact ⟨false,by simp [h1],by simp; omega⟩
 ·by_cases h2:(n:Int) > m
  ·exact ⟨false,by simp [h1,h2],by simp; omega⟩
  ·simp only [decide_eq_true_eq,h1,h2,if_false]
   rcases Qj6 (n:=n) (by omega) (fun k=>S k < 2^n) (fun i (_:Unit)=>i) (body:=Vr (Qe n S)) (fun _=>()) (.inr ()) (.inl ())
    (fun k hk _ hg=>by
     unfold Vr
     rw [hlen,if_pos (dlt hk),Zy hk,Option.bind_some,if_pos (Q3 n),Qbf (by omega),if_neg (by simpa using hg)])
    (fun k hk _ hg=>by
     unfold Vr
     rw [hlen,if_pos (dlt hk),Zy hk,Option.bind_some,if_pos (Q3 n),Qbf (by omega),if_pos (by simpa using hg)])
    (fun _=>by unfold Vr; rw [hlen,if_neg (nlt n)]) with ⟨hg,h⟩ | ⟨hg,h⟩
   ·rw [show ((0:Nat):Int)=0 from rfl] at h
    rw [h,Option.bind_some]
    dsimp only
    have hinn:∀v,v < n→∀j,(S v).testBit j=true→j < n:=fun v hv=>Qtc.1 (hg v hv)
    rcases Qj6 (n:=n) (by omega) (fun k=>¬ (ups n S n (S k)).testBit k=true) (fun i (_:Unit)=>i) (body:=Vv (Qe n S)) (fun _=>()) (.inr ()) (.inl ())
     (fun k hk _ hg=>by
      have hu:ups n S n (S k) < 18446744073709551616:=by
       have:=Vs (n:=n) fun j hj=>by
        have:=Ve (Kv n hinn) (s:=S k) (fun i hi=>by rw [Nat.testBit_two_pow_sub_one]; simpa using hinn k hk i hi) n j hj
        rw [Nat.testBit_two_pow_sub_one] at this; simpa using this
       have:(2:Nat)^n≤256:=Nat.pow_le_pow_right (n:=2) (by omega) (show n≤8 by omega)
       omega
      unfold Vv
      rw [hlen,if_pos (dlt hk),Zy hk,Option.bind_some,Qre (by omega) hinn (hinn k hk),Option.bind_some,Qdn hu (by omega),Option.bind_some,if_neg hg])
     (fun k hk _ hg=>by
      have hu:ups n S n (S k) < 18446744073709551616:=by
       have:=Vs (n:=n) fun j hj=>by
        have:=Ve (Kv n hinn) (s:=S k) (fun i hi=>by rw [Nat.testBit_two_pow_sub_one]; simpa using hinn k hk i hi) n j hj
        rw [Nat.testBit_two_pow_sub_one] at this; simpa using this
       have:(2:Nat)^n≤256:=Nat.pow_le_pow_right (n:=2) (by omega) (show n≤8 by omega)
       omega
      unfold Vv
      rw [hlen,if_pos (dlt hk),Zy hk,Option.bind_some,Qre (by omega) hinn (hinn k hk),Option.bind_some,Qdn hu (by omega),Option.bind_some,if_pos (Classical.not_not.1 hg)])
     (fun _=>by unfold Vv; rw [hlen,if_neg (nlt n)]) with ⟨hg2,h⟩ | ⟨hg2,h⟩
    ·rw [show ((0:Nat):Int)=0 from rfl] at h
     rw [h,Option.bind_some]
     exact ⟨true,rfl,by simp only [true_iff]; exact ⟨by omega,hinn,hg2⟩⟩
    ·rw [show ((0:Nat):Int)=0 from rfl] at h
     rw [h,Option.bind_some]
     exact ⟨false,rfl,by simp only [Bool.false_eq_true,false_iff]; exact fun h=>hg2 h.2.acyc⟩
   ·rw [show ((0:Nat):Int)=0 from rfl] at h
    rw [h,Option.bind_some]
    exact ⟨false,rfl,by simp only [Bool.false_eq_true,false_iff]; exact fun h=>hg fun v hv=>Vs (h.2.inn v hv)⟩
end Go.Ab
namespace Go.Ab
open Go
set_option maxRecDepth 100000
set_option maxHeartbeats 1000000
def apL {α:Type} (L:Nat → List α) (k0:Nat):Nat → List α
 | 0=>[]
 | j+1=>apL L k0 j++L (k0+j)
theorem Kx {α:Type} {L:Nat → List α} {k0 m:Nat} (h:∀k,(L k).length≤m):∀j,(apL L k0 j).length≤j*m
 | 0=>by simp [apL]
 | j+1=>by
  have:=Kx (k0:=k0) h j
  have:=h (k0+j)
  simp only [apL,List.length_append,Nat.succ_mul]; omega
theorem Qa4 {α:Type} {L L':Nat → List α} {k0:Nat}:∀j,(∀i,k0≤i→i < k0+j→L i=L' i)→apL L k0 j=apL L' k0 j
 | 0,_=>rfl
 | j+1,h=>by
  simp only [apL]
  rw [Qa4 j fun i h1 h2=>h i h1 (by omega),h (k0+j) (by omega) (by omega)]
theorem Jq {α σ ρ:Type} {n k0 m c:Nat} (hk:k0≤n) (hn:n < 1152921504606846976) (mkS:Int→List α→σ) {body:σ→Option (Qh σ ρ)} (L:Nat → List α) (fin:List α→ρ) (hL:∀k,(L k).length≤m) {out:List α} (hout:out.length≤c)
  (step:∀k o,k0≤k→k < n→o.length≤c+n*m→body (mkS (k:Int) o)=some (.next (mkS (zw ((k:Int)+1)) (o++L k))))
  (done:∀o,body (mkS (n:Int) o)=some (.done (fin o))):Qb fuel body (mkS (k0:Int) out)=some (fin (out++apL L k0 (n - k0))):=by
 have h:=X5 hk hn mkS (body:=body) (fun k=>out++apL L k0 (k - k0)) (fin (out++apL L k0 (n - k0)))
  (fun k h1 h2=>by
   have hb:=Kx (k0:=k0) hL (k - k0)
   have:(k - k0)*m≤n*m:=Nat.mul_le_mul_right _ (by omega)
   rw [step k _ h1 h2 (by rw [List.length_append]; omega)]
   have e:k+1 - k0=(k - k0)+1:=by omega
   rw [e]
   simp only [apL]
   rw [show k0+(k - k0)=k by omega,List.append_assoc])
  (done _)
 rw [show k0 - k0=0 by omega] at h
 simpa [apL] using h
def Xp (X:Nat → Int):Int × Int × Int × Int × Int × Int:=(X 0,X 1,X 2,X 3,X 4,X 5)
def Qiw (x p:Int):Int:=zv (zb x ||| zb (zv (1*2^min (Int.toNat p) (IntKind.bits .u64)))).toNat
def sx (X:Nat → Int) (v:Nat) (y:Int):Nat → Int:=fun i=>if i=v then y else X i
theorem Q2a {L:List Int} {a:Int} {v p:Nat} {X:Nat → Int} (hv:v < 6) (hp:p < 6) (h1:decide ((p:Int) < (L.length:Int))=true)
  (hb:((zv (zb (Int.fdiv a (2^min (Int.toNat (p:Int)) (IntKind.bits .u64))) &&& zb 1).toNat)==1)=true) :
  Zj L a ((v:Int),(v:Int),(p:Int),Xp X)=some (.next ((v:Int),(v:Int),zw ((p:Int)+1),Xp (sx (sx X v (Qiw (X v) p)) p (Qiw (sx X v (Qiw (X v) p) p) v)))):=by
 unfold Zj
 dsimp only
 rw [if_pos h1,if_pos (Q3 p),if_pos hb]
 have hv':v=0∨v=1∨v=2∨v=3∨v=4∨v=5:=by omega
 have hp':p=0∨p=1∨p=2∨p=3∨p=4∨p=5:=by omega
 clear hb h1
 rcases hv' with rfl | rfl | rfl | rfl | rfl | rfl <;> rcases hp' with rfl | rfl | rfl | rfl | rfl | rfl <;> rfl
theorem Q0k {L:List Int} {a:Int} {v p:Nat} {X:Nat → Int} (h1:decide ((p:Int) < (L.length:Int))=true)
  (hb:¬ ((zv (zb (Int.fdiv a (2^min (Int.toNat (p:Int)) (IntKind.bits .u64))) &&& zb 1).toNat)==1)=true) :
  Zj L a ((v:Int),(v:Int),(p:Int),Xp X)=some (.next ((v:Int),(v:Int),zw ((p:Int)+1),Xp X)):=by
 unfold Zj
 dsimp only
 rw [if_pos h1,if_pos (Q3 p),if_neg hb]
def mI (N:Nat → Nat → Bool):Nat → Int:=fun i=>((msk 6 (N i):Nat):Int)
theorem Qla {f:Nat → Bool} {p:Nat} (hp:p < 6):Qiw ((msk 6 f:Nat):Int) (p:Int)=((msk 6 (fun i=>f i || decide (p=i)):Nat):Int):=Q2l (by omega) hp
theorem Q1t {N:Nat → Nat → Bool} {v p:Nat} (hv:v < 6) (hp:p < 6) :
  sx (sx (mI N) v (Qiw (mI N v) p)) p (Qiw (sx (mI N) v (Qiw (mI N v) p) p) v)=mI fun u w=>N u w || (decide (u=v) && decide (p=w)) || (decide (u=p) && decide (v=w)):=by
 funext i
 by_cases h1:i=p
 ·subst h1
  simp only [sx,if_true]
  by_cases h2:i=v
  ·subst h2
   simp only [if_true,mI]
   rw [Qla hp,Qla hp]
   congr 2
   try (funext w; simp)
  ·rw [if_neg h2]
   simp only [mI]
   rw [Qla hv]
   congr 2
   funext w
   simp [h2]
 ·simp only [sx,h1,if_false]
  by_cases h2:i=v
  ·subst h2
   simp only [if_true,mI]
   rw [Qla hp]
   congr 2
   funext w
   simp [h1]
  ·rw [if_neg h2]
   simp only [mI]
   congr 2
   funext w
   simp [h1,h2]
theorem Qqj {N N':Nat → Nat → Bool} (h:∀u w,u < 6→w < 6→N u w=N' u w):Xp (mI N)=Xp (mI N'):=by
 have:∀i,i < 6→mI N i=mI N' i:=fun i hi=>by unfold mI; rw [Xr fun w hw=>h i w hi hw]
 unfold Xp
 rw [this 0 (by omega),this 1 (by omega),this 2 (by omega),this 3 (by omega),this 4 (by omega),this 5 (by omega)]
def dn (v p a b:Nat):Bool:=decide (a < v) || (decide (a=v) && decide (b < p))
def nrP (S:Nat → Nat) (v p u w:Nat):Bool:=(dn v p u w && (S u).testBit w) || (dn v p w u && (S w).testBit u)
def near (S:Nat → Nat) (u w:Nat):Bool:=(S u).testBit w || (S w).testBit u
def nrN (n:Nat) (S:Nat → Nat) (u w:Nat):Bool:=(decide (u < n) && (S u).testBit w) || (decide (w < n) && (S w).testBit u)
theorem Qgu {n:Nat} {S:Nat → Nat} (hn:n≤6) (h:Gd n S):Zo (Qe n S)=some ⟨(n:Int),Xp (mI (nrN n S))⟩:=by
 have hlen:(Qe n S).length=n:=Zs
 have h64:∀v,v < n→S v < 18446744073709551616:=fun v hv=>by
  have:=Vs (h.inn v hv)
  have:(2:Nat)^n≤256:=Nat.pow_le_pow_right (n:=2) (by omega) (show n≤8 by omega)
  omega
 have inner:∀v,v < n→Qb fuel (Zj (Qe n S) (S v:Int)) ((v:Int),(v:Int),(0:Int),Xp (mI (nrP S v 0)))=some ((v:Int),Xp (mI (nrP S v n))):=fun v hv=>by
  have h1:=X5 (n:=n) (k0:=0) (by omega) (by omega) (fun i (x:Int × Int × Int × Int × Int × Int)=>((v:Int),(v:Int),i,x)) (body:=Zj (Qe n S) (S v:Int)) (fun k=>Xp (mI (nrP S v k))) ((v:Int),Xp (mI (nrP S v n)))
   (fun k _ hk=>by
    have hd:decide ((k:Int) < ((Qe n S).length:Int))=true:=by rw [hlen]; exact dlt hk
    by_cases hb:(S v).testBit k=true
    ·rw [Q2a (by omega) (by omega) hd (by rw [Qak (h64 v hv) (by omega),hb]; rfl),Q1t (by omega) (by omega)]
     refine congrArg (fun X=>some (Qh.next ((v:Int),(v:Int),zw ((k:Int)+1),Xp (mI X)))) ?_
     funext u w
     unfold nrP dn
     by_cases e1:u=v
     ·by_cases e2:w=k
      ·subst e1; subst e2; simp [hb]
      ·have e3:decide (w < k+1)=decide (w < k):=by rw [Bool.eq_iff_iff]; simp; omega
       have e3':¬ k=w:=fun e=>e2 e.symm
       subst e1
       simp only [e3,e3',decide_false,Bool.and_false,Bool.or_false,decide_true,Bool.true_and]
       by_cases e4:w=u
       ·subst e4
        by_cases e5:w=k
        ·exact absurd e5 e2
        ·have e6:decide (w < k+1)=decide (w < k):=by rw [Bool.eq_iff_iff]; simp; omega
         simp [e6,e2]
       ·have e7:¬ u=w:=fun e=>e4 e.symm
        simp [e4,e7]
     ·have e1':¬ v=u:=fun e=>e1 e.symm
      by_cases e2:w=v
      ·by_cases e3:u=k
       ·subst e2; subst e3; simp [hb]
       ·subst e2
        have e4:decide (u < k+1)=decide (u < k):=by rw [Bool.eq_iff_iff]; simp; omega
        simp [e1,e3,e4]
      ·have e2':¬ v=w:=fun e=>e2 e.symm
       simp [e1,e2,e1',e2']
    ·rw [Q0k hd (by rw [Qak (h64 v hv) (by omega),Bool.eq_false_iff.2 hb]; simp)]
     refine congrArg (fun X=>some (Qh.next ((v:Int),(v:Int),zw ((k:Int)+1),Xp (mI X)))) ?_
     have hb':=Bool.eq_false_iff.2 hb
     funext u w
     unfold nrP dn
     have e1:((decide (u < v) || decide (u=v) && decide (w < k)) && (S u).testBit w)=((decide (u < v) || decide (u=v) && decide (w < k+1)) && (S u).testBit w):=by
      by_cases e:u=v
      ·subst e
       by_cases e2:w=k
       ·subst e2; simp [hb']
       ·have e3:decide (w < k+1)=decide (w < k):=by rw [Bool.eq_iff_iff]; simp; omega
        rw [e3]
      ·simp [e]
     have e2:((decide (w < v) || decide (w=v) && decide (u < k)) && (S w).testBit u)=((decide (w < v) || decide (w=v) && decide (u < k+1)) && (S w).testBit u):=by
      by_cases e:w=v
      ·subst e
       by_cases e2:u=k
       ·subst e2; simp [hb']
       ·have e3:decide (u < k+1)=decide (u < k):=by rw [Bool.eq_iff_iff]; simp; omega
        rw [e3]
      ·simp [e]
     rw [e1,e2])
   (by unfold Zj; dsimp only; rw [hlen,if_neg (nlt n)])
  rw [show ((0:Nat):Int)=0 from rfl] at h1
  exact h1
 have h2:=X5 (n:=n) (k0:=0) (by omega) (by omega) (fun i (x:Int × Int × Int × Int × Int × Int)=>(i,x)) (body:=Y8 (Qe n S)) (fun k=>Xp (mI (nrP S k 0))) (Xp (mI (nrN n S)))
  (fun k _ hk=>by
   unfold Y8
   dsimp only
   rw [hlen,if_pos (dlt hk),Zy hk,Option.bind_some]
   have:=inner k hk
   unfold Xp at this ⊢
   rw [this,Option.bind_some]
   dsimp only
   have e:Xp (mI (nrP S k n))=Xp (mI (nrP S (k+1) 0)):=Qqj fun u w hu hw=>by
    unfold nrP dn
    have key:∀a b,((decide (a < k) || decide (a=k) && decide (b < n)) && (S a).testBit b)=((decide (a < k+1) || decide (a=k+1) && decide (b < 0)) && (S a).testBit b):=fun a b=>by
     by_cases e:a=k
     ·subst e
      cases hb:(S a).testBit b with
      | false=>simp
      | true=>have:=h.inn a hk b hb; simp [this]
     ·have e3:decide (a < k+1)=decide (a < k):=by rw [Bool.eq_iff_iff]; simp; omega
      simp [e,e3]
    rw [key u w,key w u]
   unfold Xp at e
   rw [e])
  (by
   unfold Y8
   dsimp only
   rw [hlen,if_neg (nlt n)]
   have e:Xp (mI (nrP S n 0))=Xp (mI (nrN n S)):=Qqj fun u w hu hw=>by
    unfold nrP nrN dn; simp
   unfold Xp at e ⊢
   rw [e])
 rw [show ((0:Nat):Int)=0 from rfl] at h2
 have e0:Xp (mI (nrP S 0 0))=(0,0,0,0,0,0):=by
  have:mI (nrP S 0 0)=fun _=>0:=by
   funext i
   unfold mI
   rw [Xr (q:=fun _=>false) fun w _=>by unfold nrP dn; simp]
   rfl
  rw [this]; rfl
 rw [e0] at h2
 unfold Zo
 rw [h2,hlen]
 rfl
theorem Qmu {m:Int} {N:Nat → Nat → Bool} {a c:Nat} (ha:a < 6) (hc:c < 64):Qt ⟨m,Xp (mI N)⟩ (a:Int) (c:Int)=some ((msk 6 (N a)).testBit c):=by
 have hlt:∀i,msk 6 (N i) < 18446744073709551616:=fun i=>Q2y (by omega) (Qe8 6 _)
 have key:∀i,((zv (zb (Int.fdiv (mI N i) (2^min (Int.toNat (c:Int)) (IntKind.bits .u64))) &&& zb 1).toNat)==1)=(msk 6 (N i)).testBit c:=fun i=>by
  unfold mI
  rw [Qak (hlt i) hc]
  cases (msk 6 (N i)).testBit c <;> rfl
 have ha':a=0∨a=1∨a=2∨a=3∨a=4∨a=5:=by omega
 unfold Qt Xp
 dsimp only
 simp only [key,if_pos (Q3 c)]
 rcases ha' with rfl | rfl | rfl | rfl | rfl | rfl <;> rfl
theorem Qse {n:Nat} {S:Nat → Nat} {u w:Nat} (hu:u < n) (hw:w < n):nrN n S u w=near S u w:=by simp [nrN,near,hu,hw]
def prs (n:Nat) (N:Nat → Nat → Bool):List (Int × Int):=apL (fun i=>apL (fun j=>if N i j=true then [((i:Int),(j:Int))] else []) (i+1) (n - (i+1))) 0 n
def cls (n:Nat) (S:Nat → Nat):List (Int × Int × Int) :=
 apL (fun a=>apL (fun b=>apL (fun c=>if ((S b).testBit a && (S b).testBit c && !near S a c)=true then [((a:Int),(b:Int),(c:Int))] else []) (a+1) (n - (a+1))) 0 n) 0 n
theorem Qe7 {α:Type} {c:Bool} {x:α}:(if c=true then [x] else []).length≤1:=by split <;> simp
theorem Qkz {k:Nat} (h:k < 100):zw ((k:Int)+1)=((k+1:Nat):Int):=Qrx (by omega)
theorem Qxh {n:Nat} {S:Nat → Nat} (hn:n≤6):Zq ⟨(n:Int),Xp (mI (nrN n S))⟩=some (prs n (near S)):=by
 have inner:∀i o,i < n→o.length≤100→Qb fuel (Xc ⟨(n:Int),Xp (mI (nrN n S))⟩ ((i:Int),o)) (((i+1:Nat):Int),o)=some (o++apL (fun j=>if near S i j=true then [((i:Int),(j:Int))] else []) (i+1) (n - (i+1))):=fun i o hi ho =>
  Jq (m:=1) (c:=100) (by omega) (by omega) (fun k (x:List (Int × Int))=>(k,x)) (body:=Xc ⟨(n:Int),Xp (mI (nrN n S))⟩ ((i:Int),o)) _ id (fun _=>Qe7) ho
   (fun k x h1 h2 hx=>by
    unfold Xc
    dsimp only
    rw [if_pos (dlt h2)]
    have:=Qmu (m:=(n:Int)) (N:=nrN n S) (a:=i) (c:=k) (by omega) (by omega)
    unfold Xp at this ⊢
    dsimp only
    rw [this,Option.bind_some,Zk,Qse hi h2]
    have hk6:k < 6:=by omega
    simp only [hk6,decide_true,Bool.true_and]
    by_cases hb:near S i k=true
    ·rw [if_pos hb,if_pos hb,if_pos (by rw [List.length_append]; simp; omega)]
    ·rw [if_neg hb,if_neg hb,List.append_nil])
   (fun x=>by unfold Xc; dsimp only; rw [if_neg (nlt n)]; rfl)
 have outer:=Jq (n:=n) (k0:=0) (m:=6) (c:=0) (by omega) (by omega) (fun k (x:List (Int × Int))=>(k,x)) (body:=Yc ⟨(n:Int),Xp (mI (nrN n S))⟩)
  (fun i=>if i < n then apL (fun j=>if near S i j=true then [((i:Int),(j:Int))] else []) (i+1) (n - (i+1)) else []) id (fun i=>by
   split
   ·have:=Kx (L:=fun j=>if near S i j=true then [((i:Int),(j:Int))] else []) (k0:=i+1) (m:=1) (fun _=>Qe7) (n - (i+1)); omega
   ·simp) (out:=[]) (by simp)
  (fun k o _ hk ho=>by
   unfold Yc
   dsimp only
   rw [if_pos (dlt hk),Qkz (by omega),inner k o hk (by omega),Option.bind_some,if_pos hk])
  (fun o=>by unfold Yc; dsimp only; rw [if_neg (nlt n)]; rfl)
 unfold Zq
 rw [show ((0:Nat):Int)=0 from rfl] at outer
 rw [outer,Option.bind_some,List.nil_append,Nat.sub_zero]
 show some (apL _ 0 n)=_
 rw [Qa4 n (L':=fun i=>apL (fun j=>if near S i j=true then [((i:Int),(j:Int))] else []) (i+1) (n - (i+1))) fun i _ h=>by rw [if_pos (by omega)]]
 rfl
end Go.Ab
namespace Go.Ab
open Go
set_option maxRecDepth 100000
set_option maxHeartbeats 1000000
theorem Qn4 {n:Nat} {S:Nat → Nat} (hn:n≤8) (h:Gd n S):L64 n S:=fun v hv=>by
 have:=Vs (h.inn v hv)
 have:(2:Nat)^n≤256:=Nat.pow_le_pow_right (n:=2) (by omega) hn
 omega
def Qh2 (n:Nat) (S:Nat → Nat) (a b:Nat):List (Int × Int × Int):=apL (fun c=>if ((S b).testBit a && (S b).testBit c && !near S a c)=true then [((a:Int),(b:Int),(c:Int))] else []) (a+1) (n - (a+1))
theorem Qr8 {n:Nat} {S:Nat → Nat} {a b:Nat}:(Qh2 n S a b).length≤n:=by
 have:=Kx (L:=fun c=>if ((S b).testBit a && (S b).testBit c && !near S a c)=true then [((a:Int),(b:Int),(c:Int))] else []) (k0:=a+1) (m:=1) (fun _=>Qe7) (n - (a+1))
 unfold Qh2; omega
theorem Q0r {n:Nat} {S:Nat → Nat}:cls n S=apL (fun a=>apL (fun b=>Qh2 n S a b) 0 n) 0 n:=rfl
theorem Qpj {n:Nat} {S:Nat → Nat} (hn:n≤6) (h:Gd n S):Zm (Qe n S)=some (cls n S):=by
 have hlen:(Qe n S).length=n:=Zs
 have h64:=Qn4 (by omega) h
 generalize hK:(⟨(n:Int),Xp (mI (nrN n S))⟩:Tequal_skeleton)=K
 have hj:∀a c,a < n→c < n→Qt K (a:Int) (c:Int)=some (near S a c):=fun a c ha hc=>by
  rw [←hK,Qmu (by omega) (by omega),Zk,Qse ha hc]
  have:c < 6:=by omega
  simp [this]
 have inner:∀a b (o o1 o2:List (Int × Int × Int)),a < n→b < n→o.length≤1000→Qb fuel (Yh (Qe n S) ((a:Int),o1) (S b:Int) K ((b:Int),o2)) (((a+1:Nat):Int),o)=some (o++Qh2 n S a b):=fun a b o o1 o2 ha hb ho =>
  Jq (m:=1) (c:=1000) (by omega) (by omega) (fun k (x:List (Int × Int × Int))=>(k,x)) (body:=Yh (Qe n S) ((a:Int),o1) (S b:Int) K ((b:Int),o2)) _ id (fun _=>Qe7) ho
   (fun k x h1 h2 hx=>by
    unfold Yh
    dsimp only
    rw [hlen,if_pos (dlt h2),if_pos (Q3 a),Qak (h64 b hb) (by omega)]
    by_cases c1:(S b).testBit a=true
    ·rw [if_pos (by rw [c1]; rfl),if_pos (Q3 k),Qak (h64 b hb) (by omega)]
     by_cases c2:(S b).testBit k=true
     ·rw [if_pos (by rw [c2]; rfl)]
      rw [hj a k ha h2,Option.bind_some]
      by_cases c3:near S a k=true
      ·rw [c3]; simp
      ·rw [Bool.eq_false_iff.2 c3,if_pos (by rfl),if_pos (by rw [List.length_append]; simp; omega),c1,c2]; simp
     ·rw [Bool.eq_false_iff.2 c2]; simp
    ·rw [Bool.eq_false_iff.2 c1]; simp)
   (fun x=>by unfold Yh; dsimp only; rw [hlen,if_neg (nlt n)]; rfl)
 have mid:∀a (o o1:List (Int × Int × Int)),a < n→o.length≤500→Qb fuel (Ye (Qe n S) ((a:Int),o1) K) (((0:Nat):Int),o)=some (o++apL (fun b=>if b < n then Qh2 n S a b else []) 0 n):=fun a o o1 ha ho=>by
  have:=Jq (n:=n) (k0:=0) (m:=6) (c:=500) (by omega) (by omega) (fun k (x:List (Int × Int × Int))=>(k,x)) (body:=Ye (Qe n S) ((a:Int),o1) K) (fun b=>if b < n then Qh2 n S a b else []) id (fun b=>by
    split
    ·have:=Qr8 (n:=n) (S:=S) (a:=a) (b:=b); omega
    ·simp) ho
   (fun k x _ h2 hx=>by
    unfold Ye
    dsimp only
    rw [hlen,if_pos (dlt h2),Zy h2,Option.bind_some,Qkz (by omega),inner a k x o1 x ha h2 (by omega),Option.bind_some,if_pos h2])
   (fun x=>by unfold Ye; dsimp only; rw [hlen,if_neg (nlt n)]; rfl)
  exact this
 have midl:∀a,(apL (fun b=>if b < n then Qh2 n S a b else []) 0 n).length≤36:=fun a=>by
  have:=Kx (L:=fun b=>if b < n then Qh2 n S a b else []) (k0:=0) (m:=6) (fun b=>by
   split
   ·have:=Qr8 (n:=n) (S:=S) (a:=a) (b:=b); omega
   ·simp) n
  omega
 have outer:=Jq (n:=n) (k0:=0) (m:=36) (c:=0) (by omega) (by omega) (fun k (x:List (Int × Int × Int))=>(k,x)) (body:=Vh (Qe n S) K)
  (fun a=>apL (fun b=>if b < n then Qh2 n S a b else []) 0 n) id midl (out:=[]) (by simp)
  (fun k o _ hk ho=>by
   unfold Vh
   dsimp only
   have:=mid k o o hk (by omega)
   rw [show ((0:Nat):Int)=0 from rfl] at this
   rw [hlen,if_pos (dlt hk),this,Option.bind_some])
  (fun o=>by unfold Vh; dsimp only; rw [hlen,if_neg (nlt n)]; rfl)
 unfold Zm
 rw [Qgu hn h,Option.bind_some,hK]
 rw [show ((0:Nat):Int)=0 from rfl] at outer
 rw [outer,Option.bind_some,List.nil_append,Nat.sub_zero,Q0r]
 show some (apL _ 0 n)=_
 congr 1
 exact Qa4 n fun a _ ha=>Qa4 n fun b _ hb=>by rw [if_pos (by omega)]
theorem Qvg {α:Type} [DecidableEq α] {a b:List α} (hl:a.length=b.length) (ha:a.length < 1000000) {body:Int→Option (Qh Int (Unit ⊕ Unit))} (ne:α→α→Bool) (hne:∀x y,ne x y=!decide (x=y))
  (hb:∀s,body s=if (decide (s < (a.length:Int)))=true then (lkI a s).bind fun x=>(lkI b s).bind fun y=>if ne x y=true then some (.done (Sum.inl ())) else some (.next (zw (s+1))) else some (.done (Sum.inr ()))) :
  Qb fuel body 0=some (if a=b then .inr () else .inl ()):=by
 rcases Qj6 (n:=a.length) (by omega) (fun k=>a[k]?=b[k]?) (fun i (_:Unit)=>i) (body:=body) (fun _=>()) (.inr ()) (.inl ())
  (fun k hk _ hg=>by
   have h2:k < b.length:=by omega
   rw [hb,if_pos (dlt hk),X3 hk,Option.bind_some,X3 h2,Option.bind_some,if_neg (by
    rw [hne]
    rw [List.getElem?_eq_getElem hk,List.getElem?_eq_getElem h2] at hg
    simpa using hg)])
  (fun k hk _ hg=>by
   have h2:k < b.length:=by omega
   rw [hb,if_pos (dlt hk),X3 hk,Option.bind_some,X3 h2,Option.bind_some,if_pos (by
    rw [hne]
    rw [List.getElem?_eq_getElem hk,List.getElem?_eq_getElem h2] at hg
    simpa using hg)])
  (fun _=>by rw [hb,if_neg (nlt _)]) with ⟨hg,h⟩ | ⟨hg,h⟩
 ·rw [show ((0:Nat):Int)=0 from rfl] at h
  rw [h]
  have:a=b:=List.ext_getElem? fun k=>by
   by_cases hk:k < a.length
   ·exact hg k hk
   ·rw [List.getElem?_eq_none (by omega),List.getElem?_eq_none (by omega)]
  rw [if_pos this]
 ·rw [show ((0:Nat):Int)=0 from rfl] at h
  rw [h,if_neg (fun e=>hg fun k _=>by rw [e])]
theorem Qv4 {α:Type} {a b:List α}:(((a.length:Int) != (b.length:Int))=true)↔¬ a.length=b.length:=by
 rw [bne_iff_ne]; exact not_congr ⟨fun h=>by exact_mod_cast h,fun h=>by rw [h]⟩
end Go.Ab
namespace Go.Ab
open Go
set_option maxRecDepth 100000
set_option maxHeartbeats 1000000
def U64 (l:List Int):Prop:=∀x∈l,0≤x∧x < 18446744073709551616
theorem Q1z {l:List Int} (h:U64 l):∃S,l=Qe l.length S∧L64 l.length S:=by
 refine ⟨fun v=>((l[v]?).getD 0).toNat,?_,fun v hv=>?_⟩
 ·apply List.ext_getElem?
  intro k
  by_cases hk:k < l.length
  ·have:=h l[k] (List.getElem_mem hk)
   simp only [Qe,Qav,List.getElem?_map,List.getElem?_range hk,Option.map_some,List.getElem?_eq_getElem hk,Option.getD_some]
   congr 1; omega
  ·rw [List.getElem?_eq_none (by omega),List.getElem?_eq_none (by rw [Zs]; omega)]
 ·have hv':v < l.length:=hv
  have:=h l[v] (List.getElem_mem hv')
  show ((l[v]?).getD 0).toNat < _
  rw [List.getElem?_eq_getElem hv',Option.getD_some]
  omega
theorem Quy {n:Nat} {S:Nat → Nat} (r:Nat → Nat) (h:∀v,v < n→∀j,(S v).testBit j=true→j < n∧r j < r v):Gd n S:=by
 refine ⟨fun v hv j hj=>(h v hv j hj).1,fun v hv hb=>?_⟩
 have hT:Clo n S (msk n fun j=>decide (r j < r v)):=fun w hw hb j hj=>by
  rw [Zk] at hb ⊢
  simp only [Bool.and_eq_true,decide_eq_true_eq] at hb ⊢
  have:=h w hw j hj
  exact ⟨this.1,by omega⟩
 have hs:Zh (S v) (msk n fun j=>decide (r j < r v)):=fun j hj=>by
  rw [Zk]
  simp only [Bool.and_eq_true,decide_eq_true_eq]
  exact h v hv j hj
 have:=Ve hT hs n v hb
 rw [Zk] at this
 simp at this
theorem Qcj {α:Type} {d:α} {body:Int × List α→Option (Qh (Int × List α) (List α))} {A i:Nat} {aI:Int} (hA:A≤i) (hi:i < 100000) (ha:aI=(A:Int)) {l:List α} (hl:l.length=i)
  (hb:∀s,body s=if (decide (s.1 > aI))=true then (lkI s.2 (zw (s.1 - 1))).bind fun a=>(lkI s.2 s.1).bind fun _=>some (.next (zw (s.1 - 1),s.2.set (Int.toNat s.1) a)) else some (.done s.2)) :
  Qb fuel body ((i:Int),l++[d])=some ((l++[d]).take (A+1)++l.drop A):=by
 subst ha
 have key:∀(j N k:Nat),k=A+j→k≤i→j < N→Qb N body ((k:Int),(l++[d]).take (k+1)++l.drop k)=some ((l++[d]).take (A+1)++l.drop A):=by
  intro j
  induction j with
  | zero =>
   intro N k hk hki hN
   obtain ⟨N,rfl⟩:∃M,N=M+1:=⟨N - 1,by omega⟩
   have:k=A:=by omega
   subst this
   unfold Qb
   rw [hb]
   dsimp only
   rw [if_neg (by simp)]
  | succ j ih =>
   intro N k hk hki hN
   obtain ⟨N,rfl⟩:∃M,N=M+1:=⟨N - 1,by omega⟩
   obtain ⟨k,rfl⟩:∃m,k=m+1:=⟨k - 1,by omega⟩
   have hkl:k < l.length:=by omega
   have hlen:((l++[d]).take (k+1+1)++l.drop (k+1)).length=i+1:=by simp; omega
   have hg:lkI ((l++[d]).take (k+1+1)++l.drop (k+1)) (k:Int)=some l[k]:=by
    rw [X3 (by omega)]
    congr 1
    rw [List.getElem_append_left (by simp; omega),List.getElem_take,List.getElem_append_left hkl]
   have hg2:∃x,lkI ((l++[d]).take (k+1+1)++l.drop (k+1)) ((k+1:Nat):Int)=some x:=⟨_,X3 (by omega)⟩
   obtain ⟨x,hx⟩:=hg2
   have e1:zw (((k+1:Nat):Int) - 1)=(k:Int):=by rw [w64 (by omega)]; omega
   have hset:((l++[d]).take (k+1+1)++l.drop (k+1)).set (k+1) l[k]=(l++[d]).take (k+1)++l.drop k:=by
    apply List.ext_getElem
    ·simp; omega
    ·intro q h1 h2
     rw [List.getElem_set]
     by_cases e:k+1=q
     ·subst e
      rw [if_pos rfl,List.getElem_append_right (by simp; omega)]
      simp only [List.length_take,List.length_append,List.length_singleton,List.getElem_drop]
      congr 1; omega
     ·rw [if_neg e]
      by_cases h3:q < k+1
      ·rw [List.getElem_append_left (by simp; omega),List.getElem_append_left (by simp; omega),List.getElem_take,List.getElem_take]
      ·have hq:q < i+1:=by simpa [hl] using (by rw [List.length_set] at h1; omega:q < i+1)
       rw [List.getElem_append_right (by simp; omega),List.getElem_append_right (by simp; omega)]
       simp only [List.length_take,List.length_append,List.length_singleton,List.getElem_drop]
       congr 1; omega
   unfold Qb
   rw [hb]
   dsimp only
   rw [if_pos (by simp; omega),e1,hg,Option.bind_some,hx,Option.bind_some]
   dsimp only
   rw [Int.toNat_natCast,hset]
   exact ih N k (by omega) (by omega) (by omega)
 have h:=key (i - A) fuel i (by omega) (Nat.le_refl _) (by unfold fuel; omega)
 rw [←h]
 congr 2
 rw [List.take_of_length_le (by simp; omega),List.drop_eq_nil_of_le (by omega),List.append_nil]
def Qfa {α:Type} (A:Nat) (x:α) (l:List α):List α:=l.take A++x::l.drop A
theorem Qd8 {α:Type} {d:α} {A i:Nat} (hA:A≤i) {l:List α} (hl:l.length=i) (x:α):((l++[d]).take (A+1)++l.drop A).set A x=Qfa A x l:=by
 unfold Qfa
 have e:(l++[d]).take (A+1)=l.take A++[(l++[d])[A]'(by simp; omega)]:=by
  rw [List.take_succ_eq_append_getElem (by simp; omega),List.take_append_of_le_length (by omega)]
 rw [e,List.append_assoc,List.set_append,if_neg (by simp; omega)]
 simp only [List.length_take]
 rw [show A - min A l.length=0 by omega]
 rfl
theorem Qee {α:Type} {d:α} {A i:Nat} (hA:A≤i) {l:List α} (hl:l.length=i):∃x,lkI ((l++[d]).take (A+1)++l.drop A) (A:Int)=some x:=⟨_,X3 (by simp; omega)⟩
theorem Qcd {o:Int} {k:Nat} (h:0≤o∧o < 256) (hk:0 < k):Int.tmod (zw o) (k:Int)=((o.toNat % k:Nat):Int):=by
 rw [w64 (by omega),Qxt h.1]
 obtain ⟨m,rfl⟩:∃m:Nat,o=(m:Int):=⟨o.toNat,by omega⟩
 simp
structure Qle (d:Qc):Prop where
 n:0≤d.N∧d.N < 256
 o0:0≤d.Order.1∧d.Order.1 < 256
 o1:0≤d.Order.2.1∧d.Order.2.1 < 256
 o2:0≤d.Order.2.2.1∧d.Order.2.2.1 < 256
 o3:0≤d.Order.2.2.2.1∧d.Order.2.2.2.1 < 256
 o4:0≤d.Order.2.2.2.2.1∧d.Order.2.2.2.2.1 < 256
 o5:0≤d.Order.2.2.2.2.2∧d.Order.2.2.2.2.2 < 256
structure Qdk (i:Nat) (l:List Int):Prop where
 len:l.length=i
 inn:∀x∈l,∃a:Nat,a < i∧x=(a:Int)
 nod:l.Nodup
theorem Qcl {i A:Nat} {l:List Int} (h:Qdk i l) (hA:A≤i):Qdk (i+1) (Qfa A (i:Int) l):=by
 have hp:(Qfa A (i:Int) l).Perm ((i:Int)::l):=by
  unfold Qfa
  refine List.perm_middle.trans ?_
  rw [List.take_append_drop]
 refine ⟨by rw [hp.length_eq]; simp [h.len],fun x hx=>?_,?_⟩
 ·rcases List.mem_cons.1 (hp.mem_iff.1 hx) with rfl | hx
  ·exact ⟨i,by omega,rfl⟩
  ·obtain ⟨a,h1,h2⟩:=h.inn x hx
   exact ⟨a,by omega,h2⟩
 ·rw [hp.nodup_iff,List.nodup_cons]
  refine ⟨fun hx=>?_,h.nod⟩
  obtain ⟨a,h1,h2⟩:=h.inn _ hx
  omega
theorem Quc {d:Qc} (hd:Qle d) {m N:Int} (hN:zw (1+(Int.tmod (zw (d.N)) m))=N) {i:Nat} (hi:i < 6) (hiN:(i:Int) < N) {l:List Int} (h:Qdk i l) :
  ∃l',Xa d m ((i:Int),l)=some (.next (zw ((i:Int)+1),l'))∧Qdk (i+1) l':=by
 have hll:(l++([0]:List Int)).length*8≤140737488355328:=by rw [List.length_append,h.len]; simp; omega
 have hi':i=0∨i=1∨i=2∨i=3∨i=4∨i=5:=by omega
 unfold Xa
 dsimp only
 rw [hN,if_pos (decide_eq_true hiN)]
 rcases hi' with rfl | rfl | rfl | rfl | rfl | rfl
 ·have hm:=Qcd hd.o0 (k:=1) (by omega)
  have hA:(d.Order.1).toNat % 1≤0:=by omega
  have hw:Qb fuel (Qah d) ((0:Int),l++([0]:List Int))=some ((l++[0]).take ((d.Order.1).toNat % 1+1)++l.drop ((d.Order.1).toNat % 1)):=Qcj (i:=0) hA (by omega) hm h.len (fun s=>rfl)
  obtain ⟨x,hx⟩:=Qee hA h.len
  have hm':Int.tmod (zw (d.Order.1)) 1=(((d.Order.1).toNat % 1:Nat):Int):=hm
  refine ⟨Qfa ((d.Order.1).toNat % 1) 0 l,?_,Qcl h hA⟩
  rw [if_pos (by decide),if_pos hll,hw,Option.bind_some,hm',hx,Option.bind_some,Option.bind_some,Int.toNat_natCast,Qd8 hA h.len]
  rfl
 ·have hm:=Qcd hd.o1 (k:=2) (by omega)
  have hA:(d.Order.2.1).toNat % 2≤1:=by omega
  have hw:Qb fuel (K9 d) ((1:Int),l++([0]:List Int))=some ((l++[0]).take ((d.Order.2.1).toNat % 2+1)++l.drop ((d.Order.2.1).toNat % 2)):=Qcj (i:=1) hA (by omega) hm h.len (fun s=>rfl)
  obtain ⟨x,hx⟩:=Qee hA h.len
  have hm':Int.tmod (zw (d.Order.2.1)) 2=(((d.Order.2.1).toNat % 2:Nat):Int):=hm
  refine ⟨Qfa ((d.Order.2.1).toNat % 2) 1 l,?_,Qcl h hA⟩
  rw [if_neg (by decide),if_pos (by decide),if_pos hll,hw,Option.bind_some,hm',hx,Option.bind_some,Option.bind_some,Int.toNat_natCast,Qd8 hA h.len]
  rfl
 ·have hm:=Qcd hd.o2 (k:=3) (by omega)
  have hA:(d.Order.2.2.1).toNat % 3≤2:=by omega
  have hw:Qb fuel (Qaf d) ((2:Int),l++([0]:List Int))=some ((l++[0]).take ((d.Order.2.2.1).toNat % 3+1)++l.drop ((d.Order.2.2.1).toNat % 3)):=Qcj (i:=2) hA (by omega) hm h.len (fun s=>rfl)
  obtain ⟨x,hx⟩:=Qee hA h.len
  have hm':Int.tmod (zw (d.Order.2.2.1)) 3=(((d.Order.2.2.1).toNat % 3:Nat):Int):=hm
  refine ⟨Qfa ((d.Order.2.2.1).toNat % 3) 2 l,?_,Qcl h hA⟩
  rw [if_neg (by decide),if_neg (by decide),if_pos (by decide),if_pos hll,hw,Option.bind_some,hm',hx,Option.bind_some,Option.bind_some,Int.toNat_natCast,Qd8 hA h.len]
  rfl
 ·have hm:=Qcd hd.o3 (k:=4) (by omega)
  have hA:(d.Order.2.2.2.1).toNat % 4≤3:=by omega
  have hw:Qb fuel (Qab d) ((3:Int),l++([0]:List Int))=some ((l++[0]).take ((d.Order.2.2.2.1).toNat % 4+1)++l.drop ((d.Order.2.2.2.1).toNat % 4)):=Qcj (i:=3) hA (by omega) hm h.len (fun s=>rfl)
  obtain ⟨x,hx⟩:=Qee hA h.len
  have hm':Int.tmod (zw (d.Order.2.2.2.1)) 4=(((d.Order.2.2.2.1).toNat % 4:Nat):Int):=hm
  refine ⟨Qfa ((d.Order.2.2.2.1).toNat % 4) 3 l,?_,Qcl h hA⟩
  rw [if_neg (by decide),if_neg (by decide),if_neg (by decide),if_pos (by decide),if_pos hll,hw,Option.bind_some,hm',hx,Option.bind_some,Option.bind_some,Int.toNat_natCast,Qd8 hA h.len]
  rfl
 ·have hm:=Qcd hd.o4 (k:=5) (by omega)
  have hA:(d.Order.2.2.2.2.1).toNat % 5≤4:=by omega
  have hw:Qb fuel (Qaa d) ((4:Int),l++([0]:List Int))=some ((l++[0]).take ((d.Order.2.2.2.2.1).toNat % 5+1)++l.drop ((d.Order.2.2.2.2.1).toNat % 5)):=Qcj (i:=4) hA (by omega) hm h.len (fun s=>rfl)
  obtain ⟨x,hx⟩:=Qee hA h.len
  have hm':Int.tmod (zw (d.Order.2.2.2.2.1)) 5=(((d.Order.2.2.2.2.1).toNat % 5:Nat):Int):=hm
  refine ⟨Qfa ((d.Order.2.2.2.2.1).toNat % 5) 4 l,?_,Qcl h hA⟩
  rw [if_neg (by decide),if_neg (by decide),if_neg (by decide),if_neg (by decide),if_pos (by decide),if_pos hll,hw,Option.bind_some,hm',hx,Option.bind_some,Option.bind_some,Int.toNat_natCast,Qd8 hA h.len]
  rfl
 ·have hm:=Qcd hd.o5 (k:=6) (by omega)
  have hA:(d.Order.2.2.2.2.2).toNat % 6≤5:=by omega
  have hw:Qb fuel (Qai d) ((5:Int),l++([0]:List Int))=some ((l++[0]).take ((d.Order.2.2.2.2.2).toNat % 6+1)++l.drop ((d.Order.2.2.2.2.2).toNat % 6)):=Qcj (i:=5) hA (by omega) hm h.len (fun s=>rfl)
  obtain ⟨x,hx⟩:=Qee hA h.len
  have hm':Int.tmod (zw (d.Order.2.2.2.2.2)) 6=(((d.Order.2.2.2.2.2).toNat % 6:Nat):Int):=hm
  refine ⟨Qfa ((d.Order.2.2.2.2.2).toNat % 6) 5 l,?_,Qcl h hA⟩
  rw [if_neg (by decide),if_neg (by decide),if_neg (by decide),if_neg (by decide),if_neg (by decide),if_pos (by decide),if_pos hll,hw,Option.bind_some,hm',hx,Option.bind_some,Option.bind_some,Int.toNat_natCast,Qd8 hA h.len]
  rfl
theorem Qv6 {d:Qc} (hd:Qle d) {m:Int} {n:Nat} (hn:n≤6) (hN:zw (1+(Int.tmod (zw (d.N)) m))=(n:Int)):∃l,Qb fuel (Xa d m) (0,([]:List Int))=some l∧Qdk n l:=by
 have h:=Qa3 (n:=n) (k0:=0) (by omega) (by omega) (fun i (x:List Int)=>(i,x)) (body:=Xa d m) Qdk (Qdk n)
  (fun k t _ hk hI=>by
   obtain ⟨l',h1,h2⟩:=Quc hd hN (by omega) (by omega) hI
   exact .inl ⟨l',h1,h2⟩)
  (fun t ht=>by
   refine ⟨t,?_,ht⟩
   unfold Xa
   dsimp only
   rw [hN,if_neg (nlt n)]) [] ⟨rfl,fun x hx=>by simp at hx,List.nodup_nil⟩
 exact h
def Qfh (n:Nat) (l:List Int) (S:Nat → Nat):Prop:=∀v,v < n→∀x,(S v).testBit x=true→∃a b:Nat,a < b∧b < n∧l[a]?=some (x:Int)∧l[b]?=some (v:Int)
theorem Qrz {n:Nat} {l:List Int} {S:Nat → Nat} (hp:Qdk n l) (h:Qfh n l S):Gd n S:=by
 have inj:∀a b:Nat,∀x:Int,l[a]?=some x→l[b]?=some x→a=b:=fun a b x h1 h2=>by
  have ha:=(List.getElem?_eq_some_iff.1 h1)
  have hb:=(List.getElem?_eq_some_iff.1 h2)
  obtain ⟨ha,ha2⟩:=ha
  obtain ⟨hb,hb2⟩:=hb
  have:=List.pairwise_iff_getElem.1 hp.nod
  rcases Nat.lt_trichotomy a b with h | h | h
  ·exact absurd (ha2.trans hb2.symm) (this a b ha hb h)
  ·exact h
  ·exact absurd (hb2.trans ha2.symm) (this b a hb ha h)
 have hr:∃r:Nat → Nat,∀a x:Nat,l[a]?=some (x:Int)→r x=a:=by
  classical
  refine ⟨fun x=>if h:∃a,l[a]?=some (x:Int) then Classical.choose h else 0,fun a x h=>?_⟩
  have:∃a,l[a]?=some (x:Int):=⟨a,h⟩
  simp only [dif_pos this]
  exact inj _ _ _ (Classical.choose_spec this) h
 obtain ⟨r,hr⟩:=hr
 refine Quy r fun v hv j hj=>?_
 obtain ⟨a,b,h1,h2,h3,h4⟩:=h v hv j hj
 rw [hr a j h3,hr b v h4]
 obtain ⟨c,h5,h6⟩:=hp.inn (j:Int) (List.mem_of_getElem? h3)
 exact ⟨by omega,h1⟩
theorem Ql8 {n v:Nat} {S:Nat → Nat} {y:Nat}:(Qe n S).set v (y:Int)=Qe n fun u=>if u=v then y else S u:=by
 apply List.ext_getElem
 ·simp [Qe,Qav]
 ·intro k h1 h2
  rw [List.getElem_set]
  simp only [Qe,Qav,List.getElem_map,List.getElem_range]
  by_cases e:v=k
  ·subst e; simp
  ·have:¬ k=v:=fun h=>e h.symm
   simp [e,this]
theorem Qwh {d:Qc} {m:Int} {n:Nat} (hn:n≤6) (hN:zw (1+(Int.tmod (zw (d.N)) m))=(n:Int)) {l:List Int} (hp:Qdk n l) (hn1:1≤n) :
  ∃S,Qb fuel (Xw d m l) (0,1,List.replicate n (0:Int))=some (Qe n S)∧Qfh n l S:=by
 have hlen:∀S,(Qe n S).length=n:=fun S=>Zs
 have inner:∀(j B:Nat) (S:Nat → Nat) (s:Int × List Int),j < n→B≤100→Qfh n l S→∃r:Int × List Int,Qb fuel (Xx (s.1,(j:Int),s.2) d l) ((B:Int),((0:Nat):Int),Qe n S)=some r∧∃(B':Nat) (S':Nat → Nat),r=((B':Int),Qe n S')∧B'≤B+j∧Qfh n l S':=fun j B S s hj hB hS =>
  Qa3 (n:=j) (k0:=0) (by omega) (by omega) (fun i (x:Int × List Int)=>(x.1,i,x.2)) (body:=Xx (s.1,(j:Int),s.2) d l)
   (fun k t=>∃(B':Nat) (S':Nat → Nat),t=((B':Int),Qe n S')∧B'≤B+k∧Qfh n l S') (fun r=>∃(B':Nat) (S':Nat → Nat),r=((B':Int),Qe n S')∧B'≤B+j∧Qfh n l S')
   (fun k t _ hk hI=>by
    left
    obtain ⟨B',S',rfl,hB',hS'⟩:=hI
    unfold Xx
    try dsimp only
    rw [if_pos (dlt hk),if_pos (Q3 B'),Qrx (by omega:B' < 9223372036854775807)]
    split
    ·have hjl:j < l.length:=by rw [hp.len]; exact hj
     have hkl:k < l.length:=by omega
     obtain ⟨v,hv,hv2⟩:=hp.inn l[j] (List.getElem_mem hjl)
     obtain ⟨x,hx,hx2⟩:=hp.inn l[k] (List.getElem_mem hkl)
     rw [X3 hjl,Option.bind_some,hv2,Zy hv,Option.bind_some,X3 hkl,Option.bind_some,hx2,if_pos (Q3 x),Int.toNat_natCast]
     have hg:=Qrz hp hS'
     have h64:=Qn4 (by omega) hg
     rw [K6 (by omega),Jd (h64 v hv) (K0 (by omega)),Ql8]
     refine ⟨_,rfl,B'+1,_,rfl,by omega,fun u hu y hy=>?_⟩
     try dsimp only at hy
     by_cases e:u=v
     ·subst e
      rw [if_pos rfl,Nat.testBit_or,Q1,Bool.or_eq_true] at hy
      rcases hy with hy | hy
      ·exact hS' u hu y hy
      ·have:=of_decide_eq_true hy
       subst this
       exact ⟨k,j,hk,hj,by rw [List.getElem?_eq_getElem hkl,hx2],by rw [List.getElem?_eq_getElem hjl,hv2]⟩
     ·rw [if_neg e] at hy
      exact hS' u hu y hy
    ·exact ⟨_,rfl,B'+1,S',rfl,by omega,hS'⟩)
   (fun t ht=>by
    obtain ⟨B',S',rfl,hB',hS'⟩:=ht
    unfold Xx
    dsimp only
    rw [if_neg (nlt j)]
    exact ⟨_,rfl,B',S',rfl,hB',hS'⟩) ((B:Int),Qe n S) ⟨B,S,rfl,by omega,hS⟩
 have h:=Qa3 (n:=n) (k0:=1) hn1 (by omega) (fun i (x:Int × List Int)=>(x.1,i,x.2)) (body:=Xw d m l)
  (fun k t=>∃(B':Nat) (S':Nat → Nat),t=((B':Int),Qe n S')∧B'≤6*k∧Qfh n l S') (fun r=>∃S,r=Qe n S∧Qfh n l S)
  (fun k t h1 hk hI=>by
   left
   obtain ⟨B',S',rfl,hB',hS'⟩:=hI
   obtain ⟨r,h2,B2,S2,rfl,hB2,hS2⟩:=inner k B' S' ((B':Int),Qe n S') hk (by omega) hS'
   unfold Xw
   dsimp only
   try dsimp only at h2
   rw [show ((0:Nat):Int)=0 from rfl] at h2
   rw [hN,if_pos (dlt hk),h2,Option.bind_some]
   exact ⟨_,rfl,B2,S2,rfl,by omega,hS2⟩)
  (fun t ht=>by
   obtain ⟨B',S',rfl,hB',hS'⟩:=ht
   unfold Xw
   dsimp only
   rw [hN,if_neg (nlt n)]
   exact ⟨_,rfl,S',rfl,hS'⟩) (0,List.replicate n (0:Int)) ⟨0,fun _=>0,by
    have:List.replicate n (0:Int)=Qe n fun _=>0:=by
     apply List.ext_getElem
     ·simp [Qe,Qav]
     ·intro k h1 h2; simp [Qe,Qav]
    rw [this]; rfl,by omega,fun v _ x hx=>by simp at hx⟩
 obtain ⟨r,h1,S,rfl,h2⟩:=h
 exact ⟨S,h1,h2⟩
theorem Qvk {d:Qc} (hd:Qle d) {m:Nat} (hm:1≤m∧m≤6):∃S,Zw d (m:Int)=some (Qe (1+d.N.toNat % m) S)∧Gd (1+d.N.toNat % m) S∧1+d.N.toNat % m≤m:=by
 have hlt:d.N.toNat % m < m:=Nat.mod_lt _ (by omega)
 generalize hn:1+d.N.toNat % m=n at *
 have hN:zw (1+(Int.tmod (zw (d.N)) (m:Int)))=(n:Int):=by
  rw [Qcd hd.n (by omega),w64 (by omega)]; omega
 obtain ⟨l,h1,h2⟩:=Qv6 hd (by omega) hN
 obtain ⟨S,h3,h4⟩:=Qwh (by omega) hN h2 (by omega)
 refine ⟨S,?_,Qrz h2 h4,by omega⟩
 unfold Zw
 rw [if_pos (by omega),h1,Option.bind_some,hN,if_pos (by omega),Int.toNat_natCast,h3]
 rfl
end Go.Ab
namespace Go.Ab
open Go
theorem Qlv {cs:List AV} (h:WT (.int .u8) cs):∃a:Int,cs=[(AV.int .u8) a]∧(Lit.int .u8 a).wf=true:=by
 obtain ⟨n,rfl,w⟩:=h
 exact ⟨n,rfl,w⟩
theorem Q2m {cs:List AV} (h:WT (.cat (.int .u8) (.cat (.int .u8) (.cat (.int .u8) (.cat (.int .u8) (.cat (.int .u8) (.cat (.int .u8) .unit)))))) cs):∃x:(Int × Int × Int × Int × Int × Int),AV.agg cs=(fun x:(Int × Int × Int × Int × Int × Int)=>AV.agg [.int .u8 x.1,.int .u8 x.2.1,.int .u8 x.2.2.1,.int .u8 x.2.2.2.1,.int .u8 x.2.2.2.2.1,.int .u8 x.2.2.2.2.2]) x∧((Lit.int .u8 x.1).wf=true∧(Lit.int .u8 x.2.1).wf=true∧(Lit.int .u8 x.2.2.1).wf=true∧(Lit.int .u8 x.2.2.2.1).wf=true∧(Lit.int .u8 x.2.2.2.2.1).wf=true∧(Lit.int .u8 x.2.2.2.2.2).wf=true):=by
 obtain ⟨_,_,rfl,a0,r0⟩:=h
 obtain ⟨v0,e0,w0⟩:=Qlv a0
 cases e0
 obtain ⟨_,_,rfl,a1,r1⟩:=r0
 obtain ⟨v1,e1,w1⟩:=Qlv a1
 cases e1
 obtain ⟨_,_,rfl,a2,r2⟩:=r1
 obtain ⟨v2,e2,w2⟩:=Qlv a2
 cases e2
 obtain ⟨_,_,rfl,a3,r3⟩:=r2
 obtain ⟨v3,e3,w3⟩:=Qlv a3
 cases e3
 obtain ⟨_,_,rfl,a4,r4⟩:=r3
 obtain ⟨v4,e4,w4⟩:=Qlv a4
 cases e4
 obtain ⟨_,_,rfl,a5,r5⟩:=r4
 obtain ⟨v5,e5,w5⟩:=Qlv a5
 cases e5
 cases r5
 exact ⟨(v0,v1,v2,v3,v4,v5),rfl,⟨w0,w1,w2,w3,w4,w5⟩⟩
theorem Q2q {cs:List AV} (h:WT (.int .u16) cs):∃a:Int,cs=[(AV.int .u16) a]∧(Lit.int .u16 a).wf=true:=by
 obtain ⟨n,rfl,w⟩:=h
 exact ⟨n,rfl,w⟩
def Ja (x:Qc):Prop:=((Lit.int .u8 x.N).wf=true)∧(((Lit.int .u8 x.Order.1).wf=true∧(Lit.int .u8 x.Order.2.1).wf=true∧(Lit.int .u8 x.Order.2.2.1).wf=true∧(Lit.int .u8 x.Order.2.2.2.1).wf=true∧(Lit.int .u8 x.Order.2.2.2.2.1).wf=true∧(Lit.int .u8 x.Order.2.2.2.2.2).wf=true))∧((Lit.int .u16 x.Edges).wf=true)
theorem rdTharuspexref31_Draft {cs:List AV} (h:WT (.cat (.int .u8) (.cat (.cat (.int .u8) (.cat (.int .u8) (.cat (.int .u8) (.cat (.int .u8) (.cat (.int .u8) (.cat (.int .u8) .unit)))))) (.cat (.int .u16) .unit))) cs):∃x:Qc,AV.agg cs=eTharuspexref31_Draft x∧Ja x:=by
 obtain ⟨_,_,rfl,a0,r0⟩:=h
 obtain ⟨v0,e0,w0⟩:=Qlv a0
 cases e0
 obtain ⟨_,_,rfl,a1,r1⟩:=r0
 obtain ⟨v1,e1,w1⟩:=Q2m a1
 cases e1
 obtain ⟨_,_,rfl,a2,r2⟩:=r1
 obtain ⟨v2,e2,w2⟩:=Q2q a2
 cases e2
 cases r2
 exact ⟨⟨v0,v1,v2⟩,rfl,⟨w0,w1,w2⟩⟩
theorem Q2d {cs:List AV} (h:WT (.int .u64) cs):∃a:Int,cs=[(AV.int .u64) a]∧(Lit.int .u64 a).wf=true:=by
 obtain ⟨n,rfl,w⟩:=h
 exact ⟨n,rfl,w⟩
theorem Q26 {x:AV} (h:WT (.int .u64) x.flat ∧ (if false then x=.agg x.flat else x.cell=true)):∃a:Int,x=(AV.int .u64) a∧(Lit.int .u64 a).wf=true:=by
 obtain ⟨a,h1,h2⟩:=Q2d h.1
 rw [Qv5 h.2] at h1
 exact ⟨a,(List.cons.inj h1).1,h2⟩
theorem one28 {cs:List AV} (h:WT (.slice true false 1 (.int .u64)) cs):∃a:(List Int),cs=[(eL true (AV.int .u64)) a]∧(a.length≤maxLen∧∀y0∈a,(Lit.int .u64 y0).wf=true):=by
 obtain ⟨xs,rfl,hl,hx⟩:=h
 obtain ⟨l,rfl,hr⟩:=Qya (enc:=(AV.int .u64)) (R:=fun a=>(Lit.int .u64 a).wf=true) (fun x hm=>Q26 (hx x hm))
 exact ⟨l,rfl,by simpa using hl,hr⟩
end Go.Ab
