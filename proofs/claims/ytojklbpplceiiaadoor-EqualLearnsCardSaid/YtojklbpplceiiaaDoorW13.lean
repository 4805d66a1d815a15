/- Functions. No conditions. -/
import Derived.Test.YtojklbpplceiiaaDoorProg
import Derived.Test.YtojklbpplceiiaaDoorW11
import Derived.KernelRfl
import Derived.Test.YtojklbpplceiiaaDoorW12
set_option maxRecDepth 100000
set_option maxHeartbeats 4000000
set_option linter.all false
namespace Go.Ab
open Go Go.Proofs
section
attribute [local irreducible] RW WP
noncomputable abbrev o23_28 (p1:(List Ac)):AObj:=oX true false 1 (eL true eTapi_Fact p1)
noncomputable abbrev o23_29:AObj:=oX true false 3 (.agg [vI 0,.nils,.nils])
noncomputable abbrev o23_30:AObj:=oX true true 1 (vI 0)
noncomputable abbrev o23_31:AObj:=.row false false true true 2 []
noncomputable abbrev Q64:AObj:=oX false false 1 (.mp 6)
noncomputable abbrev Q6e (x25:(Ad × (List (Int × Int × Int)))):AObj:=oX true true 7 (.agg [vI x25.1.n,.int .u64 x25.1.near.1,.int .u64 x25.1.near.2.1,.int .u64 x25.1.near.2.2.1,.int .u64 x25.1.near.2.2.2.1,.int .u64 x25.1.near.2.2.2.2.1,.int .u64 x25.1.near.2.2.2.2.2])
noncomputable abbrev Q7z (x25:(Ad × (List (Int × Int × Int)))):AObj:=oX false false 1 (.ref 7 0 x25.2.length)
noncomputable abbrev Q5z (x24:(List (Ac × Bool))):AObj:=mapK eTapi_Fact AV.bool x24
noncomputable abbrev Q6m (x25:(Ad × (List (Int × Int × Int)))):AObj:=oR true 3 (fun x:(Int × Int × Int)=>AV.agg [vI x.1,vI x.2.1,vI x.2.2]) x25.2
noncomputable abbrev o23_37:AObj:=.loop 116 [(3,.ptr 0 0 0),(4,.ptr 1 0 0),(5,.ptr 2 0 0),(6,.ptr 3 0 0),(85,.fn (.func 75) [] [.ptr 4 0 0,.ptr 5 0 0])] [86] (cA Tryd.f17 [true,true,true,true,true,false,true,true]) (cB Tryd.f17 [true,true,true,true,true,false,true,true]) .ready none
noncomputable abbrev o23_38 (x27:(List (Int × Int))):AObj:=oR true 2 zp x27
noncomputable abbrev o23_39:AObj:=.loop 116 [(3,.ptr 0 0 0),(4,.ptr 1 0 0),(5,.ptr 2 0 0),(6,.ptr 3 0 0),(85,.fn (.func 75) [] [.ptr 4 0 0,.ptr 5 0 0])] [86] (cA Tryd.f17 [true,true,true,true,true,false,true,true]) (cB Tryd.f17 [true,true,true,true,true,false,true,true]) .done (some .ret)
noncomputable abbrev o23_40:AObj:=.loop 116 [(3,.ptr 0 0 0),(4,.ptr 1 0 0),(5,.ptr 2 0 0),(6,.ptr 3 0 0),(85,.fn (.func 75) [] [.ptr 4 0 0,.ptr 5 0 0])] [86] (cA Tryd.f17 [true,true,true,true,true,false,true,true]) (cB Tryd.f17 [true,true,true,true,true,false,true,true]) .busy none
noncomputable abbrev l23_41 (a0 a1:AObj) (p1:(List Ac)) (x25:(Ad × (List (Int × Int × Int)))) (x24:(List (Ac × Bool))):List AObj:=[(o23_28 p1),a0,a1,Q64,(Q6e x25),(Q7z x25),(Q5z x24),(Q6m x25)]
theorem g_equal_Learn_ok (p0:Int) (p1:(List Ac)):Ct Tryd.prog 17 [vI p0,eL true eTapi_Fact p1] (Q9 p0 p1) (fun x=>.tup [.agg [vI x.1.N,.ref 0 0 x.1.Arrows.length,.ref 1 0 x.1.Lines.length],vI x.2]) (fun x=>[oR true 2 zp x.1.Arrows,oR true 2 zp x.1.Lines]):=by
 refine hfn [] Tryd.func17 <| hop 0 (fun _=>sgL false [] [] false gE) <| hop 0 (fun _=>sgL false [] [] false gE) <| hbr 4 [17,18] (hwk 7 (wl [4,5] [1,2]) <| hwk 0 (Qy 0 0 1 2 true true gE) <| hwk 0 (Qy 0 0 2 2 true true gE) <| hrt 1) <| ?_
 refine hbr 3 [20,21] (hwk 4 (wl [4,5] [1,2]) <| hwk 0 (Qy 0 0 1 2 true true gE) <| hwk 0 (Qy 0 0 2 2 true true gE) <| hrt 1) <| ?_
 refine hop 2 (fun _=>sgL false [] [] false gE) <| hop 2 (fun _=>Qn (enc:=eTapi_Fact) (l:=p1) (fl:=true) kr gE) <| hlp 1 (fun s5=>⟨[(0,vI p0),(3,.ptr 0 0 0),(4,.ptr 1 0 0),(5,.ptr 2 0 0),(6,.ptr 3 0 0),(24,eL true eTapi_Fact p1),(25,vI (zn p1)),(26,vI s5.1)],[(o23_28 p1),o23_29,o23_30,oX false false 1 (.mp 4),mapK eTapi_Fact AV.bool s5.2],116⟩) (fun x=>match x with | .inl v=>(.ret,⟨[(4,.ptr 0 0 0),(5,.ptr 1 0 0)],[oX false false 3 (.agg [vI 0,.ref 2 0 0,.ref 3 0 0]),oX true true 1 (vI 311),o23_31,o23_31],116⟩) | .inr v=>(.exit 0,⟨[(0,vI p0),(3,.ptr 0 0 0),(4,.ptr 1 0 0),(5,.ptr 2 0 0),(6,.ptr 3 0 0)],[(o23_28 p1),o23_29,o23_30,oX false false 1 (.mp 4),mapK eTapi_Fact AV.bool v],116⟩)) (wk_gcK (live:=[0,3,4,5,6,24,25,26]) (keep:=[0,1,2,4,3]) 3 eTapi_Fact AV.bool [] (fun f a=>rfl) (fun f a=>rfl) kr kr) (fun s5=>?_) (hsm (fun x23=>?_) (fun x24=>?_))
 ·refine hbr 1 [27] (?_) ?_
  ·refine hbd fun a8 q9=>hop 1 (fun _=>Q2 (enc:=eTapi_Fact) (l:=p1) (n:=s5.1) (fl:=true) (w:=3) (a:=a8) kr kr gE q9) <| hbr 8 [32,33] (hwk 43 (wl [4,5] [1,2]) <| hwk 0 (Qy 0 0 1 2 true true gE) <| hwk 0 (Qy 0 0 2 2 true true gE) <| hdn 1) <| ?_
   refine hbr 7 [38,39,40] (hwk 36 (wl [4,5] [1,2]) <| hwk 0 (Qy 0 0 1 2 true true gE) <| hwk 0 (Qy 0 0 2 2 true true gE) <| hdn 1) <| ?_
   refine hbr 6 [44,45,46] (hwk 30 (wl [4,5] [1,2]) <| hwk 0 (Qy 0 0 1 2 true true gE) <| hwk 0 (Qy 0 0 2 2 true true gE) <| hdn 1) <| ?_
   refine hoh 3 (fun _ _ h k=>Xm (k:=.u64) (k':=.i64) (a:=a8.Z) (b:=p0) kr gE h k) <| hbr 3 [51,52,53] (hwk 23 (wl [4,5] [1,2]) <| hwk 0 (Qy 0 0 1 2 true true gE) <| hwk 0 (Qy 0 0 2 2 true true gE) <| hdn 1) <| ?_
   refine hoh 4 (fun _ _ h k=>Xm (k:=.u64) (k':=.i64) (a:=a8.Z) (b:=a8.X) kr gE h k) <| hoh 4 (fun _ _ h k=>Xm (k:=.u64) (k':=.i64) (a:=a8.Z) (b:=a8.Y) kr gE h k) <| hbr 5 [66,67,68] (hwk 8 (wl [4,5] [1,2]) <| hwk 0 (Qy 0 0 1 2 true true gE) <| hwk 0 (Qy 0 0 2 2 true true gE) <| hdn 1) <| ?_
   refine hop 2 (fun _=>Qs5 (ob:=4) (kt:=49) (c:=false) (ke:=eTapi_Fact) (enc:=AV.bool) (e:=Ah) (l:=s5.2) (n:=a8) (z:=false) kr (fun _ _=>by kernel_rfl) kr (fun _=>rfl) gE) <| hbr 1 [71,72] (hwk 4 (wl [4,5] [1,2]) <| hwk 0 (Qy 0 0 1 2 true true gE) <| hwk 0 (Qy 0 0 2 2 true true gE) <| hdn 1) <| ?_
   refine hop 3 (fun _=>Xn (ob:=4) (kt:=49) (ke:=eTapi_Fact) (enc:=AV.bool) (e:=Ah) (l:=s5.2) (n:=a8) (v:=true) kr (fun _ _=>by kernel_rfl) kr gE kr) <| hnx 2 (wk_gcK (live:=[0,3,4,5,6,24,25,26]) (keep:=[0,1,2,3,4]) 4 eTapi_Fact AV.bool (kput Ah s5.2 a8 true) (fun f a=>rfl) (fun f a=>rfl) kr kr)
  refine hdx 1 (wk_gcK (live:=[0,3,4,5,6]) (keep:=[0,1,2,3,4]) 4 eTapi_Fact AV.bool s5.2 (fun f a=>rfl) (fun f a=>rfl) kr kr)
 ·refine hrt 0
 refine hcl 2 [] (Qp4 p0 p1) fun x25 _=>hil 8 Tryd.func52 <| hop 1 (fun _=>sgL false [] [] false gE) <| hwk 3 (wk_gcK (live:=[4]) (keep:=[7,8]) 4 eTapi_Fact AV.bool x24 (fun f a=>rfl) (fun f a=>rfl) kr gE) <| hwk 1 (wk_gcK (live:=[3,4,5,6,85]) (keep:=[0,1,2,3,7,8,4,5]) 4 eTapi_Fact AV.bool x24 (fun f a=>rfl) (fun f a=>rfl) kr gE) <| hrg 0 Tryd.func75 <| hcl 1 [] (g_equal_skeleton_pairs_ok (Ad.mk x25.1.n (x25.1.near.1,x25.1.near.2.1,x25.1.near.2.2.1,x25.1.near.2.2.2.1,x25.1.near.2.2.2.2.1,x25.1.near.2.2.2.2.2))) fun x27 _=>hoh 3 (fun _ _ h k=>Zu (k:=.i64) (k':=.i64) (a:=1) (b:=(zn x27)) kr gE h k) <| hlp 1 (fun s29=>⟨[(0,.yld 8),(1,.ptr 4 0 0),(2,.ptr 5 0 0),(4,.ref 9 0 x27.length),(13,vI (zw (1*2^min (zt (zn x27)) (IntKind.bits .i64)))),(14,vI s29)],(l23_41 o23_29 o23_30 p1 x25 x24)++[o23_37,(o23_38 x27)],68⟩) (fun x=>match x with | .inl v=>(.ret,⟨[],(l23_41 (oX false false 3 (.agg [vI 0,.ref 9 0 0,.ref 10 0 0])) (oX true true 1 (vI v)) p1 x25 x24)++[o23_39,o23_31,o23_31],68⟩) | .inr (.inl v)=>(.ret,⟨[],(l23_41 o23_29 o23_30 p1 x25 x24)++[.loop 116 [(3,.ptr 0 0 0),(4,.ptr 1 0 0),(5,.ptr 2 0 0),(6,.ptr 3 0 0),(85,.fn (.func 75) [] [.ptr 4 0 0,.ptr 5 0 0])] [86] (cA Tryd.f17 [true,true,true,true,true,false,true,true]) (cB Tryd.f17 [true,true,true,true,true,false,true,true]) .done (some (.exit 2))],68⟩) | .inr (.inr (.inl v))=>(.ret,⟨[],(l23_41 (oX false false 3 (.agg [vI v.1,.ref 9 0 v.2.1.length,.ref 10 0 v.2.2.length])) o23_30 p1 x25 x24)++[o23_39,oR true 2 zp v.2.1,oR true 2 zp v.2.2],68⟩) | .inr (.inr (.inr v))=>(.exit 0,⟨[],(l23_41 o23_29 o23_30 p1 x25 x24)++[o23_37],68⟩)) (wk_gcK (live:=[0,1,2,4,13,14]) (keep:=[9]) 6 eTapi_Fact AV.bool x24 (fun f a=>rfl) (fun f a=>rfl) kr kr) (fun s29=>?_) (hsm (fun x76=>?_) (hsm (fun x77=>?_) (hsm (fun x78=>?_) (fun x79=>?_))))
 ·refine hbr 1 [15] (?_) ?_
  ·refine hoh 5 (fun _ _ h k=>mkL (enc:=(AV.int .u64)) (z:=(0:Int)) (z0:=.int .u64 0) (n:=x25.1.n) (m:=x25.1.n) (w:=1) (bytes:=8) [] true kr kr gE kr h k) <| hlp 4 (fun s32=>⟨[(0,.yld 8),(1,.ptr 4 0 0),(2,.ptr 5 0 0),(4,.ref 9 0 x27.length),(5,vI s29),(6,.ref 10 0 s32.2.length),(13,vI (zw (1*2^min (zt (zn x27)) (IntKind.bits .i64)))),(14,vI s29),(20,.ref 9 0 x27.length),(21,vI (zn x27)),(22,vI s32.1)],(l23_41 o23_29 o23_30 p1 x25 x24)++[o23_37,(o23_38 x27),oR true 1 (AV.int .u64) s32.2],68⟩) (fun v=>(.exit 2,⟨[(0,.yld 8),(1,.ptr 4 0 0),(2,.ptr 5 0 0),(4,.ref 9 0 x27.length),(6,.ref 10 0 v.length),(13,vI (zw (1*2^min (zt (zn x27)) (IntKind.bits .i64)))),(14,vI s29)],(l23_41 o23_29 o23_30 p1 x25 x24)++[o23_37,(o23_38 x27),oR true 1 (AV.int .u64) v],68⟩)) (wk_gcK (live:=[0,1,2,4,5,6,13,14,20,21,22]) (keep:=[9,10]) 6 eTapi_Fact AV.bool x24 (fun f a=>rfl) (fun f a=>rfl) kr kr) (fun s32=>?_) fun x46=>?_
   ·refine hbr 1 [23] (?_) ?_
    ·refine hbd fun a35 q36=>hop 2 (fun _=>Qq (enc:=zp) (l:=x27) (n:=s32.1) (w:=2) (ob:=9) (ro:=false) (nr:=true) (fl:=true) (a:=a35) kr kr gE q36) <| hop 0 (fun _=>Zn (enc:=zp) (l:=x27) (n:=s32.1) (w:=2) (ob:=9) (c:=0) (bx:=false) (ro:=false) (nr:=true) (fl:=true) (a:=a35) kr kr q36 gE) <| hoh 5 (fun _ _ h k=>Xm (k:=.i64) (k':=.i64) (a:=s29) (b:=s32.1) kr gE h k) <| hbr 2 [31] (?_) ?_
     ·refine hbd fun a39 q40=>hop 5 (fun _=>Qq (enc:=(AV.int .u64)) (l:=s32.2) (n:=a35.1) (w:=1) (ob:=10) (ro:=false) (nr:=true) (fl:=true) (a:=a39) kr kr gE q40) <| hop 0 (fun _=>Zn (enc:=(AV.int .u64)) (l:=s32.2) (n:=a35.1) (w:=1) (ob:=10) (c:=0) (bx:=false) (ro:=false) (nr:=true) (fl:=true) (a:=a39) kr kr q40 gE) <| hoh 2 (fun _ _ h k=>Zu (k:=.u64) (k':=.i64) (a:=1) (b:=a35.2) kr gE h k) <| hop 1 (fun _=>Qq (enc:=(AV.int .u64)) (l:=s32.2) (n:=a35.1) (w:=1) (ob:=10) (ro:=false) (nr:=true) (fl:=true) (a:=a39) kr kr gE q40) <| hop 0 (fun _=>Xd (enc:=(AV.int .u64)) (l:=s32.2) (n:=a35.1) (ob:=10) (w:=1) (bx:=false) (nr:=true) (fl:=true) (c:=0) (a:=a39) (a':=zv (zb a39 ||| zb (zv (1*2^min (zt a35.2) zk))).toNat) (v:=.int .u64 (zv (zb a39 ||| zb (zv (1*2^min (zt a35.2) zk))).toNat)) false kr kr q40 kr kr kr gE kr) <| hkl 0 [6,32] (ls s32.2 (zt a35.1) (zv (zb a39 ||| zb (zv (1*2^min (zt a35.2) zk))).toNat)) <| hnx 2 (wk_gcK (live:=[0,1,2,4,5,6,13,14,20,21,22]) (keep:=[9,10]) 6 eTapi_Fact AV.bool x24 (fun f a=>rfl) (fun f a=>rfl) kr kr)
     refine hbd fun a42 q43=>hop 5 (fun _=>Qq (enc:=(AV.int .u64)) (l:=s32.2) (n:=a35.2) (w:=1) (ob:=10) (ro:=false) (nr:=true) (fl:=true) (a:=a42) kr kr gE q43) <| hop 0 (fun _=>Zn (enc:=(AV.int .u64)) (l:=s32.2) (n:=a35.2) (w:=1) (ob:=10) (c:=0) (bx:=false) (ro:=false) (nr:=true) (fl:=true) (a:=a42) kr kr q43 gE) <| hoh 2 (fun _ _ h k=>Zu (k:=.u64) (k':=.i64) (a:=1) (b:=a35.1) kr gE h k) <| hop 1 (fun _=>Qq (enc:=(AV.int .u64)) (l:=s32.2) (n:=a35.2) (w:=1) (ob:=10) (ro:=false) (nr:=true) (fl:=true) (a:=a42) kr kr gE q43) <| hop 0 (fun _=>Xd (enc:=(AV.int .u64)) (l:=s32.2) (n:=a35.2) (ob:=10) (w:=1) (bx:=false) (nr:=true) (fl:=true) (c:=0) (a:=a42) (a':=zv (zb a42 ||| zb (zv (1*2^min (zt a35.1) zk))).toNat) (v:=.int .u64 (zv (zb a42 ||| zb (zv (1*2^min (zt a35.1) zk))).toNat)) false kr kr q43 kr kr kr gE kr) <| hkl 0 [6,42] (ls s32.2 (zt a35.2) (zv (zb a42 ||| zb (zv (1*2^min (zt a35.1) zk))).toNat)) <| hnx 2 (wk_gcK (live:=[0,1,2,4,5,6,13,14,20,21,22]) (keep:=[9,10]) 6 eTapi_Fact AV.bool x24 (fun f a=>rfl) (fun f a=>rfl) kr kr)
    refine hdx 1 (wk_gcK (live:=[0,1,2,4,6,13,14]) (keep:=[9,10]) 6 eTapi_Fact AV.bool x24 (fun f a=>rfl) (fun f a=>rfl) kr kr)
   refine hct 0 11 <| hcl 1 [F (AV.int .u64) x46] (g_equal_acyclic_ok x46) fun x47 _=>hbr 1 [54,55] (?_) ?_
   ·refine hcl 1 [F (AV.int .u64) x46] (us:=[eL true (AV.int .u64) x46]) (rv:=fun x51=>eL true (fun x:(Int × Int × Int)=>AV.agg [vI x.1,vI x.2.1,vI x.2.2]) x51) (ro:=fun x51=>[]) (fun x51 q52=>Za.froz (Xj x46 x51 q52) (Qr5 (w:=3) (bx:=false) (ro:=false) (enc:=(fun x:(Int × Int × Int)=>AV.agg [vI x.1,vI x.2.1,vI x.2.2])) (l:=x51) (fl:=true) rfl)) fun x51 _=>hcl 1 [F (fun x:(Int × Int × Int)=>AV.agg [vI x.1,vI x.2.1,vI x.2.2]) x25.2] (Vm x51 x25.2) fun x53 _=>hbr 2 [59,60,61] (?_) ?_
    ·refine hyl 2 <| hcl 2 [F (AV.int .u64) x46] (g_equal_factsOf_ok x46) fun x57 _=>hbr 7 [93] (?_) ?_
     ·refine hwk 5 (wk_gcK (live:=[4,5]) (keep:=[]) 6 eTapi_Fact AV.bool x24 (fun f a=>rfl) (fun f a=>rfl) kr gE) <| hwk 0 (Qy 1 0 1 2 true true gE) <| hwk 0 (Qy 1 0 2 2 true true gE) <| hdx 4 (wk_gcK (live:=[]) (keep:=[11,12]) 6 eTapi_Fact AV.bool x24 (fun f a=>rfl) (fun f a=>rfl) kr kr)
     refine hop 4 (fun _=>Qn (enc:=eTapi_Fact) (l:=p1) (fl:=true) kr gE) <| hbr 1 [100] (?_) ?_
     ·refine hwk 1 (wk_gcK (live:=[4,5]) (keep:=[]) 6 eTapi_Fact AV.bool x24 (fun f a=>rfl) (fun f a=>rfl) kr gE) <| hdx 4 (wk_gcK (live:=[]) (keep:=[]) 6 eTapi_Fact AV.bool x24 (fun f a=>rfl) (fun f a=>rfl) kr kr)
     refine hlp 4 (fun s63=>⟨[(4,.ptr 1 0 0),(5,.ptr 2 0 0),(6,.ptr 3 0 0),(11,.ref 10 0 x46.length),(101,.ref 11 0 x57.1.length),(102,vI (zn x57.1)),(103,vI s63)],(l23_41 o23_29 o23_30 p1 x25 x24)++[o23_40,(o23_38 x27),.row false true true true 1 (List.map (AV.int .u64) x46),oR true 3 eTapi_Fact x57.1],116⟩) (fun x=>match x with | .inl v=>(.ret,⟨[(4,.ptr 1 0 0),(5,.ptr 2 0 0)],(l23_41 (oX false false 3 (.agg [vI 0,.ref 11 0 0,.ref 12 0 0])) (oX true true 1 (vI 4)) p1 x25 x24)++[o23_40,(o23_38 x27),.row false true true true 1 (List.map (AV.int .u64) x46),o23_31,o23_31],116⟩) | .inr v=>(.exit 4,⟨[(4,.ptr 1 0 0),(5,.ptr 2 0 0),(11,.ref 10 0 x46.length)],(l23_41 o23_29 o23_30 p1 x25 x24)++[o23_40,(o23_38 x27),.row false true true true 1 (List.map (AV.int .u64) x46)],116⟩)) (wk_gcK (live:=[4,5,6,11,101,102,103]) (keep:=[11]) 6 eTapi_Fact AV.bool x24 (fun f a=>rfl) (fun f a=>rfl) kr kr) (fun s63=>?_) (hsm (fun x71=>?_) (fun x72=>?_))
     ·refine hbr 1 [104] (?_) ?_
      ·refine hbd fun a66 q67=>hop 1 (fun _=>Qq (enc:=eTapi_Fact) (l:=x57.1) (n:=s63) (w:=3) (ob:=11) (ro:=false) (nr:=true) (fl:=true) (a:=a66) kr kr gE q67) <| hop 0 (fun _=>Zn (enc:=eTapi_Fact) (l:=x57.1) (n:=s63) (w:=3) (ob:=11) (c:=0) (bx:=false) (ro:=false) (nr:=true) (fl:=true) (a:=a66) kr kr q67 gE) <| hop 4 (fun _=>Qs5 (ob:=6) (kt:=49) (c:=false) (ke:=eTapi_Fact) (enc:=AV.bool) (e:=Ah) (l:=x24) (n:=a66) (z:=false) kr (fun _ _=>by kernel_rfl) kr (fun _=>rfl) gE) <| hbr 1 [110] (?_) ?_
       ·refine hwk 4 (wk_gcK (live:=[4,5]) (keep:=[]) 6 eTapi_Fact AV.bool x24 (fun f a=>rfl) (fun f a=>rfl) kr gE) <| hwk 0 (Qy 1 0 1 2 true true gE) <| hwk 0 (Qy 1 0 2 2 true true gE) <| hdn 1
       refine hnx 3 (wk_gcK (live:=[4,5,6,11,101,102,103]) (keep:=[11]) 6 eTapi_Fact AV.bool x24 (fun f a=>rfl) (fun f a=>rfl) kr kr)
      refine hdx 1 (wk_gcK (live:=[4,5,11]) (keep:=[]) 6 eTapi_Fact AV.bool x24 (fun f a=>rfl) (fun f a=>rfl) kr kr)
     ·refine hdx 3 (wk_gcK (live:=[]) (keep:=[11,12]) 6 eTapi_Fact AV.bool x24 (fun f a=>rfl) (fun f a=>rfl) kr kr)
     refine hcl 1 [F (AV.int .u64) x46] (Qdy x46) fun x73 _=>hwk 2 (wk_gcK (live:=[4,5]) (keep:=[11,12]) 6 eTapi_Fact AV.bool x24 (fun f a=>rfl) (fun f a=>rfl) kr gE) <| hdx 4 (wk_gcK (live:=[]) (keep:=[11,12]) 6 eTapi_Fact AV.bool x24 (fun f a=>rfl) (fun f a=>rfl) kr kr)
    refine hnx 8 (wk_gcK (live:=[0,1,2,4,13,14]) (keep:=[9]) 6 eTapi_Fact AV.bool x24 (fun f a=>rfl) (fun f a=>rfl) kr kr)
   refine hnx 14 (wk_gcK (live:=[0,1,2,4,13,14]) (keep:=[9]) 6 eTapi_Fact AV.bool x24 (fun f a=>rfl) (fun f a=>rfl) kr kr)
  refine hdx 1 (wk_gcK (live:=[]) (keep:=[]) 6 eTapi_Fact AV.bool x24 (fun f a=>rfl) (fun f a=>rfl) kr kr)
 ·refine hrt 0
 ·refine hwk 3 (wl [4,5] [1,2]) <| hwk 0 (Qy 0 0 1 2 true true gE) <| hwk 0 (Qy 0 0 2 2 true true gE) <| hrt 1
 ·refine hrt 0
 refine hwk 3 (wl [4,5] [1,2]) <| hwk 0 (Qy 0 0 1 2 true true gE) <| hwk 0 (Qy 0 0 2 2 true true gE) <| hrt 1
theorem Qg9 (p0:(List Int)) (p1:(List Int)):Ct Tryd.prog 20 [eL true (AV.int .u64) p0,eL true (AV.int .u64) p1] (Qf1 p0 p1) (fun x=>.tup [vB x.1,vI x.2]) (fun x=>[]):=by
 refine hfn [] Tryd.func20 <| hcl 3 [] (g_equal_Check_ok p0) fun x1 _=>hbr 3 [11] (hrt 5) <| ?_
 refine hcl 2 [] (g_equal_Check_ok p1) fun x5 _=>hbr 3 [16] (hrt 5) <| ?_
 refine hcl 2 [] (g_equal_skeletonOf_ok p0) fun x9 _=>hcl 1 [] (g_equal_skeletonOf_ok p1) fun x11 _=>hbr 2 [22,23] (?_) ?_
 ·refine hcl 1 [] (Xj p0) fun x15 _=>hcl 1 [] (Xj p1) fun x17 _=>hcl 0 [F (fun x:(Int × Int × Int)=>AV.agg [vI x.1,vI x.2.1,vI x.2.2]) x15,F (fun x:(Int × Int × Int)=>AV.agg [vI x.1,vI x.2.1,vI x.2.2]) x17] (Vm x15 x17) fun x19 _=>hrt 4
 refine hrt 9
theorem g_slices_Equal_api_Fact_api_Fact_ok (p0:(List Ac)) (p1:(List Ac)):Ct Tryd.prog 21 [eL true eTapi_Fact p0,eL true eTapi_Fact p1] (Yw p0 p1) (fun x=>vB x) (fun x=>[]):=by
 refine hfn [] Tryd.func21 <| hop 2 (fun _=>Qn (enc:=eTapi_Fact) (l:=p0) (fl:=true) kr gE) <| hop 1 (fun _=>Qn (enc:=eTapi_Fact) (l:=p1) (fl:=true) kr gE) <| hbr 1 [10] (hrt 3) <| ?_
 refine hop 2 (fun _=>Qn (enc:=eTapi_Fact) (l:=p0) (fl:=true) kr gE) <| hlp 1 (fun s3=>⟨[(0,eL true eTapi_Fact p0),(1,eL true eTapi_Fact p1),(12,vI (zn p0)),(13,vI s3)],[],26⟩) (fun x=>match x with | .inl v=>(.ret,⟨[(4,vB false)],[],26⟩) | .inr v=>(.exit 0,⟨[],[],26⟩)) (wz []) (fun s3=>?_) (hsm (fun x13=>?_) (fun x14=>?_))
 ·refine hbr 1 [14] (?_) ?_
  ·refine hbd fun a6 q7=>hop 6 (fun _=>Q2 (enc:=eTapi_Fact) (l:=p0) (n:=s3) (fl:=true) (w:=3) (a:=a6) kr kr gE q7) <| hbd fun a8 q9=>hop 3 (fun _=>Q2 (enc:=eTapi_Fact) (l:=p1) (n:=s3) (fl:=true) (w:=3) (a:=a8) kr kr gE q9) <| hbr 2 [24] (hdx 2 (wz [])) <| ?_
   refine hnx 3 (wz [])
  refine hdx 1 (wz [])
 ·refine hrt 0
 refine hrt 2
theorem g_equal_Skeleton_ok (p0:(List Int)):Ct Tryd.prog 23 [eL true (AV.int .u64) p0] (Qdd p0) (fun x=>.tup [.ref 0 0 x.1.length,vI x.2]) (fun x=>[oR true 2 zp x.1]):=by
 refine hfn [] Tryd.func23 <| hcl 3 [] (g_equal_Check_ok p0) fun x1 _=>hbr 3 [8] (hwk 4 (wl [2,3] []) <| hwk 0 (wk_nil 2 2 true true gE) <| hrt 1) <| ?_
 refine hcl 2 [] (g_equal_skeletonOf_ok p0) fun x5 _=>hcl 0 [] (g_equal_skeleton_pairs_ok (Ad.mk x5.n (x5.near.1,x5.near.2.1,x5.near.2.2.1,x5.near.2.2.2.1,x5.near.2.2.2.2.1,x5.near.2.2.2.2.2))) fun x7 _=>hrt 3
theorem g_cmp_isNaN_uint_ok (p0:Int):Ct Tryd.prog 78 [.int .u64 p0] (Qav p0) (fun x=>vB x) (fun x=>[]):=by
 refine hfn [] Tryd.func78 <| hrt 6
theorem g_cmp_Compare_uint_ok (p0:Int) (p1:Int):Ct Tryd.prog 59 [.int .u64 p0,.int .u64 p1] (Kt p0 p1) (fun x=>vI x) (fun x=>[]):=by
 refine hfn [] Tryd.func59 <| hcl 2 [] (g_cmp_isNaN_uint_ok p0) fun x1 _=>hcl 2 [] (g_cmp_isNaN_uint_ok p1) fun x3 _=>hbr 2 [8,5,11] (?_) ?_
 ·refine hbr 2 [10,6,12] (hrt 3) <| ?_
  refine hrt 3
 refine hbr 2 [10,6,13] (hrt 3) <| ?_
 refine hbr 4 [16] (hrt 3) <| ?_
 refine hbr 4 [19] (hrt 3) <| ?_
 refine hrt 3
theorem Qel (p0:(List Int)) (p1:(List Int)):Ct Tryd.prog 26 [eL true (AV.int .u64) p0,eL true (AV.int .u64) p1] (Yu p0 p1) (fun x=>vI x) (fun x=>[]):=by
 refine hfn [] Tryd.func26 <| hop 2 (fun _=>Qn (enc:=(AV.int .u64)) (l:=p0) (fl:=true) kr gE) <| hlp 1 (fun s1=>⟨[(0,eL true (AV.int .u64) p0),(1,eL true (AV.int .u64) p1),(9,eL true (AV.int .u64) p0),(10,vI (zn p0)),(11,vI s1)],[],36⟩) (fun x=>match x with | .inl v=>(.ret,⟨[(4,vI v)],[],36⟩) | .inr v=>(.exit 0,⟨[(0,eL true (AV.int .u64) p0),(1,eL true (AV.int .u64) p1)],[],36⟩)) (wz []) (fun s1=>?_) (hsm (fun x15=>?_) (fun x16=>?_))
 ·refine hbr 1 [12] (?_) ?_
  ·refine hbd fun a4 q5=>hop 2 (fun _=>Q2 (enc:=(AV.int .u64)) (l:=p0) (n:=s1) (fl:=true) (w:=1) (a:=a4) kr kr gE q5) <| hop 5 (fun _=>Qn (enc:=(AV.int .u64)) (l:=p1) (fl:=true) kr gE) <| hbr 1 [19] (hdx 2 (wz [])) <| ?_
   refine hbd fun a8 q9=>hop 3 (fun _=>Q2 (enc:=(AV.int .u64)) (l:=p1) (n:=s1) (fl:=true) (w:=1) (a:=a8) kr kr gE q9) <| hcl 4 [] (g_cmp_Compare_uint_ok a4 a8) fun x10 _=>hbr 3 [28] (hdx 3 (wz [])) <| ?_
   refine hnx 3 (wz [])
  refine hdx 1 (wz [])
 ·refine hrt 0
 refine hop 1 (fun _=>Qn (enc:=(AV.int .u64)) (l:=p0) (fl:=true) kr gE) <| hop 1 (fun _=>Qn (enc:=(AV.int .u64)) (l:=p1) (fl:=true) kr gE) <| hbr 1 [35] (hrt 3) <| ?_
 refine hrt 3
noncomputable abbrev Qu6 (x7:Ad):AObj:=oX true true 7 (.agg [vI x7.n,.int .u64 x7.near.1,.int .u64 x7.near.2.1,.int .u64 x7.near.2.2.1,.int .u64 x7.near.2.2.2.1,.int .u64 x7.near.2.2.2.2.1,.int .u64 x7.near.2.2.2.2.2])
noncomputable abbrev Quz (x9:(List (Int × Int × Int))):AObj:=oR true 3 (fun x:(Int × Int × Int)=>AV.agg [vI x.1,vI x.2.1,vI x.2.2]) x9
noncomputable abbrev Q0i:AObj:=.loop 29 [(5,.ptr 0 0 0),(20,.fn (.func 75) [] [.ptr 1 0 0,.ptr 2 0 0])] [21] (cA Tryd.f25 [true,true,true,true,false,true,true]) (cB Tryd.f25 [true,true,true,true,false,true,true]) .ready none
noncomputable abbrev Qvw (a0 a1:AObj) (x7:Ad) (x9:(List (Int × Int × Int))) (x11:(List (Int × Int))):List AObj:=[a0,(Qu6 x7),oX false false 1 (.ref 3 0 x9.length),(Quz x9),Q0i,a1,oR true 2 zp x11]
theorem Qmk (p0:(List Int)):Ct Tryd.prog 25 [eL true (AV.int .u64) p0] (Qh3 p0) (fun x=>.tup [.ref 0 0 x.1.length,vI x.2]) (fun x=>[oR false 1 (eL true (AV.int .u64)) x.1]):=by
 refine hfn [] Tryd.func25 <| hcl 3 [] (g_equal_Check_ok p0) fun x1 _=>hbr 3 [10] (hwk 4 (wl [2,3] []) <| hwk 0 (wk_nil 2 1 true false gE) <| hrt 1) <| ?_
 refine hop 2 (fun _=>Qn (enc:=(AV.int .u64)) (l:=p0) (fl:=true) kr gE) <| hbr 1 [14] (hwk 3 (wl [2,3] []) <| hwk 0 (wk_nil 2 1 true false gE) <| hrt 1) <| ?_
 refine hop 2 (fun _=>sgL false [] [] false gE) <| hcl 2 [] (g_equal_skeletonOf_ok p0) fun x7 _=>hcl 1 [] (Xj p0) fun x9 _=>hil 0 Tryd.func52 <| hop 1 (fun _=>sgL false [] [] false gE) <| hwk 3 (wl [4] [2,3]) <| hwk 1 (wl [5,20] [0,2,3,1]) <| hrg 0 Tryd.func75 <| hcl 1 [] (g_equal_skeleton_pairs_ok (Ad.mk x7.n (x7.near.1,x7.near.2.1,x7.near.2.2.1,x7.near.2.2.2.1,x7.near.2.2.2.2.1,x7.near.2.2.2.2.2))) fun x11 _=>?_
 refine hoh 3 (fun _ _ h k=>Zu (k:=.i64) (k':=.i64) (a:=1) (b:=(zn x11)) kr gE h k) <| hlp 1 (fun s13=>⟨[(0,.yld 4),(1,.ptr 1 0 0),(2,.ptr 2 0 0),(4,.ref 6 0 x11.length),(13,vI (zw (1*2^min (zt (zn x11)) (IntKind.bits .i64)))),(14,vI s13.1)],(Qvw (oX false false 1 (.ref 5 0 s13.2.length)) (oR false 1 (eL true (AV.int .u64)) s13.2) x7 x9 x11),68⟩) (fun v=>(.exit 0,⟨[],[oX false false 1 (.ref 5 0 v.length),(Qu6 x7),oX false false 1 (.ref 3 0 x9.length),(Quz x9),Q0i,oR false 1 (eL true (AV.int .u64)) v],68⟩)) (wk_trans (wk_gc (live:=[0,1,2,4,13,14]) (keep:=[5]) gE) (wk_trans (Qy 0 0 0 1 true false gE) (wk_gc (live:=[0,1,2,4,13,14]) (keep:=[6,5]) kr))) (fun s13=>?_) fun x42=>?_
 ·refine hbr 1 [15] (?_) ?_
  ·refine hoh 5 (fun _ _ h k=>mkL (enc:=(AV.int .u64)) (z:=(0:Int)) (z0:=.int .u64 0) (n:=x7.n) (m:=x7.n) (w:=1) (bytes:=8) [] true kr kr gE kr h k) <| hlp 4 (fun s16=>⟨[(0,.yld 4),(1,.ptr 1 0 0),(2,.ptr 2 0 0),(4,.ref 6 0 x11.length),(5,vI s13.1),(6,.ref 7 0 s16.2.length),(13,vI (zw (1*2^min (zt (zn x11)) (IntKind.bits .i64)))),(14,vI s13.1),(20,.ref 6 0 x11.length),(21,vI (zn x11)),(22,vI s16.1)],(Qvw (oX false false 1 (.ref 5 0 s13.2.length)) (oR false 1 (eL true (AV.int .u64)) s13.2) x7 x9 x11)++[oR true 1 (AV.int .u64) s16.2],68⟩) (fun v=>(.exit 2,⟨[(0,.yld 4),(1,.ptr 1 0 0),(2,.ptr 2 0 0),(4,.ref 6 0 x11.length),(6,.ref 7 0 v.length),(13,vI (zw (1*2^min (zt (zn x11)) (IntKind.bits .i64)))),(14,vI s13.1)],(Qvw (oX false false 1 (.ref 5 0 s13.2.length)) (oR false 1 (eL true (AV.int .u64)) s13.2) x7 x9 x11)++[oR true 1 (AV.int .u64) v],68⟩)) (wz [5,6,7]) (fun s16=>?_) fun x30=>?_
   ·refine hbr 1 [23] (?_) ?_
    ·refine hbd fun a19 q20=>hop 2 (fun _=>Qq (enc:=zp) (l:=x11) (n:=s16.1) (w:=2) (ob:=6) (ro:=false) (nr:=true) (fl:=true) (a:=a19) kr kr gE q20) <| hop 0 (fun _=>Zn (enc:=zp) (l:=x11) (n:=s16.1) (w:=2) (ob:=6) (c:=0) (bx:=false) (ro:=false) (nr:=true) (fl:=true) (a:=a19) kr kr q20 gE) <| hoh 5 (fun _ _ h k=>Xm (k:=.i64) (k':=.i64) (a:=s13.1) (b:=s16.1) kr gE h k) <| hbr 2 [31] (?_) ?_
     ·refine hbd fun a23 q24=>hop 5 (fun _=>Qq (enc:=(AV.int .u64)) (l:=s16.2) (n:=a19.1) (w:=1) (ob:=7) (ro:=false) (nr:=true) (fl:=true) (a:=a23) kr kr gE q24) <| hop 0 (fun _=>Zn (enc:=(AV.int .u64)) (l:=s16.2) (n:=a19.1) (w:=1) (ob:=7) (c:=0) (bx:=false) (ro:=false) (nr:=true) (fl:=true) (a:=a23) kr kr q24 gE) <| hoh 2 (fun _ _ h k=>Zu (k:=.u64) (k':=.i64) (a:=1) (b:=a19.2) kr gE h k) <| hop 1 (fun _=>Qq (enc:=(AV.int .u64)) (l:=s16.2) (n:=a19.1) (w:=1) (ob:=7) (ro:=false) (nr:=true) (fl:=true) (a:=a23) kr kr gE q24) <| hop 0 (fun _=>Xd (enc:=(AV.int .u64)) (l:=s16.2) (n:=a19.1) (ob:=7) (w:=1) (bx:=false) (nr:=true) (fl:=true) (c:=0) (a:=a23) (a':=zv (zb a23 ||| zb (zv (1*2^min (zt a19.2) zk))).toNat) (v:=.int .u64 (zv (zb a23 ||| zb (zv (1*2^min (zt a19.2) zk))).toNat)) false kr kr q24 kr kr kr gE kr) <| hkl 0 [6,32] (ls s16.2 (zt a19.1) (zv (zb a23 ||| zb (zv (1*2^min (zt a19.2) zk))).toNat)) <| hnx 2 (wz [5,6,7])
     refine hbd fun a26 q27=>hop 5 (fun _=>Qq (enc:=(AV.int .u64)) (l:=s16.2) (n:=a19.2) (w:=1) (ob:=7) (ro:=false) (nr:=true) (fl:=true) (a:=a26) kr kr gE q27) <| hop 0 (fun _=>Zn (enc:=(AV.int .u64)) (l:=s16.2) (n:=a19.2) (w:=1) (ob:=7) (c:=0) (bx:=false) (ro:=false) (nr:=true) (fl:=true) (a:=a26) kr kr q27 gE) <| hoh 2 (fun _ _ h k=>Zu (k:=.u64) (k':=.i64) (a:=1) (b:=a19.1) kr gE h k) <| hop 1 (fun _=>Qq (enc:=(AV.int .u64)) (l:=s16.2) (n:=a19.2) (w:=1) (ob:=7) (ro:=false) (nr:=true) (fl:=true) (a:=a26) kr kr gE q27) <| hop 0 (fun _=>Xd (enc:=(AV.int .u64)) (l:=s16.2) (n:=a19.2) (ob:=7) (w:=1) (bx:=false) (nr:=true) (fl:=true) (c:=0) (a:=a26) (a':=zv (zb a26 ||| zb (zv (1*2^min (zt a19.1) zk))).toNat) (v:=.int .u64 (zv (zb a26 ||| zb (zv (1*2^min (zt a19.1) zk))).toNat)) false kr kr q27 kr kr kr gE kr) <| hkl 0 [6,42] (ls s16.2 (zt a19.2) (zv (zb a26 ||| zb (zv (1*2^min (zt a19.1) zk))).toNat)) <| hnx 2 (wz [5,6,7])
    refine hdx 1 (wz [5,6,7])
   refine hct 0 11 <| hcl 1 [F (AV.int .u64) x30] (g_equal_acyclic_ok x30) fun x31 _=>hbr 1 [54,55] (?_) ?_
   ·refine hcl 1 [F (AV.int .u64) x30] (us:=[eL true (AV.int .u64) x30]) (rv:=fun x35=>eL true (fun x:(Int × Int × Int)=>AV.agg [vI x.1,vI x.2.1,vI x.2.2]) x35) (ro:=fun x35=>[]) (fun x35 q36=>Za.froz (Xj x30 x35 q36) (Qr5 (w:=3) (bx:=false) (ro:=false) (enc:=(fun x:(Int × Int × Int)=>AV.agg [vI x.1,vI x.2.1,vI x.2.2])) (l:=x35) (fl:=true) rfl)) fun x35 _=>hcl 1 [F (fun x:(Int × Int × Int)=>AV.agg [vI x.1,vI x.2.1,vI x.2.2]) x9] (Vm x35 x9) fun x37 _=>hbr 2 [59,60,61] (?_) ?_
    ·refine hyl 2 <| hbs 3 [.lst true] false [F (AV.int .u64) x30] <| hoh 0 (fun _ _ h k=>V5 (enc:=(eL true (AV.int .u64))) (l:=s13.2) (m:=([x30]:(List (List Int)))) (w:=1) (bytes:=24) (ob:=5) (nr:=true) (fl:=false) (nr':=true) (fl':=false) (b:=.ref 8 0 1) (rds:=[8]) false kr kr kr kr gE kr h k) <| hnx 6 (wz [9,6])
    refine hnx 8 (wz [5,6])
   refine hnx 14 (wz [5,6])
  refine hdx 1 (wz [5])
 refine hso 1 (enc:=(eL true (AV.int .u64))) (k:=1) (o:=5) (fl:=false) (l:=x42) (fun n44 x43=>⟨[(5,.ptr 0 0 0),(20,.fn (.func 75) [] [.ptr 1 0 0,.ptr 2 0 0]),(26,.ref 5 0 n44),(27,.tup [])],[oX false false 1 (.ref 5 0 n44),(Qu6 x7),oX false false 1 (.ref 3 0 x9.length),(Quz x9),.dead,oR false 1 (eL true (AV.int .u64)) x43],29⟩) Q6w Q5k (fun x y r h=>Qel x y r h) Tryd.func58 Tryd.func26 fun x43=>hrt 4
theorem g_equal_Essential_ok (p0:(List Int)):Ct Tryd.prog 16 [eL true (AV.int .u64) p0] (Qf5 p0) (fun x=>.tup [.agg [vI x.1.N,.ref 0 0 x.1.Arrows.length,.ref 1 0 x.1.Lines.length],vI x.2]) (fun x=>[oR true 2 zp x.1.Arrows,oR true 2 zp x.1.Lines]):=by
 refine hfn [] Tryd.func16 <| hop 0 (fun _=>sgL false [] [] false gE) <| hcl 2 [] (g_equal_Check_ok p0) fun x1 _=>hbr 3 [8] (hwk 5 (wl [2,3] [0]) <| hwk 0 (Qy 0 0 1 2 true true gE) <| hwk 0 (Qy 0 0 2 2 true true gE) <| hrt 1) <| ?_
 refine hcl 2 [] (Qdy p0) fun x5 _=>hrt 3
theorem g_ref31_SamePairs_ok (p0:(List (Int × Int))) (p1:(List (Int × Int))):Ct Tryd.prog 33 [eL true zp p0,eL true zp p1] (Yj p0 p1) (fun x=>vB x) (fun x=>[]):=by
 refine hfn [] Tryd.func33 <| hop 2 (fun _=>Qn (enc:=zp) (l:=p0) (fl:=true) kr gE) <| hop 1 (fun _=>Qn (enc:=zp) (l:=p1) (fl:=true) kr gE) <| hbr 1 [10] (hrt 3) <| ?_
 refine hlp 2 (fun s3=>⟨[(0,eL true zp p0),(1,eL true zp p1),(5,vI s3)],[],26⟩) (fun x=>match x with | .inl v=>(.ret,⟨[(4,vB false)],[],26⟩) | .inr v=>(.exit 0,⟨[],[],26⟩)) (wz []) (fun s3=>?_) (hsm (fun x13=>?_) (fun x14=>?_))
 ·refine hop 2 (fun _=>Qn (enc:=zp) (l:=p0) (fl:=true) kr gE) <| hbr 1 [14] (?_) ?_
  ·refine hbd fun a6 q7=>hop 4 (fun _=>Q2 (enc:=zp) (l:=p0) (n:=s3) (fl:=true) (w:=2) (a:=a6) kr kr gE q7) <| hbd fun a8 q9=>hop 3 (fun _=>Q2 (enc:=zp) (l:=p1) (n:=s3) (fl:=true) (w:=2) (a:=a8) kr kr gE q9) <| hbr 2 [25] (hdx 2 (wz [])) <| ?_
   refine hnx 4 (wz [])
  refine hdx 1 (wz [])
 ·refine hrt 0
 refine hrt 2
theorem g_ref31_SameEssential_ok (p0:Aa) (p1:Aa):Ct Tryd.prog 18 [.agg [vI p0.N,eL true zp p0.Arrows,eL true zp p0.Lines],.agg [vI p1.N,eL true zp p1.Arrows,eL true zp p1.Lines]] (Qz p0 p1) (fun x=>vB x) (fun x=>[]):=by
 refine hfn [] Tryd.func18 <| hop 0 (fun _=>sgL false [] [] false gE) <| hop 0 (fun _=>sgL false [] [] false gE) <| hbr 7 [9,10] (?_) ?_
 ·refine hcl 4 [] (g_ref31_SamePairs_ok p0.Arrows p1.Arrows) fun x3 _=>hbr 2 [15,16,17] (hcl 4 [] (g_ref31_SamePairs_ok p0.Lines p1.Lines) fun x7 _=>hrt 3) <| ?_
  refine hrt 8
 refine hrt 15
theorem Qao (p0:(List Int)) (p1:(List (Int × Int))) (p2:(List (Int × Int))):Ct Tryd.prog 27 [eL true (AV.int .u64) p0,eL true zp p1,eL true zp p2] (Qad p0 p1 p2) (fun x=>vB x) (fun x=>[]):=by
 refine hfn [] Tryd.func27 <| hcl 2 [] (g_equal_Essential_ok p0) fun x1 _=>hop 3 (fun _=>sgL false [] [] false gE) <| hbr 5 [15,16] (?_) ?_
 ·refine hop 2 (fun _=>Qn (enc:=(AV.int .u64)) (l:=p0) (fl:=true) kr gE) <| hcl 3 [F zp x1.1.Arrows,F zp x1.1.Lines] (g_ref31_SameEssential_ok x1.1 (Aa.mk (zn p0) p1 p2)) fun x5 _=>hrt 3
 refine hrt 10
theorem Qft (p0:Int) (p1:(List Ac)) (p2:(List (Int × Int))) (p3:(List (Int × Int))):Ct Tryd.prog 28 [vI p0,eL true eTapi_Fact p1,eL true zp p2,eL true zp p3] (Qd9 p0 p1 p2 p3) (fun x=>vB x) (fun x=>[]):=by
 refine hfn [] Tryd.func28 <| hcl 3 [] (g_equal_Learn_ok p0 p1) fun x1 _=>hop 3 (fun _=>sgL false [] [] false gE) <| hbr 5 [18,19] (?_) ?_
 ·refine hcl 5 [F zp x1.1.Arrows,F zp x1.1.Lines] (g_ref31_SameEssential_ok x1.1 (Aa.mk p0 p2 p3)) fun x5 _=>hrt 3
 refine hrt 9
theorem Qei (p0:(List Int)):Ct Tryd.prog 31 [eL true (AV.int .u64) p0] (Qcg p0) (fun x=>.tup [.ref 0 0 x.1.length,vI x.2]) (fun x=>[oR true 3 (fun x:(Int × Int × Int)=>AV.agg [vI x.1,vI x.2.1,vI x.2.2]) x.1]):=by
 refine hfn [] Tryd.func31 <| hcl 3 [] (g_equal_Check_ok p0) fun x1 _=>hbr 3 [8] (hwk 4 (wl [2,3] []) <| hwk 0 (wk_nil 2 3 true true gE) <| hrt 1) <| ?_
 refine hcl 2 [] (Xj p0) fun x5 _=>hrt 3
theorem Qco (p0:(List (Int × Int × Int))) (p1:(List (Int × Int × Int))):Ct Tryd.prog 35 [eL true (fun x:(Int × Int × Int)=>AV.agg [vI x.1,vI x.2.1,vI x.2.2]) p0,eL true (fun x:(Int × Int × Int)=>AV.agg [vI x.1,vI x.2.1,vI x.2.2]) p1] (Vo p0 p1) (fun x=>vB x) (fun x=>[]):=by
 refine hfn [] Tryd.func35 <| hop 2 (fun _=>Qn (enc:=(fun x:(Int × Int × Int)=>AV.agg [vI x.1,vI x.2.1,vI x.2.2])) (l:=p0) (fl:=true) kr gE) <| hop 1 (fun _=>Qn (enc:=(fun x:(Int × Int × Int)=>AV.agg [vI x.1,vI x.2.1,vI x.2.2])) (l:=p1) (fl:=true) kr gE) <| hbr 1 [10] (hrt 3) <| ?_
 refine hlp 2 (fun s3=>⟨[(0,eL true (fun x:(Int × Int × Int)=>AV.agg [vI x.1,vI x.2.1,vI x.2.2]) p0),(1,eL true (fun x:(Int × Int × Int)=>AV.agg [vI x.1,vI x.2.1,vI x.2.2]) p1),(5,vI s3)],[],26⟩) (fun x=>match x with | .inl v=>(.ret,⟨[(4,vB false)],[],26⟩) | .inr v=>(.exit 0,⟨[],[],26⟩)) (wz []) (fun s3=>?_) (hsm (fun x13=>?_) (fun x14=>?_))
 ·refine hop 2 (fun _=>Qn (enc:=(fun x:(Int × Int × Int)=>AV.agg [vI x.1,vI x.2.1,vI x.2.2])) (l:=p0) (fl:=true) kr gE) <| hbr 1 [14] (?_) ?_
  ·refine hbd fun a6 q7=>hop 4 (fun _=>Q2 (enc:=(fun x:(Int × Int × Int)=>AV.agg [vI x.1,vI x.2.1,vI x.2.2])) (l:=p0) (n:=s3) (fl:=true) (w:=3) (a:=a6) kr kr gE q7) <| hbd fun a8 q9=>hop 3 (fun _=>Q2 (enc:=(fun x:(Int × Int × Int)=>AV.agg [vI x.1,vI x.2.1,vI x.2.2])) (l:=p1) (n:=s3) (fl:=true) (w:=3) (a:=a8) kr kr gE q9) <| hbr 2 [25] (hdx 2 (wz [])) <| ?_
   refine hnx 4 (wz [])
  refine hdx 1 (wz [])
 ·refine hrt 0
 refine hrt 2
theorem g_slices_Equal_uint_uint_ok (p0:(List Int)) (p1:(List Int)):Ct Tryd.prog 22 [eL true (AV.int .u64) p0,eL true (AV.int .u64) p1] (Qbv p0 p1) (fun x=>vB x) (fun x=>[]):=by
 refine hfn [] Tryd.func22 <| hop 2 (fun _=>Qn (enc:=(AV.int .u64)) (l:=p0) (fl:=true) kr gE) <| hop 1 (fun _=>Qn (enc:=(AV.int .u64)) (l:=p1) (fl:=true) kr gE) <| hbr 1 [10] (hrt 3) <| ?_
 refine hop 2 (fun _=>Qn (enc:=(AV.int .u64)) (l:=p0) (fl:=true) kr gE) <| hlp 1 (fun s3=>⟨[(0,eL true (AV.int .u64) p0),(1,eL true (AV.int .u64) p1),(12,vI (zn p0)),(13,vI s3)],[],26⟩) (fun x=>match x with | .inl v=>(.ret,⟨[(4,vB false)],[],26⟩) | .inr v=>(.exit 0,⟨[],[],26⟩)) (wz []) (fun s3=>?_) (hsm (fun x13=>?_) (fun x14=>?_))
 ·refine hbr 1 [14] (?_) ?_
  ·refine hbd fun a6 q7=>hop 6 (fun _=>Q2 (enc:=(AV.int .u64)) (l:=p0) (n:=s3) (fl:=true) (w:=1) (a:=a6) kr kr gE q7) <| hbd fun a8 q9=>hop 3 (fun _=>Q2 (enc:=(AV.int .u64)) (l:=p1) (n:=s3) (fl:=true) (w:=1) (a:=a8) kr kr gE q9) <| hbr 2 [24] (hdx 2 (wz [])) <| ?_
   refine hnx 3 (wz [])
  refine hdx 1 (wz [])
 ·refine hrt 0
 refine hrt 2
theorem g_law31_works_1_ok (p0:(List Int)) (p1:(List Int)):Ct Tryd.prog 48 [eL true (AV.int .u64) p0,eL true (AV.int .u64) p1] (Qh1 p0 p1) (fun x=>vB x) (fun x=>[]):=by
 refine hfn [] Tryd.func48 <| hcl 3 [] (g_slices_Equal_uint_uint_ok p0 p1) fun x1 _=>hrt 2
end
section
attribute [local irreducible] RW WP
noncomputable abbrev o40_46:AObj:=.row false true true true 1 [.int .u64 0,.int .u64 1,.int .u64 2]
noncomputable abbrev Q50:AObj:=.row false false true true 1 [.int .u64 0,.int .u64 5,.int .u64 0]
noncomputable abbrev Q7l (x1:((List (Int × Int)) × Int)):AObj:=oR true 2 zp x1.1
noncomputable abbrev Q7d (x3:((List (Int × Int)) × Int)):AObj:=oR true 2 zp x3.1
noncomputable abbrev Q6t (x5:((List (Int × Int × Int)) × Int)):AObj:=oR true 3 (fun x:(Int × Int × Int)=>AV.agg [vI x.1,vI x.2.1,vI x.2.2]) x5.1
noncomputable abbrev Q63 (x7:((List (Int × Int × Int)) × Int)):AObj:=oR true 3 (fun x:(Int × Int × Int)=>AV.agg [vI x.1,vI x.2.1,vI x.2.2]) x7.1
noncomputable abbrev Q70 (x13:((List (List Int)) × Int)):AObj:=oR false 1 (eL true (AV.int .u64)) x13.1
noncomputable abbrev o40_53:AObj:=.row false false true true 2 [.agg [vI 0,vI 1],.agg [vI 1,vI 2]]
noncomputable abbrev o40_54:AObj:=.row false false true true 3 [.agg [vI 0,vI 1,vI 2]]
noncomputable abbrev o40_55:AObj:=.row false false true true 2 [.agg [vI 0,vI 1],.agg [vI 2,vI 1]]
noncomputable abbrev o40_56:AObj:=.row false false true true 1 [.int .u64 0,.int .u64 5,.int .u64 0,.int .u64 2]
noncomputable abbrev o40_57:AObj:=.row false false true true 2 [.agg [vI 0,vI 1],.agg [vI 1,vI 3],.agg [vI 2,vI 1]]
noncomputable abbrev o40_58:AObj:=.row false false true true 3 [.agg [vI 0,vI 2,.int .u64 0]]
noncomputable abbrev o40_59:AObj:=.row false false true true 2 [.agg [vI 0,vI 1],.agg [vI 0,vI 2],.agg [vI 1,vI 2]]
noncomputable abbrev o40_60:AObj:=.row false true true true 1 [.int .u64 2,.int .u64 0,.int .u64 2]
noncomputable abbrev o40_61:AObj:=.row false true true true 1 [.int .u64 2,.int .u64 4,.int .u64 0]
noncomputable abbrev o40_62:AObj:=oR false 1 (eL true (AV.int .u64)) ([[0,1,2],[2,0,2],[2,4,0]]:(List (List Int)))
noncomputable abbrev l40_63 (x1 x3:((List (Int × Int)) × Int)) (x5 x7:((List (Int × Int × Int)) × Int)) (x13:((List (List Int)) × Int)) (x15 x17:((List Ac) × Int)):List AObj:=[o40_46,Q50,(Q7l x1),(Q7d x3),(Q6t x5),(Q63 x7),(Q70 x13),oR true 3 eTapi_Fact x15.1,oR true 3 eTapi_Fact x17.1]
theorem Qg6  : Ct Tryd.prog 12 [] (Qc2) (fun x=>vB x) (fun x=>[]):=by
 refine hfn [] Tryd.func12 <| hop 1 (fun _=>sgL false [] [] true gE) <| hop 0 (fun _=>sgL false [] [] true gE) <| hcl 3 [] (g_equal_Skeleton_ok [0,1,2]) fun x1 _=>hcl 6 [] (g_equal_Skeleton_ok [0,5,0]) fun x3 _=>hcl 6 [] (Qei [0,1,2]) fun x5 _=>hcl 6 [] (Qei [0,5,0]) fun x7 _=>hcl 7 [] (Qg9 [0,1,2] [0,5,0]) fun x9 _=>hop 6 (fun _=>sgL false [] [] true gE) <| ?_
 refine hcl 0 [] (Qg9 [0,1,2] [2,0,2]) fun x11 _=>hcl 6 [] (Qmk [0,1,2]) fun x13 _=>hcl 6 [] (Qhh [0,1,2]) fun x15 _=>hcl 6 [] (Qhh [0,5,0]) fun x17 _=>hop 7 (fun _=>sgL false [] [] true gE) <| hcl 0 [] (g_equal_Learn_ok 3 [(Ac.mk 0 2 0),(Ac.mk 0 2 2)]) fun x19 _=>hop 3 (fun _=>sgL false [] [] false gE) <| hcl 2 [] (us:=[vI 6,.nils]) (rv:=fun x21=>.tup [.agg [vI x21.1.N,.ref 0 0 x21.1.Arrows.length,.ref 1 0 x21.1.Lines.length],vI x21.2]) (ro:=fun x21=>[oR true 2 zp x21.1.Arrows,oR true 2 zp x21.1.Lines]) (fun x21 q22=>Za.args [[.keep],[.lst true]] (g_equal_Learn_ok 6 [] x21 q22)) fun x21 _=>hop 3 (fun _=>sgL false [] [] false gE) <| ?_
 refine hop 3 (fun _=>sgL false [] [] true gE) <| hcl 0 [] (g_equal_Learn_ok 2 [(Ac.mk 1 0 0)]) fun x23 _=>hop 3 (fun _=>sgL false [] [] false gE) <| hop 11 (fun _=>sgL false [] [] true gE) <| hlp 2 (fun s25=>⟨[(1,.ref 0 0 3),(2,.ref 1 0 3),(3,.ref 2 0 x1.1.length),(5,.ref 3 0 x3.1.length),(7,.ref 4 0 x5.1.length),(9,.ref 5 0 x7.1.length),(11,vB x9.1),(13,vB x11.1),(15,.ref 6 0 x13.1.length),(17,.ref 7 0 x15.1.length),(19,.ref 8 0 x17.1.length),(22,vI x19.2),(24,vI x21.2),(26,vI x23.2),(106,.ref 9 0 (([x1.2,x3.2,x5.2,x7.2,x9.2,x11.2,x13.2,x15.2,x17.2]:(List Int)).length)),(107,vI 9),(108,vI s25)],(l40_63 x1 x3 x5 x7 x13 x15 x17)++[oR true 1 eI ([x1.2,x3.2,x5.2,x7.2,x9.2,x11.2,x13.2,x15.2,x17.2]:(List Int))],228⟩) (fun x=>match x with | .inl v=>(.ret,⟨[(0,vB false)],[],228⟩) | .inr v=>(.exit 0,⟨[(1,.ref 0 0 3),(2,.ref 1 0 3),(3,.ref 2 0 x1.1.length),(5,.ref 3 0 x3.1.length),(7,.ref 4 0 x5.1.length),(9,.ref 5 0 x7.1.length),(11,vB x9.1),(13,vB x11.1),(15,.ref 6 0 x13.1.length),(17,.ref 7 0 x15.1.length),(19,.ref 8 0 x17.1.length),(22,vI x19.2),(24,vI x21.2),(26,vI x23.2)],(l40_63 x1 x3 x5 x7 x13 x15 x17),228⟩)) (wz [0,1,2,3,4,5,7,8,9,21]) (fun s25=>?_) (hsm (fun x33=>?_) (fun x34=>?_))
 ·refine hbr 1 [109] (?_) ?_
  ·refine hbd fun a28 q29=>hop 1 (fun _=>Qq (enc:=eI) (l:=([x1.2,x3.2,x5.2,x7.2,x9.2,x11.2,x13.2,x15.2,x17.2]:(List Int))) (n:=s25) (w:=1) (ob:=9) (ro:=false) (nr:=true) (fl:=true) (a:=a28) kr kr gE q29) <| hop 0 (fun _=>Zn (enc:=eI) (l:=([x1.2,x3.2,x5.2,x7.2,x9.2,x11.2,x13.2,x15.2,x17.2]:(List Int))) (n:=s25) (w:=1) (ob:=9) (c:=0) (bx:=false) (ro:=false) (nr:=true) (fl:=true) (a:=a28) kr kr q29 gE) <| hbr 3 [113] (hdx 2 (wz [])) <| ?_
   refine hnx 3 (wz [0,1,2,3,4,5,6,7,8,9])
  refine hdx 1 (wz [0,1,2,3,4,5,6,7,8])
 ·refine hrt 0
 refine hop 2 (fun _=>sgL false [] [] true gE) <| hcl 3 [F zp x1.1] (g_ref31_SamePairs_ok x1.1 [(0,1),(1,2)]) fun x35 _=>hbr 1 [120,121] (?_) ?_
 ·refine hcl 2 [F zp x3.1] (g_ref31_SamePairs_ok x3.1 [(0,1),(1,2)]) fun x39 _=>hbr 2 [124,125,126] (?_) ?_
  ·refine hbr 5 [129,130,131] (?_) ?_
   ·refine hop 2 (fun _=>sgL false [] [] true gE) <| hcl 0 [F (fun x:(Int × Int × Int)=>AV.agg [vI x.1,vI x.2.1,vI x.2.2]) x7.1] (Qco x7.1 [(0,1,2)]) fun x45 _=>hbr 2 [135,136,137] (?_) ?_
    ·refine hbr 4 [139,140,141] (?_) ?_
     ·refine hbr 3 [13,142,143,144] (?_) ?_
      ·refine hbr 4 [146,147,148] (?_) ?_
       ·refine hbr 4 [150,151,152] (?_) ?_
        ·refine hbr 6 [154,155,30,156,157] (?_) ?_
         ·refine hcl 2 [] (us:=[.lst true [.int .u64 0,.int .u64 1,.int .u64 2],.nils,.lst true [.agg [vI 0,vI 1],.agg [vI 1,vI 2]]]) (rv:=fun x59=>vB x59) (ro:=fun x59=>[]) (fun x59 q60=>Za.args [[.keep],[.lst true],[.keep]] (Qao [0,1,2] [] [(0,1),(1,2)] x59 q60)) fun x59 _=>hbr 2 [160,161,162] (?_) ?_
          ·refine hop 3 (fun _=>sgL false [] [] true gE) <| hcl 0 [] (us:=[.lst true [.int .u64 0,.int .u64 5,.int .u64 0],.lst true [.agg [vI 0,vI 1],.agg [vI 2,vI 1]],.nils]) (rv:=fun x63=>vB x63) (ro:=fun x63=>[]) (fun x63 q64=>Za.args [[.keep],[.keep],[.lst true]] (Qao [0,5,0] [(0,1),(2,1)] [] x63 q64)) fun x63 _=>hbr 2 [167,168,169] (?_) ?_
           ·refine hop 0 (fun _=>sgL false [] [] true gE) <| hop 3 (fun _=>sgL false [] [] true gE) <| hcl 0 [] (us:=[.lst true [.int .u64 0,.int .u64 5,.int .u64 0,.int .u64 2],.lst true [.agg [vI 0,vI 1],.agg [vI 1,vI 3],.agg [vI 2,vI 1]],.nils]) (rv:=fun x67=>vB x67) (ro:=fun x67=>[]) (fun x67 q68=>Za.args [[.keep],[.keep],[.lst true]] (Qao [0,5,0,2] [(0,1),(1,3),(2,1)] [] x67 q68)) fun x67 _=>hbr 2 [175,176,177] (?_) ?_
            ·refine hop 1 (fun _=>sgL false [] [] true gE) <| hop 2 (fun _=>sgL false [] [] true gE) <| hcl 0 [] (us:=[vI 3,.lst true [.agg [vI 0,vI 2,.int .u64 0]],.lst true [.agg [vI 0,vI 1],.agg [vI 2,vI 1]],.nils]) (rv:=fun x71=>vB x71) (ro:=fun x71=>[]) (fun x71 q72=>Za.args [[.keep],[.keep],[.keep],[.lst true]] (Qft 3 [(Ac.mk 0 2 0)] [(0,1),(2,1)] [] x71 q72)) fun x71 _=>hbr 2 [183,184,185] (?_) ?_
             ·refine hop 3 (fun _=>sgL false [] [] true gE) <| hcl 0 [] (us:=[vI 3,.nils,.nils,.lst true [.agg [vI 0,vI 1],.agg [vI 0,vI 2],.agg [vI 1,vI 2]]]) (rv:=fun x75=>vB x75) (ro:=fun x75=>[]) (fun x75 q76=>Za.args [[.keep],[.lst true],[.lst true],[.keep]] (Qft 3 [] [] [(0,1),(0,2),(1,2)] x75 q76)) fun x75 _=>hbr 4 [30,190,191,192,193] (?_) ?_
              ·refine hop 1 (fun _=>sgL false [] [] true gE) <| hop 0 (fun _=>sgL false [] [] true gE) <| hop 0 (fun _=>sgL false [] [] true gE) <| hbs 0 [.lst true] false [] <| hil 0 Tryd.func38 <| hbr 6 [14] (hrt 34) <| ?_
               refine hlp 4 (fun s81=>⟨[(1,.ref 20 0 (([[0,1,2],[2,0,2],[2,4,0]]:(List (List Int))).length)),(2,.fn (.func 48) [] []),(15,.ref 6 0 x13.1.length),(16,vI (zn x13.1)),(17,vI s81)],(l40_63 x1 x3 x5 x7 x13 x15 x17)++[o40_53,o40_54,o40_55,o40_56,o40_57,o40_58,o40_55,o40_59,o40_46,o40_60,o40_61,o40_62],32⟩) (fun x=>match x with | .inl v=>(.ret,⟨[(6,vB false)],(l40_63 x1 x3 x5 x7 x13 x15 x17)++[o40_53,o40_54,o40_55,o40_56,o40_57,o40_58,o40_55,o40_59,o40_46,o40_60,o40_61,o40_62],32⟩) | .inr v=>(.exit 0,⟨[],(l40_63 x1 x3 x5 x7 x13 x15 x17)++[o40_53,o40_54,o40_55,o40_56,o40_57,o40_58,o40_55,o40_59,o40_46,o40_60,o40_61,o40_62],32⟩)) (wz []) (fun s81=>?_) (hsm (fun x93=>?_) (fun x94=>?_))
               ·refine hbr 1 [18] (?_) ?_
                ·refine hbd fun a84 q85=>hop 2 (fun _=>Qq (enc:=(eL true (AV.int .u64))) (l:=x13.1) (n:=s81) (w:=1) (ob:=6) (ro:=false) (nr:=true) (fl:=false) (a:=a84) kr kr gE q85) <| hop 0 (fun _=>Zn (enc:=(eL true (AV.int .u64))) (l:=x13.1) (n:=s81) (w:=1) (ob:=6) (c:=0) (bx:=false) (ro:=false) (nr:=true) (fl:=false) (a:=a84) kr kr q85 gE) <| hbd fun a86 q87=>hop 4 (fun _=>Qq (enc:=(eL true (AV.int .u64))) (l:=([[0,1,2],[2,0,2],[2,4,0]]:(List (List Int)))) (n:=s81) (w:=1) (ob:=20) (ro:=false) (nr:=true) (fl:=false) (a:=a86) kr kr gE q87) <| hop 0 (fun _=>Zn (enc:=(eL true (AV.int .u64))) (l:=([[0,1,2],[2,0,2],[2,4,0]]:(List (List Int)))) (n:=s81) (w:=1) (ob:=20) (c:=0) (bx:=false) (ro:=false) (nr:=true) (fl:=false) (a:=a86) kr kr q87 gE) <| hcl 4 [] (g_law31_works_1_ok a84 a86) fun x88 _=>hbr 1 [30] (hdx 2 (wz [])) <| ?_
                 refine hnx 3 (wz [])
                refine hdx 1 (wz [])
               ·refine hrt 31
               refine hwk 1 (wl [6] []) <| hop 5 (fun _=>sgL false [] [] true gE) <| hcl 0 [F eTapi_Fact x15.1] (g_slices_Equal_api_Fact_api_Fact_ok x15.1 [(Ac.mk 0 2 2)]) fun x95 _=>hbr 2 [205,206,207] (?_) ?_
               ·refine hop 2 (fun _=>sgL false [] [] true gE) <| hcl 0 [F eTapi_Fact x17.1] (g_slices_Equal_api_Fact_api_Fact_ok x17.1 [(Ac.mk 0 2 0)]) fun x99 _=>hbr 4 [30,211,212,213,214] (?_) ?_
                ·refine hop 0 (fun _=>sgL false [] [] true gE) <| hcl 0 [] (g_equal_Check_ok [2,1]) fun x103 _=>hbr 3 [217,218,219] (?_) ?_
                 ·refine hop 0 (fun _=>sgL false [] [] true gE) <| hcl 0 [] (g_equal_Check_ok [1]) fun x107 _=>hbr 3 [222,223,224] (?_) ?_
                  ·refine hcl 0 [] (us:=[.nils]) (rv:=fun x111=>vI x111) (ro:=fun x111=>[]) (fun x111 q112=>Za.args [[.lst true]] (g_equal_Check_ok [] x111 q112)) fun x111 _=>hrt 4
                  refine hrt 5
                 refine hrt 10
                refine hrt 15
               refine hrt 23
              refine hrt 37
             refine hrt 46
            refine hrt 54
           refine hrt 62
          refine hrt 69
         refine hrt 74
        refine hrt 80
       refine hrt 84
      refine hrt 88
     refine hrt 91
    refine hrt 95
   refine hrt 101
  refine hrt 106
 refine hrt 111
noncomputable abbrev Q7a (p0:Ae) (p1:Int):Int:=(zw (1+(Int.tmod (zw (p0.N)) p1)))
noncomputable abbrev Ji (p0:Ae):AObj:=oX true true 8 (.agg [.int .u8 p0.N,.int .u8 p0.Order.1,.int .u8 p0.Order.2.1,.int .u8 p0.Order.2.2.1,.int .u8 p0.Order.2.2.2.1,.int .u8 p0.Order.2.2.2.2.1,.int .u8 p0.Order.2.2.2.2.2,.int .u16 p0.Edges])
noncomputable abbrev Q66:Nat×AV:=(2,.ptr 0 0 0)
noncomputable abbrev Jd (p0:Ae) (p1:Int):List (Nat×AV):=[Q66,(5,vI (Q7a p0 p1))]
theorem g_ref31_Draft_Graph_ok (p0:Ae) (p1:Int):Ct Tryd.prog 13 [.agg [.int .u8 p0.N,.int .u8 p0.Order.1,.int .u8 p0.Order.2.1,.int .u8 p0.Order.2.2.1,.int .u8 p0.Order.2.2.2.1,.int .u8 p0.Order.2.2.2.2.1,.int .u8 p0.Order.2.2.2.2.2,.int .u16 p0.Edges],vI p1] (Vt p0 p1) (fun x=>.ref 0 0 x.length) (fun x=>[oR true 1 (AV.int .u64) x]):=by
 refine hfn [] Tryd.func13 <| hoh 6 (fun _ _ h k=>Q7w (k:=.i64) (a:=zw (p0.N)) (b:=p1) kr gE h k) <| hlp 4 (fun s1=>⟨(Jd p0 p1)++[(6,.ref 1 0 s1.2.length),(7,vI s1.1)],[(Ji p0),oR true 1 eI s1.2],94⟩) (fun v=>(.exit 0,⟨(Jd p0 p1)++[(6,.ref 1 0 v.length)],[(Ji p0),oR true 1 eI v],94⟩)) (wk_trans (wk_gc (live:=[2,5,6,7]) (keep:=[0]) gE) (wk_trans (wk_nil 6 1 true true gE) (wk_gc (live:=[2,5,6,7]) (keep:=[0,1]) kr))) (fun s1=>?_) fun x101=>?_
 ·refine hbr 3 [22] (?_) ?_
  ·refine hqj 3 [7,20,25] [] [] (fun _=>?_) (fun _=>?_)
   ·refine hop 8 (fun _=>sgL false [] [] true gE) <| hoh 0 (fun _ _ h k=>V5 (enc:=eI) (l:=s1.2) (m:=([0]:(List Int))) (w:=1) (bytes:=8) (ob:=1) (nr:=true) (fl:=true) (nr':=true) (fl':=true) (b:=.ref 2 0 1) (rds:=[2]) false kr kr kr kr gE kr h k) <| hlp 3 (fun s5=>⟨(Jd p0 p1)++[(6,.ref 1 0 s5.2.length),(7,vI 0),(8,vI (Int.tmod (zw (p0.Order.1)) 1)),(9,vI s5.1)],[(Ji p0),oR true 1 eI s5.2],94⟩) (fun v=>(.exit 2,⟨(Jd p0 p1)++[(6,.ref 1 0 v.length),(7,vI 0),(8,vI (Int.tmod (zw (p0.Order.1)) 1))],[(Ji p0),oR true 1 eI v],94⟩)) (wz [0,3]) (fun s5=>?_) fun x14=>?_
    ·refine hbr 3 [39] (?_) ?_
     ·refine hbd fun a8 q9=>hop 6 (fun _=>Qq (enc:=eI) (l:=s5.2) (n:=zw (s5.1 - 1)) (w:=1) (ob:=1) (ro:=false) (nr:=true) (fl:=true) (a:=a8) kr kr gE q9) <| hop 0 (fun _=>Zn (enc:=eI) (l:=s5.2) (n:=zw (s5.1 - 1)) (w:=1) (ob:=1) (c:=0) (bx:=false) (ro:=false) (nr:=true) (fl:=true) (a:=a8) kr kr q9 gE) <| hbd fun a10 q11=>hop 0 (fun _=>Qq (enc:=eI) (l:=s5.2) (n:=s5.1) (w:=1) (ob:=1) (ro:=false) (nr:=true) (fl:=true) (a:=a10) kr kr gE q11) <| hop 0 (fun _=>Xd (enc:=eI) (l:=s5.2) (n:=s5.1) (ob:=1) (w:=1) (bx:=false) (nr:=true) (fl:=true) (c:=0) (a:=a10) (a':=a8) (v:=vI a8) false kr kr q11 kr kr kr gE kr) <| hkl 0 [6,42,44] (ls s5.2 (zt s5.1) a8) <| hnx 3 (wz [0,1])
     refine hdx 1 (wz [0,1])
    refine hbd fun a15 q16=>hop 3 (fun _=>Qq (enc:=eI) (l:=x14) (n:=Int.tmod (zw (p0.Order.1)) 1) (w:=1) (ob:=1) (ro:=false) (nr:=true) (fl:=true) (a:=a15) kr kr gE q16) <| hbd fun a17 q18=>hop 0 (fun _=>Xd (enc:=eI) (l:=x14) (n:=(Int.tmod (zw (p0.Order.1)) 1)) (ob:=1) (w:=1) (bx:=false) (nr:=true) (fl:=true) (c:=0) (a:=a17) (a':=0) (v:=vI 0) false kr kr q18 kr kr kr gE kr) <| hkl 0 [6,50] (ls x14 (zt (Int.tmod (zw (p0.Order.1)) 1)) 0) <| hnx 3 (wz [0,1])
   refine hqj 0 [7,20,25] [] [] (fun _=>?_) (fun _=>?_)
   ·refine hop 8 (fun _=>sgL false [] [] true gE) <| hoh 0 (fun _ _ h k=>V5 (enc:=eI) (l:=s1.2) (m:=([0]:(List Int))) (w:=1) (bytes:=8) (ob:=1) (nr:=true) (fl:=true) (nr':=true) (fl':=true) (b:=.ref 2 0 1) (rds:=[2]) false kr kr kr kr gE kr h k) <| hlp 3 (fun s21=>⟨(Jd p0 p1)++[(6,.ref 1 0 s21.2.length),(7,vI 1),(8,vI (Int.tmod (zw (p0.Order.2.1)) 2)),(9,vI s21.1)],[(Ji p0),oR true 1 eI s21.2],94⟩) (fun v=>(.exit 2,⟨(Jd p0 p1)++[(6,.ref 1 0 v.length),(7,vI 1),(8,vI (Int.tmod (zw (p0.Order.2.1)) 2))],[(Ji p0),oR true 1 eI v],94⟩)) (wz [0,3]) (fun s21=>?_) fun x30=>?_
    ·refine hbr 3 [39] (?_) ?_
     ·refine hbd fun a24 q25=>hop 6 (fun _=>Qq (enc:=eI) (l:=s21.2) (n:=zw (s21.1 - 1)) (w:=1) (ob:=1) (ro:=false) (nr:=true) (fl:=true) (a:=a24) kr kr gE q25) <| hop 0 (fun _=>Zn (enc:=eI) (l:=s21.2) (n:=zw (s21.1 - 1)) (w:=1) (ob:=1) (c:=0) (bx:=false) (ro:=false) (nr:=true) (fl:=true) (a:=a24) kr kr q25 gE) <| hbd fun a26 q27=>hop 0 (fun _=>Qq (enc:=eI) (l:=s21.2) (n:=s21.1) (w:=1) (ob:=1) (ro:=false) (nr:=true) (fl:=true) (a:=a26) kr kr gE q27) <| hop 0 (fun _=>Xd (enc:=eI) (l:=s21.2) (n:=s21.1) (ob:=1) (w:=1) (bx:=false) (nr:=true) (fl:=true) (c:=0) (a:=a26) (a':=a24) (v:=vI a24) false kr kr q27 kr kr kr gE kr) <| hkl 0 [6,42,44] (ls s21.2 (zt s21.1) a24) <| hnx 3 (wz [0,1])
     refine hdx 1 (wz [0,1])
    refine hbd fun a31 q32=>hop 3 (fun _=>Qq (enc:=eI) (l:=x30) (n:=Int.tmod (zw (p0.Order.2.1)) 2) (w:=1) (ob:=1) (ro:=false) (nr:=true) (fl:=true) (a:=a31) kr kr gE q32) <| hbd fun a33 q34=>hop 0 (fun _=>Xd (enc:=eI) (l:=x30) (n:=(Int.tmod (zw (p0.Order.2.1)) 2)) (ob:=1) (w:=1) (bx:=false) (nr:=true) (fl:=true) (c:=0) (a:=a33) (a':=1) (v:=vI 1) false kr kr q34 kr kr kr gE kr) <| hkl 0 [6,50] (ls x30 (zt (Int.tmod (zw (p0.Order.2.1)) 2)) 1) <| hnx 3 (wz [0,1])
   refine hqj 0 [7,20,25] [] [] (fun _=>?_) (fun _=>?_)
   ·refine hop 8 (fun _=>sgL false [] [] true gE) <| hoh 0 (fun _ _ h k=>V5 (enc:=eI) (l:=s1.2) (m:=([0]:(List Int))) (w:=1) (bytes:=8) (ob:=1) (nr:=true) (fl:=true) (nr':=true) (fl':=true) (b:=.ref 2 0 1) (rds:=[2]) false kr kr kr kr gE kr h k) <| hlp 3 (fun s37=>⟨(Jd p0 p1)++[(6,.ref 1 0 s37.2.length),(7,vI 2),(8,vI (Int.tmod (zw (p0.Order.2.2.1)) 3)),(9,vI s37.1)],[(Ji p0),oR true 1 eI s37.2],94⟩) (fun v=>(.exit 2,⟨(Jd p0 p1)++[(6,.ref 1 0 v.length),(7,vI 2),(8,vI (Int.tmod (zw (p0.Order.2.2.1)) 3))],[(Ji p0),oR true 1 eI v],94⟩)) (wz [0,3]) (fun s37=>?_) fun x46=>?_
    ·refine hbr 3 [39] (?_) ?_
     ·refine hbd fun a40 q41=>hop 6 (fun _=>Qq (enc:=eI) (l:=s37.2) (n:=zw (s37.1 - 1)) (w:=1) (ob:=1) (ro:=false) (nr:=true) (fl:=true) (a:=a40) kr kr gE q41) <| hop 0 (fun _=>Zn (enc:=eI) (l:=s37.2) (n:=zw (s37.1 - 1)) (w:=1) (ob:=1) (c:=0) (bx:=false) (ro:=false) (nr:=true) (fl:=true) (a:=a40) kr kr q41 gE) <| hbd fun a42 q43=>hop 0 (fun _=>Qq (enc:=eI) (l:=s37.2) (n:=s37.1) (w:=1) (ob:=1) (ro:=false) (nr:=true) (fl:=true) (a:=a42) kr kr gE q43) <| hop 0 (fun _=>Xd (enc:=eI) (l:=s37.2) (n:=s37.1) (ob:=1) (w:=1) (bx:=false) (nr:=true) (fl:=true) (c:=0) (a:=a42) (a':=a40) (v:=vI a40) false kr kr q43 kr kr kr gE kr) <| hkl 0 [6,42,44] (ls s37.2 (zt s37.1) a40) <| hnx 3 (wz [0,1])
     refine hdx 1 (wz [0,1])
    refine hbd fun a47 q48=>hop 3 (fun _=>Qq (enc:=eI) (l:=x46) (n:=Int.tmod (zw (p0.Order.2.2.1)) 3) (w:=1) (ob:=1) (ro:=false) (nr:=true) (fl:=true) (a:=a47) kr kr gE q48) <| hbd fun a49 q50=>hop 0 (fun _=>Xd (enc:=eI) (l:=x46) (n:=(Int.tmod (zw (p0.Order.2.2.1)) 3)) (ob:=1) (w:=1) (bx:=false) (nr:=true) (fl:=true) (c:=0) (a:=a49) (a':=2) (v:=vI 2) false kr kr q50 kr kr kr gE kr) <| hkl 0 [6,50] (ls x46 (zt (Int.tmod (zw (p0.Order.2.2.1)) 3)) 2) <| hnx 3 (wz [0,1])
   refine hqj 0 [7,20,25] [] [] (fun _=>?_) (fun _=>?_)
   ·refine hop 8 (fun _=>sgL false [] [] true gE) <| hoh 0 (fun _ _ h k=>V5 (enc:=eI) (l:=s1.2) (m:=([0]:(List Int))) (w:=1) (bytes:=8) (ob:=1) (nr:=true) (fl:=true) (nr':=true) (fl':=true) (b:=.ref 2 0 1) (rds:=[2]) false kr kr kr kr gE kr h k) <| hlp 3 (fun s53=>⟨(Jd p0 p1)++[(6,.ref 1 0 s53.2.length),(7,vI 3),(8,vI (Int.tmod (zw (p0.Order.2.2.2.1)) 4)),(9,vI s53.1)],[(Ji p0),oR true 1 eI s53.2],94⟩) (fun v=>(.exit 2,⟨(Jd p0 p1)++[(6,.ref 1 0 v.length),(7,vI 3),(8,vI (Int.tmod (zw (p0.Order.2.2.2.1)) 4))],[(Ji p0),oR true 1 eI v],94⟩)) (wz [0,3]) (fun s53=>?_) fun x62=>?_
    ·refine hbr 3 [39] (?_) ?_
     ·refine hbd fun a56 q57=>hop 6 (fun _=>Qq (enc:=eI) (l:=s53.2) (n:=zw (s53.1 - 1)) (w:=1) (ob:=1) (ro:=false) (nr:=true) (fl:=true) (a:=a56) kr kr gE q57) <| hop 0 (fun _=>Zn (enc:=eI) (l:=s53.2) (n:=zw (s53.1 - 1)) (w:=1) (ob:=1) (c:=0) (bx:=false) (ro:=false) (nr:=true) (fl:=true) (a:=a56) kr kr q57 gE) <| hbd fun a58 q59=>hop 0 (fun _=>Qq (enc:=eI) (l:=s53.2) (n:=s53.1) (w:=1) (ob:=1) (ro:=false) (nr:=true) (fl:=true) (a:=a58) kr kr gE q59) <| hop 0 (fun _=>Xd (enc:=eI) (l:=s53.2) (n:=s53.1) (ob:=1) (w:=1) (bx:=false) (nr:=true) (fl:=true) (c:=0) (a:=a58) (a':=a56) (v:=vI a56) false kr kr q59 kr kr kr gE kr) <| hkl 0 [6,42,44] (ls s53.2 (zt s53.1) a56) <| hnx 3 (wz [0,1])
     refine hdx 1 (wz [0,1])
    refine hbd fun a63 q64=>hop 3 (fun _=>Qq (enc:=eI) (l:=x62) (n:=Int.tmod (zw (p0.Order.2.2.2.1)) 4) (w:=1) (ob:=1) (ro:=false) (nr:=true) (fl:=true) (a:=a63) kr kr gE q64) <| hbd fun a65 q66=>hop 0 (fun _=>Xd (enc:=eI) (l:=x62) (n:=(Int.tmod (zw (p0.Order.2.2.2.1)) 4)) (ob:=1) (w:=1) (bx:=false) (nr:=true) (fl:=true) (c:=0) (a:=a65) (a':=3) (v:=vI 3) false kr kr q66 kr kr kr gE kr) <| hkl 0 [6,50] (ls x62 (zt (Int.tmod (zw (p0.Order.2.2.2.1)) 4)) 3) <| hnx 3 (wz [0,1])
   refine hqj 0 [7,20,25] [] [] (fun _=>?_) (fun _=>?_)
   ·refine hop 8 (fun _=>sgL false [] [] true gE) <| hoh 0 (fun _ _ h k=>V5 (enc:=eI) (l:=s1.2) (m:=([0]:(List Int))) (w:=1) (bytes:=8) (ob:=1) (nr:=true) (fl:=true) (nr':=true) (fl':=true) (b:=.ref 2 0 1) (rds:=[2]) false kr kr kr kr gE kr h k) <| hlp 3 (fun s69=>⟨(Jd p0 p1)++[(6,.ref 1 0 s69.2.length),(7,vI 4),(8,vI (Int.tmod (zw (p0.Order.2.2.2.2.1)) 5)),(9,vI s69.1)],[(Ji p0),oR true 1 eI s69.2],94⟩) (fun v=>(.exit 2,⟨(Jd p0 p1)++[(6,.ref 1 0 v.length),(7,vI 4),(8,vI (Int.tmod (zw (p0.Order.2.2.2.2.1)) 5))],[(Ji p0),oR true 1 eI v],94⟩)) (wz [0,3]) (fun s69=>?_) fun x78=>?_
    ·refine hbr 3 [39] (?_) ?_
     ·refine hbd fun a72 q73=>hop 6 (fun _=>Qq (enc:=eI) (l:=s69.2) (n:=zw (s69.1 - 1)) (w:=1) (ob:=1) (ro:=false) (nr:=true) (fl:=true) (a:=a72) kr kr gE q73) <| hop 0 (fun _=>Zn (enc:=eI) (l:=s69.2) (n:=zw (s69.1 - 1)) (w:=1) (ob:=1) (c:=0) (bx:=false) (ro:=false) (nr:=true) (fl:=true) (a:=a72) kr kr q73 gE) <| hbd fun a74 q75=>hop 0 (fun _=>Qq (enc:=eI) (l:=s69.2) (n:=s69.1) (w:=1) (ob:=1) (ro:=false) (nr:=true) (fl:=true) (a:=a74) kr kr gE q75) <| hop 0 (fun _=>Xd (enc:=eI) (l:=s69.2) (n:=s69.1) (ob:=1) (w:=1) (bx:=false) (nr:=true) (fl:=true) (c:=0) (a:=a74) (a':=a72) (v:=vI a72) false kr kr q75 kr kr kr gE kr) <| hkl 0 [6,42,44] (ls s69.2 (zt s69.1) a72) <| hnx 3 (wz [0,1])
     refine hdx 1 (wz [0,1])
    refine hbd fun a79 q80=>hop 3 (fun _=>Qq (enc:=eI) (l:=x78) (n:=Int.tmod (zw (p0.Order.2.2.2.2.1)) 5) (w:=1) (ob:=1) (ro:=false) (nr:=true) (fl:=true) (a:=a79) kr kr gE q80) <| hbd fun a81 q82=>hop 0 (fun _=>Xd (enc:=eI) (l:=x78) (n:=(Int.tmod (zw (p0.Order.2.2.2.2.1)) 5)) (ob:=1) (w:=1) (bx:=false) (nr:=true) (fl:=true) (c:=0) (a:=a81) (a':=4) (v:=vI 4) false kr kr q82 kr kr kr gE kr) <| hkl 0 [6,50] (ls x78 (zt (Int.tmod (zw (p0.Order.2.2.2.2.1)) 5)) 4) <| hnx 3 (wz [0,1])
   refine hqj 0 [7,20,25] [] [] (fun _=>?_) (fun _=>?_)
   ·refine hop 8 (fun _=>sgL false [] [] true gE) <| hoh 0 (fun _ _ h k=>V5 (enc:=eI) (l:=s1.2) (m:=([0]:(List Int))) (w:=1) (bytes:=8) (ob:=1) (nr:=true) (fl:=true) (nr':=true) (fl':=true) (b:=.ref 2 0 1) (rds:=[2]) false kr kr kr kr gE kr h k) <| hlp 3 (fun s85=>⟨(Jd p0 p1)++[(6,.ref 1 0 s85.2.length),(7,vI 5),(8,vI (Int.tmod (zw (p0.Order.2.2.2.2.2)) 6)),(9,vI s85.1)],[(Ji p0),oR true 1 eI s85.2],94⟩) (fun v=>(.exit 2,⟨(Jd p0 p1)++[(6,.ref 1 0 v.length),(7,vI 5),(8,vI (Int.tmod (zw (p0.Order.2.2.2.2.2)) 6))],[(Ji p0),oR true 1 eI v],94⟩)) (wz [0,3]) (fun s85=>?_) fun x94=>?_
    ·refine hbr 3 [39] (?_) ?_
     ·refine hbd fun a88 q89=>hop 6 (fun _=>Qq (enc:=eI) (l:=s85.2) (n:=zw (s85.1 - 1)) (w:=1) (ob:=1) (ro:=false) (nr:=true) (fl:=true) (a:=a88) kr kr gE q89) <| hop 0 (fun _=>Zn (enc:=eI) (l:=s85.2) (n:=zw (s85.1 - 1)) (w:=1) (ob:=1) (c:=0) (bx:=false) (ro:=false) (nr:=true) (fl:=true) (a:=a88) kr kr q89 gE) <| hbd fun a90 q91=>hop 0 (fun _=>Qq (enc:=eI) (l:=s85.2) (n:=s85.1) (w:=1) (ob:=1) (ro:=false) (nr:=true) (fl:=true) (a:=a90) kr kr gE q91) <| hop 0 (fun _=>Xd (enc:=eI) (l:=s85.2) (n:=s85.1) (ob:=1) (w:=1) (bx:=false) (nr:=true) (fl:=true) (c:=0) (a:=a90) (a':=a88) (v:=vI a88) false kr kr q91 kr kr kr gE kr) <| hkl 0 [6,42,44] (ls s85.2 (zt s85.1) a88) <| hnx 3 (wz [0,1])
     refine hdx 1 (wz [0,1])
    refine hbd fun a95 q96=>hop 3 (fun _=>Qq (enc:=eI) (l:=x94) (n:=Int.tmod (zw (p0.Order.2.2.2.2.2)) 6) (w:=1) (ob:=1) (ro:=false) (nr:=true) (fl:=true) (a:=a95) kr kr gE q96) <| hbd fun a97 q98=>hop 0 (fun _=>Xd (enc:=eI) (l:=x94) (n:=(Int.tmod (zw (p0.Order.2.2.2.2.2)) 6)) (ob:=1) (w:=1) (bx:=false) (nr:=true) (fl:=true) (c:=0) (a:=a97) (a':=5) (v:=vI 5) false kr kr q98 kr kr kr gE kr) <| hkl 0 [6,50] (ls x94 (zt (Int.tmod (zw (p0.Order.2.2.2.2.2)) 6)) 5) <| hnx 3 (wz [0,1])
   refine hnn
  refine hdx 1 (wz [0,1])
 refine hoh 1 (fun _ _ h k=>mkL (enc:=(AV.int .u64)) (z:=(0:Int)) (z0:=.int .u64 0) (n:=zw (1+(Int.tmod (zw (p0.N)) p1))) (m:=zw (1+(Int.tmod (zw (p0.N)) p1))) (w:=1) (bytes:=8) [] true kr kr gE kr h k) <| hlp 3 (fun s102=>⟨(Jd p0 p1)++[(6,.ref 1 0 x101.length),(10,.ref 2 0 s102.2.2.length),(11,vI s102.1),(12,vI s102.2.1)],[(Ji p0),oR true 1 eI x101,oR true 1 (AV.int .u64) s102.2.2],94⟩) (fun v=>(.exit 4,⟨[(10,.ref 0 0 v.length)],[oR true 1 (AV.int .u64) v],94⟩)) (wz [0,1,2]) (fun s102=>?_) fun x120=>?_
 ·refine hbr 3 [58] (?_) ?_
  ·refine hlp 2 (fun s105=>⟨(Jd p0 p1)++[(6,.ref 1 0 x101.length),(10,.ref 2 0 s105.2.2.length),(11,vI s105.1),(12,vI s102.2.1),(13,vI s105.2.1)],[(Ji p0),oR true 1 eI x101,oR true 1 (AV.int .u64) s105.2.2],94⟩) (fun v=>(.exit 6,⟨(Jd p0 p1)++[(6,.ref 1 0 x101.length),(10,.ref 2 0 v.2.length),(11,vI v.1),(12,vI s102.2.1)],[(Ji p0),oR true 1 eI x101,oR true 1 (AV.int .u64) v.2],94⟩)) (wz [0,1,2]) (fun s105=>?_) fun x118=>?_
   ·refine hbr 3 [63] (?_) ?_
    ·refine hoh 4 (fun _ _ h k=>Xm (k:=.u16) (k':=.i64) (a:=p0.Edges) (b:=s105.1) kr gE h k) <| hbr 2 [71] (?_) ?_
     ·refine hbd fun a110 q111=>hop 5 (fun _=>Qq (enc:=eI) (l:=x101) (n:=s102.2.1) (w:=1) (ob:=1) (ro:=false) (nr:=true) (fl:=true) (a:=a110) kr kr gE q111) <| hop 0 (fun _=>Zn (enc:=eI) (l:=x101) (n:=s102.2.1) (w:=1) (ob:=1) (c:=0) (bx:=false) (ro:=false) (nr:=true) (fl:=true) (a:=a110) kr kr q111 gE) <| hop 3 (fun _=>Qq (enc:=eI) (l:=x101) (n:=s102.2.1) (w:=1) (ob:=1) (ro:=false) (nr:=true) (fl:=true) (a:=a110) kr kr gE q111) <| hop 0 (fun _=>Zn (enc:=eI) (l:=x101) (n:=s102.2.1) (w:=1) (ob:=1) (c:=0) (bx:=false) (ro:=false) (nr:=true) (fl:=true) (a:=a110) kr kr q111 gE) <| hbd fun a112 q113=>hop 0 (fun _=>Qq (enc:=(AV.int .u64)) (l:=s105.2.2) (n:=a110) (w:=1) (ob:=2) (ro:=false) (nr:=true) (fl:=true) (a:=a112) kr kr gE q113) <| hop 0 (fun _=>Zn (enc:=(AV.int .u64)) (l:=s105.2.2) (n:=a110) (w:=1) (ob:=2) (c:=0) (bx:=false) (ro:=false) (nr:=true) (fl:=true) (a:=a112) kr kr q113 gE) <| hbd fun a114 q115=>?_
      refine hop 2 (fun _=>Qq (enc:=eI) (l:=x101) (n:=s105.2.1) (w:=1) (ob:=1) (ro:=false) (nr:=true) (fl:=true) (a:=a114) kr kr gE q115) <| hop 0 (fun _=>Zn (enc:=eI) (l:=x101) (n:=s105.2.1) (w:=1) (ob:=1) (c:=0) (bx:=false) (ro:=false) (nr:=true) (fl:=true) (a:=a114) kr kr q115 gE) <| hoh 0 (fun _ _ h k=>Zu (k:=.u64) (k':=.i64) (a:=1) (b:=a114) kr gE h k) <| hop 1 (fun _=>Qq (enc:=(AV.int .u64)) (l:=s105.2.2) (n:=a110) (w:=1) (ob:=2) (ro:=false) (nr:=true) (fl:=true) (a:=a112) kr kr gE q113) <| hop 0 (fun _=>Xd (enc:=(AV.int .u64)) (l:=s105.2.2) (n:=a110) (ob:=2) (w:=1) (bx:=false) (nr:=true) (fl:=true) (c:=0) (a:=a112) (a':=zv (zb a112 ||| zb (zv (1*2^min (zt a114) zk))).toNat) (v:=.int .u64 (zv (zb a112 ||| zb (zv (1*2^min (zt a114) zk))).toNat)) false kr kr q113 kr kr kr gE kr) <| hkl 0 [10,72,77] (ls s105.2.2 (zt a110) (zv (zb a112 ||| zb (zv (1*2^min (zt a114) zk))).toNat)) <| hnx 6 (wz [0,1,2])
     refine hnx 7 (wz [0,1,2])
    refine hdx 1 (wz [0,1,2])
   refine hnx 3 (wz [0,1,2])
  refine hdx 1 (wz [2])
 refine hrt 3
theorem g_ref31_In_ok (p0:Int) (p1:Int):Ct Tryd.prog 24 [.int .u64 p0,vI p1] (Q7 p0 p1) (fun x=>vB x) (fun x=>[]):=by
 refine hfn [] Tryd.func24 <| hoh 3 (fun _ _ h k=>Xm (k:=.u64) (k':=.i64) (a:=p0) (b:=p1) kr gE h k) <| hrt 4
theorem Qd0 (p0:(List Int)) (p1:Int) (p2:Int):Ct Tryd.prog 61 [eL true (AV.int .u64) p0,vI p1,vI p2] (Qaf p0 p1 p2) (fun x=>vB x) (fun x=>[]):=by
 refine hfn [] Tryd.func61 <| hbd fun a1 q2=>hop 3 (fun _=>Q2 (enc:=(AV.int .u64)) (l:=p0) (n:=p1) (fl:=true) (w:=1) (a:=a1) kr kr gE q2) <| hcl 2 [] (g_ref31_In_ok a1 p2) fun x3 _=>hbr 1 [12,13] (hrt 9) <| ?_
 refine hbd fun a7 q8=>hop 2 (fun _=>Q2 (enc:=(AV.int .u64)) (l:=p0) (n:=p2) (fl:=true) (w:=1) (a:=a7) kr kr gE q8) <| hcl 2 [] (g_ref31_In_ok a7 p1) fun x9 _=>hrt 3
theorem g_ref31_Skeleton_ok (p0:(List Int)):Ct Tryd.prog 34 [eL true (AV.int .u64) p0] (Qap p0) (fun x=>.ref 0 0 x.length) (fun x=>[oR true 2 zp x]):=by
 refine hfn [] Tryd.func34 <| hlp 3 (fun s1=>⟨[(0,eL true (AV.int .u64) p0),(3,.ref 0 0 s1.2.length),(4,vI s1.1)],[oR true 2 zp s1.2],31⟩) (fun v=>(.exit 0,⟨[(3,.ref 0 0 v.length)],[oR true 2 zp v],31⟩)) (wk_trans (wk_gc (live:=[0,3,4]) (keep:=[]) gE) (wk_trans (wk_nil 3 2 true true gE) (wk_gc (live:=[0,3,4]) (keep:=[0]) kr))) (fun s1=>?_) fun x14=>?_
 ·refine hop 2 (fun _=>Qn (enc:=(AV.int .u64)) (l:=p0) (fl:=true) kr gE) <| hbr 1 [9] (?_) ?_
  ·refine hlp 4 (fun s4=>⟨[(0,eL true (AV.int .u64) p0),(3,.ref 0 0 s4.2.length),(4,vI s1.1),(5,vI s4.1)],[oR true 2 zp s4.2],31⟩) (fun v=>(.exit 2,⟨[(0,eL true (AV.int .u64) p0),(3,.ref 0 0 v.length),(4,vI s1.1)],[oR true 2 zp v],31⟩)) (wz [0]) (fun s4=>?_) fun x12=>?_
   ·refine hop 2 (fun _=>Qn (enc:=(AV.int .u64)) (l:=p0) (fl:=true) kr gE) <| hbr 1 [17] (?_) ?_
    ·refine hcl 4 [] (Qd0 p0 s1.1 s4.1) fun x7 _=>hbr 0 [23] (?_) ?_
     ·refine hop 5 (fun _=>sgL false [] [] true gE) <| hoh 0 (fun _ _ h k=>V5 (enc:=zp) (l:=s4.2) (m:=([(s1.1,s4.1)]:(List (Int × Int)))) (w:=2) (bytes:=16) (ob:=0) (nr:=true) (fl:=true) (nr':=true) (fl':=true) (b:=.ref 1 0 1) (rds:=[1]) false kr kr kr kr gE kr h k) <| hnx 4 (wz [2])
     refine hnx 4 (wz [0])
    refine hdx 1 (wz [0])
   refine hnx 3 (wz [0])
  refine hdx 1 (wz [0])
 refine hrt 3
theorem g_ref31_Above_ok (p0:(List Int)) (p1:Int):Ct Tryd.prog 60 [eL true (AV.int .u64) p0,.int .u64 p1] (Qaw p0 p1) (fun x=>.int .u64 x) (fun x=>[]):=by
 refine hfn [] Tryd.func60 <| hlp 2 (fun s1=>⟨[(0,eL true (AV.int .u64) p0),(1,.int .u64 s1.1),(5,vI s1.2)],[],29⟩) (fun v=>(.exit 0,⟨[(1,.int .u64 v)],[],29⟩)) (wz []) (fun s1=>?_) fun x16=>?_
 ·refine hop 2 (fun _=>Qn (enc:=(AV.int .u64)) (l:=p0) (fl:=true) kr gE) <| hbr 1 [10] (?_) ?_
  ·refine hlp 2 (fun s4=>⟨[(0,eL true (AV.int .u64) p0),(1,.int .u64 s4.1),(5,vI s1.2),(6,vI s4.2)],[],29⟩) (fun v=>(.exit 2,⟨[(0,eL true (AV.int .u64) p0),(1,.int .u64 v),(5,vI s1.2)],[],29⟩)) (wz []) (fun s4=>?_) fun x14=>?_
   ·refine hop 2 (fun _=>Qn (enc:=(AV.int .u64)) (l:=p0) (fl:=true) kr gE) <| hbr 1 [16] (?_) ?_
    ·refine hcl 3 [] (g_ref31_In_ok s4.1 s4.2) fun x7 _=>hbr 0 [21] (hbd fun a11 q12=>hop 4 (fun _=>Q2 (enc:=(AV.int .u64)) (l:=p0) (n:=s4.2) (fl:=true) (w:=1) (a:=a11) kr kr gE q12) <| hnx 6 (wz [])) <| ?_
     refine hnx 4 (wz [])
    refine hdx 1 (wz [])
   refine hnx 3 (wz [])
  refine hdx 1 (wz [])
 refine hrt 3
theorem Qog (p0:(List Int)) (p1:Int):Ct Tryd.prog 32 [eL true (AV.int .u64) p0,vI p1] (Qcx p0 p1) (fun x=>vB x) (fun x=>[]):=by
 refine hfn [] Tryd.func32 <| hop 2 (fun _=>Qn (enc:=(AV.int .u64)) (l:=p0) (fl:=true) kr gE) <| hbr 2 [9,10] (hrt 8) <| ?_
 refine hop 1 (fun _=>Qn (enc:=(AV.int .u64)) (l:=p0) (fl:=true) kr gE) <| hbr 3 [14,15] (hrt 3) <| ?_
 refine hlp 2 (fun s5=>⟨[(0,eL true (AV.int .u64) p0),(5,vI s5)],[],44⟩) (fun x=>match x with | .inl v=>(.ret,⟨[(4,vB false)],[],44⟩) | .inr v=>(.exit 0,⟨[(0,eL true (AV.int .u64) p0)],[],44⟩)) (wz []) (fun s5=>?_) (hsm (fun x13=>?_) (fun x14=>?_))
 ·refine hop 2 (fun _=>Qn (enc:=(AV.int .u64)) (l:=p0) (fl:=true) kr gE) <| hbr 1 [19] (?_) ?_
  ·refine hbd fun a8 q9=>hop 3 (fun _=>Q2 (enc:=(AV.int .u64)) (l:=p0) (n:=s5) (fl:=true) (w:=1) (a:=a8) kr kr gE q9) <| hop 2 (fun _=>Qn (enc:=(AV.int .u64)) (l:=p0) (fl:=true) kr gE) <| hoh 0 (fun _ _ h k=>Xm (k:=.u64) (k':=.i64) (a:=a8) (b:=(zn p0)) kr gE h k) <| hbr 1 [29] (hdx 2 (wz [])) <| ?_
   refine hnx 4 (wz [])
  refine hdx 1 (wz [])
 ·refine hrt 0
 refine hlp 1 (fun s15=>⟨[(0,eL true (AV.int .u64) p0),(6,vI s15)],[],44⟩) (fun x=>match x with | .inl v=>(.ret,⟨[(4,vB false)],[],44⟩) | .inr v=>(.exit 2,⟨[],[],44⟩)) (wz []) (fun s15=>?_) (hsm (fun x27=>?_) (fun x28=>?_))
 ·refine hop 2 (fun _=>Qn (enc:=(AV.int .u64)) (l:=p0) (fl:=true) kr gE) <| hbr 1 [33] (?_) ?_
  ·refine hbd fun a18 q19=>hop 4 (fun _=>Q2 (enc:=(AV.int .u64)) (l:=p0) (n:=s15) (fl:=true) (w:=1) (a:=a18) kr kr gE q19) <| hcl 1 [] (g_ref31_Above_ok p0 a18) fun x20 _=>hcl 1 [] (g_ref31_In_ok x20 s15) fun x22 _=>hbr 0 [43] (hdx 2 (wz [])) <| ?_
   refine hnx 4 (wz [])
  refine hdx 1 (wz [])
 ·refine hrt 0
 refine hrt 2
theorem g_ref31_Colliders_ok (p0:(List Int)):Ct Tryd.prog 36 [eL true (AV.int .u64) p0] (Jx p0) (fun x=>.ref 0 0 x.length) (fun x=>[oR true 3 (fun x:(Int × Int × Int)=>AV.agg [vI x.1,vI x.2.1,vI x.2.2]) x]):=by
 refine hfn [] Tryd.func36 <| hlp 3 (fun s1=>⟨[(0,eL true (AV.int .u64) p0),(3,.ref 0 0 s1.2.length),(4,vI s1.1)],[oR true 3 (fun x:(Int × Int × Int)=>AV.agg [vI x.1,vI x.2.1,vI x.2.2]) s1.2],56⟩) (fun v=>(.exit 0,⟨[(3,.ref 0 0 v.length)],[oR true 3 (fun x:(Int × Int × Int)=>AV.agg [vI x.1,vI x.2.1,vI x.2.2]) v],56⟩)) (wk_trans (wk_gc (live:=[0,3,4]) (keep:=[]) gE) (wk_trans (wk_nil 3 3 true true gE) (wk_gc (live:=[0,3,4]) (keep:=[0]) kr))) (fun s1=>?_) fun x29=>?_
 ·refine hop 2 (fun _=>Qn (enc:=(AV.int .u64)) (l:=p0) (fl:=true) kr gE) <| hbr 1 [10] (?_) ?_
  ·refine hlp 2 (fun s4=>⟨[(0,eL true (AV.int .u64) p0),(3,.ref 0 0 s4.2.length),(4,vI s1.1),(5,vI s4.1)],[oR true 3 (fun x:(Int × Int × Int)=>AV.agg [vI x.1,vI x.2.1,vI x.2.2]) s4.2],56⟩) (fun v=>(.exit 2,⟨[(0,eL true (AV.int .u64) p0),(3,.ref 0 0 v.length),(4,vI s1.1)],[oR true 3 (fun x:(Int × Int × Int)=>AV.agg [vI x.1,vI x.2.1,vI x.2.2]) v],56⟩)) (wz [0]) (fun s4=>?_) fun x27=>?_
   ·refine hop 2 (fun _=>Qn (enc:=(AV.int .u64)) (l:=p0) (fl:=true) kr gE) <| hbr 1 [16] (?_) ?_
    ·refine hlp 4 (fun s7=>⟨[(0,eL true (AV.int .u64) p0),(3,.ref 0 0 s7.2.length),(4,vI s1.1),(5,vI s4.1),(6,vI s7.1)],[oR true 3 (fun x:(Int × Int × Int)=>AV.agg [vI x.1,vI x.2.1,vI x.2.2]) s7.2],56⟩) (fun v=>(.exit 4,⟨[(0,eL true (AV.int .u64) p0),(3,.ref 0 0 v.length),(4,vI s1.1),(5,vI s4.1)],[oR true 3 (fun x:(Int × Int × Int)=>AV.agg [vI x.1,vI x.2.1,vI x.2.2]) v],56⟩)) (wz [0]) (fun s7=>?_) fun x25=>?_
     ·refine hop 2 (fun _=>Qn (enc:=(AV.int .u64)) (l:=p0) (fl:=true) kr gE) <| hbr 1 [24] (?_) ?_
      ·refine hbd fun a10 q11=>hop 3 (fun _=>Q2 (enc:=(AV.int .u64)) (l:=p0) (n:=s4.1) (fl:=true) (w:=1) (a:=a10) kr kr gE q11) <| hcl 2 [] (g_ref31_In_ok a10 s1.1) fun x12 _=>hbr 1 [32,33] (?_) ?_
       ·refine hop 2 (fun _=>Q2 (enc:=(AV.int .u64)) (l:=p0) (n:=s4.1) (fl:=true) (w:=1) (a:=a10) kr kr gE q11) <| hcl 2 [] (g_ref31_In_ok a10 s7.1) fun x16 _=>hbr 2 [39,40,41] (?_) ?_
        ·refine hcl 3 [] (Qd0 p0 s1.1 s7.1) fun x20 _=>hbr 2 [46,47] (?_) ?_
         ·refine hop 6 (fun _=>sgL false [] [] true gE) <| hoh 0 (fun _ _ h k=>V5 (enc:=(fun x:(Int × Int × Int)=>AV.agg [vI x.1,vI x.2.1,vI x.2.2])) (l:=s7.2) (m:=([(s1.1,s4.1,s7.1)]:(List (Int × Int × Int)))) (w:=3) (bytes:=24) (ob:=0) (nr:=true) (fl:=true) (nr':=true) (fl':=true) (b:=.ref 1 0 1) (rds:=[1]) false kr kr kr kr gE kr h k) <| hnx 4 (wz [2])
         refine hnx 4 (wz [0])
        refine hnx 10 (wz [0])
       refine hnx 18 (wz [0])
      refine hdx 1 (wz [0])
     refine hnx 3 (wz [0])
    refine hdx 1 (wz [0])
   refine hnx 3 (wz [0])
  refine hdx 1 (wz [0])
 refine hrt 3
end
section
attribute [local irreducible] RW WP
theorem Qem (p0:Int) (p1:(List (Int × Int))):Ct Tryd.prog 62 [vI p0,eL true zp p1] (Yx p0 p1) (fun x=>.ref 0 0 x.length) (fun x=>[oR false 1 (eL true (AV.int .u64)) x]):=by
 refine hfn [] Tryd.func62 <| hlp 3 (fun s1=>⟨[(0,vI p0),(1,eL true zp p1),(5,.ref 0 0 s1.2.length),(6,vI s1.1)],[oR false 1 (eL true (AV.int .u64)) s1.2],61⟩) (fun v=>(.exit 0,⟨[(5,.ref 0 0 v.length)],[oR false 1 (eL true (AV.int .u64)) v],61⟩)) (wk_trans (wk_gc (live:=[0,1,5,6]) (keep:=[]) gE) (wk_trans (wk_nil 5 1 true false gE) (wk_gc (live:=[0,1,5,6]) (keep:=[0]) kr))) (fun s1=>?_) fun x24=>?_
 ·refine hop 2 (fun _=>Qn (enc:=zp) (l:=p1) (fl:=true) kr gE) <| hoh 0 (fun _ _ h k=>Zu (k:=.i64) (k':=.i64) (a:=1) (b:=(zn p1)) kr gE h k) <| hbr 1 [15] (?_) ?_
  ·refine hoh 2 (fun _ _ h k=>mkL (enc:=(AV.int .u64)) (z:=(0:Int)) (z0:=.int .u64 0) (n:=p0) (m:=p0) (w:=1) (bytes:=8) [] true kr kr gE kr h k) <| hlp 2 (fun s4=>⟨[(0,vI p0),(1,eL true zp p1),(5,.ref 0 0 s1.2.length),(6,vI s1.1),(7,.ref 1 0 s4.2.length),(8,vI s4.1)],[oR false 1 (eL true (AV.int .u64)) s1.2,oR true 1 (AV.int .u64) s4.2],61⟩) (fun v=>(.exit 2,⟨[(0,vI p0),(1,eL true zp p1),(5,.ref 0 0 s1.2.length),(6,vI s1.1),(7,.ref 1 0 v.length)],[oR false 1 (eL true (AV.int .u64)) s1.2,oR true 1 (AV.int .u64) v],61⟩)) (wz [0,1]) (fun s4=>?_) fun x18=>?_
   ·refine hop 2 (fun _=>Qn (enc:=zp) (l:=p1) (fl:=true) kr gE) <| hbr 1 [23] (?_) ?_
    ·refine hbd fun a7 q8=>hop 4 (fun _=>Q2 (enc:=zp) (l:=p1) (n:=s4.1) (fl:=true) (w:=2) (a:=a7) kr kr gE q8) <| hop 4 (fun _=>Q2 (enc:=zp) (l:=p1) (n:=s4.1) (fl:=true) (w:=2) (a:=a7) kr kr gE q8) <| hoh 6 (fun _ _ h k=>Xm (k:=.i64) (k':=.i64) (a:=s1.1) (b:=s4.1) kr gE h k) <| hbr 2 [40] (?_) ?_
     ·refine hbd fun a11 q12=>hop 10 (fun _=>Qq (enc:=(AV.int .u64)) (l:=s4.2) (n:=a7.1) (w:=1) (ob:=1) (ro:=false) (nr:=true) (fl:=true) (a:=a11) kr kr gE q12) <| hop 0 (fun _=>Zn (enc:=(AV.int .u64)) (l:=s4.2) (n:=a7.1) (w:=1) (ob:=1) (c:=0) (bx:=false) (ro:=false) (nr:=true) (fl:=true) (a:=a11) kr kr q12 gE) <| hoh 1 (fun _ _ h k=>Zu (k:=.u64) (k':=.i64) (a:=1) (b:=a7.2) kr gE h k) <| hop 1 (fun _=>Qq (enc:=(AV.int .u64)) (l:=s4.2) (n:=a7.1) (w:=1) (ob:=1) (ro:=false) (nr:=true) (fl:=true) (a:=a11) kr kr gE q12) <| hop 0 (fun _=>Xd (enc:=(AV.int .u64)) (l:=s4.2) (n:=a7.1) (ob:=1) (w:=1) (bx:=false) (nr:=true) (fl:=true) (c:=0) (a:=a11) (a':=zv (zb a11 ||| zb (zv (1*2^min (zt a7.2) zk))).toNat) (v:=.int .u64 (zv (zb a11 ||| zb (zv (1*2^min (zt a7.2) zk))).toNat)) false kr kr q12 kr kr kr gE kr) <| hkl 0 [7,43,45] (ls s4.2 (zt a7.1) (zv (zb a11 ||| zb (zv (1*2^min (zt a7.2) zk))).toNat)) <| hnx 3 (wz [0,1])
     refine hbd fun a14 q15=>hop 6 (fun _=>Qq (enc:=(AV.int .u64)) (l:=s4.2) (n:=a7.2) (w:=1) (ob:=1) (ro:=false) (nr:=true) (fl:=true) (a:=a14) kr kr gE q15) <| hop 0 (fun _=>Zn (enc:=(AV.int .u64)) (l:=s4.2) (n:=a7.2) (w:=1) (ob:=1) (c:=0) (bx:=false) (ro:=false) (nr:=true) (fl:=true) (a:=a14) kr kr q15 gE) <| hoh 1 (fun _ _ h k=>Zu (k:=.u64) (k':=.i64) (a:=1) (b:=a7.1) kr gE h k) <| hop 1 (fun _=>Qq (enc:=(AV.int .u64)) (l:=s4.2) (n:=a7.2) (w:=1) (ob:=1) (ro:=false) (nr:=true) (fl:=true) (a:=a14) kr kr gE q15) <| hop 0 (fun _=>Xd (enc:=(AV.int .u64)) (l:=s4.2) (n:=a7.2) (ob:=1) (w:=1) (bx:=false) (nr:=true) (fl:=true) (c:=0) (a:=a14) (a':=zv (zb a14 ||| zb (zv (1*2^min (zt a7.1) zk))).toNat) (v:=.int .u64 (zv (zb a14 ||| zb (zv (1*2^min (zt a7.1) zk))).toNat)) false kr kr q15 kr kr kr gE kr) <| hkl 0 [7,43,45] (ls s4.2 (zt a7.2) (zv (zb a14 ||| zb (zv (1*2^min (zt a7.1) zk))).toNat)) <| hnx 3 (wz [0,1])
    refine hdx 1 (wz [0,1])
   refine hcl 2 [F (AV.int .u64) x18] (Qog x18 p0) fun x19 _=>hbr 0 [55] (?_) ?_
   ·refine hbs 3 [.lst true] false [F (AV.int .u64) x18] <| hoh 0 (fun _ _ h k=>V5 (enc:=(eL true (AV.int .u64))) (l:=s1.2) (m:=([x18]:(List (List Int)))) (w:=1) (bytes:=24) (ob:=0) (nr:=true) (fl:=false) (nr':=true) (fl':=false) (b:=.ref 2 0 1) (rds:=[2]) false kr kr kr kr gE kr h k) <| hnx 4 (wz [3])
   refine hnx 4 (wz [0])
  refine hdx 1 (wz [0])
 refine hrt 3
theorem g_ref31_Before_ok (p0:(List Int)) (p1:(List Int)):Ct Tryd.prog 63 [eL true (AV.int .u64) p0,eL true (AV.int .u64) p1] (Qcc p0 p1) (fun x=>vB x) (fun x=>[]):=by
 refine hfn [] Tryd.func63 <| hlp 2 (fun s1=>⟨[(0,eL true (AV.int .u64) p0),(1,eL true (AV.int .u64) p1),(5,vI s1)],[],30⟩) (fun x=>match x with | .inl v=>(.ret,⟨[(4,vB v)],[],30⟩) | .inr v=>(.exit 0,⟨[],[],30⟩)) (wz []) (fun s1=>?_) (hsm (fun x11=>?_) (fun x12=>?_))
 ·refine hop 2 (fun _=>Qn (enc:=(AV.int .u64)) (l:=p0) (fl:=true) kr gE) <| hbr 1 [9] (?_) ?_
  ·refine hbd fun a4 q5=>hop 4 (fun _=>Q2 (enc:=(AV.int .u64)) (l:=p0) (n:=s1) (fl:=true) (w:=1) (a:=a4) kr kr gE q5) <| hbd fun a6 q7=>hop 3 (fun _=>Q2 (enc:=(AV.int .u64)) (l:=p1) (n:=s1) (fl:=true) (w:=1) (a:=a6) kr kr gE q7) <| hbr 2 [20] (?_) ?_
   ·refine hop 4 (fun _=>Q2 (enc:=(AV.int .u64)) (l:=p0) (n:=s1) (fl:=true) (w:=1) (a:=a4) kr kr gE q5) <| hop 3 (fun _=>Q2 (enc:=(AV.int .u64)) (l:=p1) (n:=s1) (fl:=true) (w:=1) (a:=a6) kr kr gE q7) <| hdx 3 (wz [])
   refine hnx 4 (wz [])
  refine hdx 1 (wz [])
 ·refine hrt 0
 refine hrt 2
end
section
attribute [local irreducible] RW WP
noncomputable abbrev Qmw (x1:(List (Int × Int × Int))):AObj:=oR true 3 (fun x:(Int × Int × Int)=>AV.agg [vI x.1,vI x.2.1,vI x.2.2]) x1
noncomputable abbrev Qls (x5:(List (List Int))):AObj:=oR false 1 (eL true (AV.int .u64)) x5
theorem g_ref31_Members_ok (p0:(List Int)):Ct Tryd.prog 39 [eL true (AV.int .u64) p0] (Qbf p0) (fun x=>.ref 0 0 x.length) (fun x=>[oR false 1 (eL true (AV.int .u64)) x]):=by
 refine hfn [] Tryd.func39 <| hcl 2 [] (g_ref31_Colliders_ok p0) fun x1 _=>hop 3 (fun _=>Qn (enc:=(AV.int .u64)) (l:=p0) (fl:=true) kr gE) <| hcl 1 [] (g_ref31_Skeleton_ok p0) fun x3 _=>hcl 0 [F zp x3] (Qem (zn p0) x3) fun x5 _=>hlp 2 (fun s7=>⟨[(3,.ref 0 0 x1.length),(4,.ref 1 0 s7.2.length),(5,.ref 2 0 x5.length),(6,vI s7.1)],[(Qmw x1),oR false 1 (eL true (AV.int .u64)) s7.2,(Qls x5)],75⟩) (fun v=>(.exit 0,⟨[(4,.ref 0 0 v.length)],[oR false 1 (eL true (AV.int .u64)) v],75⟩)) (wk_trans (wk_gc (live:=[3,4,5,6]) (keep:=[0,2]) gE) (wk_trans (wk_nil 4 1 true false gE) (wk_gc (live:=[3,4,5,6]) (keep:=[0,2,1]) kr))) (fun s7=>?_) fun x43=>?_
 ·refine hbr 4 [19] (?_) ?_
  ·refine hbd fun a10 q11=>hop 3 (fun _=>Qq (enc:=(eL true (AV.int .u64))) (l:=x5) (n:=s7.1) (w:=1) (ob:=2) (ro:=false) (nr:=true) (fl:=false) (a:=a10) kr kr gE q11) <| hop 0 (fun _=>Zn (enc:=(eL true (AV.int .u64))) (l:=x5) (n:=s7.1) (w:=1) (ob:=2) (c:=0) (bx:=false) (ro:=false) (nr:=true) (fl:=false) (a:=a10) kr kr q11 gE) <| hcl 0 [] (g_ref31_Colliders_ok a10) fun x12 _=>hcl 1 [F (fun x:(Int × Int × Int)=>AV.agg [vI x.1,vI x.2.1,vI x.2.2]) x12,F (fun x:(Int × Int × Int)=>AV.agg [vI x.1,vI x.2.1,vI x.2.2]) x1] (Qco x12 x1) fun x14 _=>hbr 1 [29] (hwk 1 (wl [3,4,5,6] [0,1,2]) <| hnx 4 (wz [0,1,2])) <| ?_
   refine hlp 4 (fun s18=>⟨[(3,.ref 0 0 x1.length),(4,.ref 1 0 s7.2.length),(5,.ref 2 0 x5.length),(6,vI s7.1),(7,vI s18)],[(Qmw x1),oR false 1 (eL true (AV.int .u64)) s7.2,(Qls x5)],75⟩) (fun v=>(.exit 2,⟨[(3,.ref 0 0 x1.length),(4,.ref 1 0 s7.2.length),(5,.ref 2 0 x5.length),(6,vI s7.1),(7,vI v)],[(Qmw x1),oR false 1 (eL true (AV.int .u64)) s7.2,(Qls x5)],75⟩)) (wz [0,1,2]) (fun s18=>?_) fun x28=>?_
   ·refine hbr 4 [33,34] (?_) ?_
    ·refine hop 2 (fun _=>Qq (enc:=(eL true (AV.int .u64))) (l:=x5) (n:=s7.1) (w:=1) (ob:=2) (ro:=false) (nr:=true) (fl:=false) (a:=a10) kr kr gE q11) <| hop 0 (fun _=>Zn (enc:=(eL true (AV.int .u64))) (l:=x5) (n:=s7.1) (w:=1) (ob:=2) (c:=0) (bx:=false) (ro:=false) (nr:=true) (fl:=false) (a:=a10) kr kr q11 gE) <| hbd fun a21 q22=>hop 3 (fun _=>Qq (enc:=(eL true (AV.int .u64))) (l:=s7.2) (n:=zw (s18 - 1)) (w:=1) (ob:=1) (ro:=false) (nr:=true) (fl:=false) (a:=a21) kr kr gE q22) <| hop 0 (fun _=>Zn (enc:=(eL true (AV.int .u64))) (l:=s7.2) (n:=zw (s18 - 1)) (w:=1) (ob:=1) (c:=0) (bx:=false) (ro:=false) (nr:=true) (fl:=false) (a:=a21) kr kr q22 gE) <| hcl 0 [] (g_ref31_Before_ok a10 a21) fun x23 _=>hbr 1 [44,45] (hnx 4 (wz [0,1,2])) <| ?_
     refine hdx 1 (wz [0,1,2])
    refine hdx 12 (wz [0,1,2])
   refine hop 1 (fun _=>sgL false [] [.lst true] false gE) <| hoh 0 (fun _ _ h k=>V5 (enc:=(eL true (AV.int .u64))) (l:=s7.2) (m:=([[]]:(List (List Int)))) (w:=1) (bytes:=24) (ob:=1) (nr:=true) (fl:=false) (nr':=true) (fl':=false) (b:=.ref 3 0 1) (rds:=[3]) false kr kr kr kr gE kr h k) <| hlp 5 (fun s29=>⟨[(3,.ref 0 0 x1.length),(4,.ref 1 0 s29.2.length),(5,.ref 2 0 x5.length),(6,vI s7.1),(7,vI x28),(8,vI s29.1)],[(Qmw x1),oR false 1 (eL true (AV.int .u64)) s29.2,(Qls x5)],75⟩) (fun v=>(.exit 4,⟨[(3,.ref 0 0 x1.length),(4,.ref 1 0 v.length),(5,.ref 2 0 x5.length),(6,vI s7.1),(7,vI x28)],[(Qmw x1),oR false 1 (eL true (AV.int .u64)) v,(Qls x5)],75⟩)) (wz [0,4,2]) (fun s29=>?_) fun x38=>?_
   ·refine hbr 3 [56] (?_) ?_
    ·refine hbd fun a32 q33=>hop 6 (fun _=>Qq (enc:=(eL true (AV.int .u64))) (l:=s29.2) (n:=zw (s29.1 - 1)) (w:=1) (ob:=1) (ro:=false) (nr:=true) (fl:=false) (a:=a32) kr kr gE q33) <| hop 0 (fun _=>Zn (enc:=(eL true (AV.int .u64))) (l:=s29.2) (n:=zw (s29.1 - 1)) (w:=1) (ob:=1) (c:=0) (bx:=false) (ro:=false) (nr:=true) (fl:=false) (a:=a32) kr kr q33 gE) <| hbd fun a34 q35=>hop 0 (fun _=>Qq (enc:=(eL true (AV.int .u64))) (l:=s29.2) (n:=s29.1) (w:=1) (ob:=1) (ro:=false) (nr:=true) (fl:=false) (a:=a34) kr kr gE q35) <| hop 0 (fun _=>Xd (enc:=(eL true (AV.int .u64))) (l:=s29.2) (n:=s29.1) (ob:=1) (w:=1) (bx:=false) (nr:=true) (fl:=false) (c:=0) (a:=a34) (a':=a32) (v:=eL true (AV.int .u64) a32) false kr kr q35 kr kr kr gE kr) <| hkl 0 [4,59,61] (ls s29.2 (zt s29.1) a32) <| hnx 3 (wz [0,1,2])
    refine hdx 1 (wz [0,1,2])
   refine hop 4 (fun _=>Qq (enc:=(eL true (AV.int .u64))) (l:=x5) (n:=s7.1) (w:=1) (ob:=2) (ro:=false) (nr:=true) (fl:=false) (a:=a10) kr kr gE q11) <| hop 0 (fun _=>Zn (enc:=(eL true (AV.int .u64))) (l:=x5) (n:=s7.1) (w:=1) (ob:=2) (c:=0) (bx:=false) (ro:=false) (nr:=true) (fl:=false) (a:=a10) kr kr q11 gE) <| hbd fun a39 q40=>hop 0 (fun _=>Qq (enc:=(eL true (AV.int .u64))) (l:=x38) (n:=x28) (w:=1) (ob:=1) (ro:=false) (nr:=true) (fl:=false) (a:=a39) kr kr gE q40) <| hop 0 (fun _=>Xd (enc:=(eL true (AV.int .u64))) (l:=x38) (n:=x28) (ob:=1) (w:=1) (bx:=false) (nr:=true) (fl:=false) (c:=0) (a:=a39) (a':=a10) (v:=eL true (AV.int .u64) a10) false kr kr q40 kr kr kr gE kr) <| hkl 0 [4,67] (ls x38 (zt x28) a10) <| hnx 3 (wz [0,1,2])
  refine hdx 1 (wz [1])
 refine hrt 3
noncomputable abbrev Qjt:AObj:=oX true false 3 (.agg [vI 0,.nils,.nils])
noncomputable abbrev Ql7 (x1:(List (List Int))):AObj:=oR false 1 (eL true (AV.int .u64)) x1
noncomputable abbrev Qlh (p0:(List Int)) (x1:(List (List Int))):List (Nat×AV):=[(0,eL true (AV.int .u64) p0),(2,.ptr 0 0 0),(3,.ref 1 0 x1.length),(4,.ptr 2 0 0)]
theorem g_ref31_Essential_ok (p0:(List Int)):Ct Tryd.prog 41 [eL true (AV.int .u64) p0] (Jw p0) (fun x=>.agg [vI x.N,.ref 0 0 x.Arrows.length,.ref 1 0 x.Lines.length]) (fun x=>[oR true 2 zp x.Arrows,oR true 2 zp x.Lines]):=by
 refine hfn [] Tryd.func41 <| hop 0 (fun _=>sgL false [] [] false gE) <| hcl 1 [] (g_ref31_Members_ok p0) fun x1 _=>hop 2 (fun _=>Qn (enc:=(AV.int .u64)) (l:=p0) (fl:=true) kr gE) <| hop 1 (fun _=>sgL false [] [] false gE) <| hlp 2 (fun s3=>⟨(Qlh p0 x1)++[(5,vI s3.1)],[Qjt,(Ql7 x1),oX false false 3 (.agg [vI (zn p0),.ref 3 0 s3.2.1.length,.ref 4 0 s3.2.2.length]),oR true 2 zp s3.2.1,oR true 2 zp s3.2.2],87⟩) (fun v=>(.exit 0,⟨[(2,.ptr 0 0 0),(4,.ptr 1 0 0)],[Qjt,oX false false 3 (.agg [vI (zn p0),.ref 2 0 v.1.length,.ref 3 0 v.2.length]),oR true 2 zp v.1,oR true 2 zp v.2],87⟩)) (wk_trans (wk_gc (live:=[0,2,3,4,5]) (keep:=[0,1,2]) gE) (wk_trans (Qy 2 0 1 2 true true gE) (wk_trans (Qy 2 0 2 2 true true gE) (wk_gc (live:=[0,2,3,4,5]) (keep:=[0,1,2,3,4]) kr)))) (fun s3=>?_) fun x49=>?_
 ·refine hop 2 (fun _=>Qn (enc:=(AV.int .u64)) (l:=p0) (fl:=true) kr gE) <| hbr 1 [18] (?_) ?_
  ·refine hlp 2 (fun s6=>⟨(Qlh p0 x1)++[(5,vI s3.1),(6,vI s6.1)],[Qjt,(Ql7 x1),oX false false 3 (.agg [vI (zn p0),.ref 3 0 s6.2.1.length,.ref 4 0 s6.2.2.length]),oR true 2 zp s6.2.1,oR true 2 zp s6.2.2],87⟩) (fun v=>(.exit 2,⟨(Qlh p0 x1)++[(5,vI s3.1)],[Qjt,(Ql7 x1),oX false false 3 (.agg [vI (zn p0),.ref 3 0 v.1.length,.ref 4 0 v.2.length]),oR true 2 zp v.1,oR true 2 zp v.2],87⟩)) (wz [0,1,2,3,4]) (fun s6=>?_) fun x47=>?_
   ·refine hop 2 (fun _=>Qn (enc:=(AV.int .u64)) (l:=p0) (fl:=true) kr gE) <| hbr 1 [24] (?_) ?_
    ·refine hcl 4 [] (Qd0 p0 s3.1 s6.1) fun x9 _=>hbr 1 [31] (hwk 1 (wl [0,2,3,4,5,6] [0,1,2,3,4]) <| hnx 4 (wz [0,1,2,3,4])) <| ?_
     refine hlp 4 (fun s13=>⟨(Qlh p0 x1)++[(5,vI s3.1),(6,vI s6.1),(7,vB s13.1),(8,vB s13.2.1),(9,vI s13.2.2)],[Qjt,(Ql7 x1),oX false false 3 (.agg [vI (zn p0),.ref 3 0 s6.2.1.length,.ref 4 0 s6.2.2.length]),oR true 2 zp s6.2.1,oR true 2 zp s6.2.2],87⟩) (fun v=>(.exit 4,⟨(Qlh p0 x1)++[(5,vI s3.1),(6,vI s6.1),(7,vB v.1),(8,vB v.2)],[Qjt,(Ql7 x1),oX false false 3 (.agg [vI (zn p0),.ref 3 0 s6.2.1.length,.ref 4 0 s6.2.2.length]),oR true 2 zp s6.2.1,oR true 2 zp s6.2.2],87⟩)) (wz [0,1,2,3,4]) (fun s13=>?_) fun x39=>?_
     ·refine hbr 4 [35] (?_) ?_
      ·refine hbr 3 [7,38,39] (?_) ?_
       ·refine hbd fun a18 q19=>hop 2 (fun _=>Qq (enc:=(eL true (AV.int .u64))) (l:=x1) (n:=s13.2.2) (w:=1) (ob:=1) (ro:=false) (nr:=true) (fl:=false) (a:=a18) kr kr gE q19) <| hop 0 (fun _=>Zn (enc:=(eL true (AV.int .u64))) (l:=x1) (n:=s13.2.2) (w:=1) (ob:=1) (c:=0) (bx:=false) (ro:=false) (nr:=true) (fl:=false) (a:=a18) kr kr q19 gE) <| hbd fun a20 q21=>hop 1 (fun _=>Q2 (enc:=(AV.int .u64)) (l:=a18) (n:=s6.1) (fl:=true) (w:=1) (a:=a20) kr kr gE q21) <| hcl 2 [] (g_ref31_In_ok a20 s3.1) fun x22 _=>hbr 4 [8,50,51] (?_) ?_
        ·refine hop 2 (fun _=>Qq (enc:=(eL true (AV.int .u64))) (l:=x1) (n:=s13.2.2) (w:=1) (ob:=1) (ro:=false) (nr:=true) (fl:=false) (a:=a18) kr kr gE q19) <| hop 0 (fun _=>Zn (enc:=(eL true (AV.int .u64))) (l:=x1) (n:=s13.2.2) (w:=1) (ob:=1) (c:=0) (bx:=false) (ro:=false) (nr:=true) (fl:=false) (a:=a18) kr kr q19 gE) <| hbd fun a26 q27=>hop 1 (fun _=>Q2 (enc:=(AV.int .u64)) (l:=a18) (n:=s3.1) (fl:=true) (w:=1) (a:=a26) kr kr gE q27) <| hcl 2 [] (g_ref31_In_ok a26 s6.1) fun x28 _=>hnx 5 (wz [0,1,2,3,4])
        refine hnx 14 (wz [0,1,2,3,4])
       refine hbr 13 [8,50,51] (?_) ?_
       ·refine hbd fun a32 q33=>hop 2 (fun _=>Qq (enc:=(eL true (AV.int .u64))) (l:=x1) (n:=s13.2.2) (w:=1) (ob:=1) (ro:=false) (nr:=true) (fl:=false) (a:=a32) kr kr gE q33) <| hop 0 (fun _=>Zn (enc:=(eL true (AV.int .u64))) (l:=x1) (n:=s13.2.2) (w:=1) (ob:=1) (c:=0) (bx:=false) (ro:=false) (nr:=true) (fl:=false) (a:=a32) kr kr q33 gE) <| hbd fun a34 q35=>hop 1 (fun _=>Q2 (enc:=(AV.int .u64)) (l:=a32) (n:=s3.1) (fl:=true) (w:=1) (a:=a34) kr kr gE q35) <| hcl 2 [] (g_ref31_In_ok a34 s6.1) fun x36 _=>hnx 5 (wz [0,1,2,3,4])
       refine hnx 14 (wz [0,1,2,3,4])
      refine hdx 1 (wz [0,1,2,3,4])
     refine hbr 1 [7,62] (?_) ?_
     ·refine hop 6 (fun _=>sgL false [] [] true gE) <| hoh 0 (fun _ _ h k=>V5 (enc:=zp) (l:=s6.2.1) (m:=([(s3.1,s6.1)]:(List (Int × Int)))) (w:=2) (bytes:=16) (ob:=3) (nr:=true) (fl:=true) (nr':=true) (fl':=true) (b:=.ref 5 0 1) (rds:=[5]) false kr kr kr kr gE kr h k) <| hnx 5 (wz [0,1,2,6,4])
     refine hbr 4 [72,73] (?_) ?_
     ·refine hbr 4 [76,77] (?_) ?_
      ·refine hop 6 (fun _=>sgL false [] [] true gE) <| hoh 0 (fun _ _ h k=>V5 (enc:=zp) (l:=s6.2.2) (m:=([(s3.1,s6.1)]:(List (Int × Int)))) (w:=2) (bytes:=16) (ob:=4) (nr:=true) (fl:=true) (nr':=true) (fl':=true) (b:=.ref 5 0 1) (rds:=[5]) false kr kr kr kr gE kr h k) <| hnx 5 (wz [0,1,2,3,6])
      refine hnx 4 (wz [0,1,2,3,4])
     refine hnx 8 (wz [0,1,2,3,4])
    refine hdx 1 (wz [0,1,2,3,4])
   refine hnx 3 (wz [0,1,2,3,4])
  refine hdx 1 (wz [0,2,3,4])
 refine hrt 3
noncomputable abbrev Qt8 (p0:(List Int)) (p1 p2 p3 x1:Int):List (Nat×AV):=[(0,eL true (AV.int .u64) p0),(1,vI p1),(2,vI p2),(3,.int .u64 p3),(9,.int .u64 x1),(10,vI (zn p0))]
theorem Qhn (p0:(List Int)) (p1:Int) (p2:Int) (p3:Int):Ct Tryd.prog 64 [eL true (AV.int .u64) p0,vI p1,vI p2,.int .u64 p3] (Qa2 p0 p1 p2 p3) (fun x=>vB x) (fun x=>[]):=by
 refine hfn [] Tryd.func64 <| hoh 4 (fun _ _ h k=>Zu (k:=.u64) (k':=.i64) (a:=1) (b:=p1) kr gE h k) <| hoh 1 (fun _ _ h k=>Zu (k:=.u64) (k':=.i64) (a:=1) (b:=p2) kr gE h k) <| hcl 3 [] (g_ref31_Above_ok p0 (zv (zb (zv (zb (zv (1*2^min (zt p1) zk)) ||| zb (zv (1*2^min (zt p2) zk))).toNat) ||| zb p3).toNat)) fun x1 _=>hop 2 (fun _=>Qn (enc:=(AV.int .u64)) (l:=p0) (fl:=true) kr gE) <| hoh 2 (fun _ _ h k=>mkL (enc:=(AV.int .u64)) (z:=(0:Int)) (z0:=.int .u64 0) (n:=(zn p0)) (m:=(zn p0)) (w:=1) (bytes:=8) [] true kr kr gE kr h k) <| hlp 2 (fun s3=>⟨(Qt8 p0 p1 p2 p3 x1)++[(11,.ref 0 0 s3.2.length),(12,vI s3.1)],[oR true 1 (AV.int .u64) s3.2],94⟩) (fun v=>(.exit 0,⟨[(1,vI p1),(2,vI p2),(3,.int .u64 p3),(9,.int .u64 x1),(10,vI (zn p0)),(11,.ref 0 0 v.length)],[oR true 1 (AV.int .u64) v],94⟩)) (wz [0]) (fun s3=>?_) fun x25=>?_
 ·refine hbr 3 [33] (?_) ?_
  ·refine hbd fun a6 q7=>hop 4 (fun _=>Q2 (enc:=(AV.int .u64)) (l:=p0) (n:=s3.1) (fl:=true) (w:=1) (a:=a6) kr kr gE q7) <| hoh 2 (fun _ _ h k=>Zu (k:=.u64) (k':=.i64) (a:=1) (b:=s3.1) kr gE h k) <| hlp 3 (fun s8=>⟨(Qt8 p0 p1 p2 p3 x1)++[(11,.ref 0 0 s8.2.length),(12,vI s3.1),(13,.int .u64 (zv (zb a6 ||| zb (zv (1*2^min (zt s3.1) zk))).toNat)),(14,vI s8.1)],[oR true 1 (AV.int .u64) s8.2],94⟩) (fun v=>(.exit 2,⟨(Qt8 p0 p1 p2 p3 x1)++[(11,.ref 0 0 v.length),(12,vI s3.1)],[oR true 1 (AV.int .u64) v],94⟩)) (wz [0]) (fun s8=>?_) fun x23=>?_
   ·refine hbr 3 [45] (?_) ?_
    ·refine hcl 3 [] (g_ref31_In_ok x1 s3.1) fun x11 _=>hbr 1 [50,51] (?_) ?_
     ·refine hcl 2 [] (g_ref31_In_ok (zv (zb a6 ||| zb (zv (1*2^min (zt s3.1) zk))).toNat) s8.1) fun x15 _=>hbr 1 [54,55] (?_) ?_
      ·refine hbd fun a19 q20=>hop 5 (fun _=>Qq (enc:=(AV.int .u64)) (l:=s8.2) (n:=s8.1) (w:=1) (ob:=0) (ro:=false) (nr:=true) (fl:=true) (a:=a19) kr kr gE q20) <| hop 0 (fun _=>Zn (enc:=(AV.int .u64)) (l:=s8.2) (n:=s8.1) (w:=1) (ob:=0) (c:=0) (bx:=false) (ro:=false) (nr:=true) (fl:=true) (a:=a19) kr kr q20 gE) <| hop 2 (fun _=>Qq (enc:=(AV.int .u64)) (l:=s8.2) (n:=s8.1) (w:=1) (ob:=0) (ro:=false) (nr:=true) (fl:=true) (a:=a19) kr kr gE q20) <| hop 0 (fun _=>Xd (enc:=(AV.int .u64)) (l:=s8.2) (n:=s8.1) (ob:=0) (w:=1) (bx:=false) (nr:=true) (fl:=true) (c:=0) (a:=a19) (a':=zv (zb a19 ||| zb (zv (zb a6 ||| zb (zv (1*2^min (zt s3.1) zk))).toNat)).toNat) (v:=.int .u64 (zv (zb a19 ||| zb (zv (zb a6 ||| zb (zv (1*2^min (zt s3.1) zk))).toNat)).toNat)) false kr kr q20 kr kr kr gE kr) <| hkl 0 [11,56,58] (ls s8.2 (zt s8.1) (zv (zb a19 ||| zb (zv (zb a6 ||| zb (zv (1*2^min (zt s3.1) zk))).toNat)).toNat)) <| hnx 3 (wz [0])
      refine hnx 4 (wz [0])
     refine hnx 8 (wz [0])
    refine hdx 1 (wz [0])
   refine hnx 3 (wz [0])
  refine hdx 1 (wz [0])
 refine hoh 1 (fun _ _ h k=>Zu (k:=.u64) (k':=.i64) (a:=1) (b:=p1) kr gE h k) <| hlp 2 (fun s26=>⟨[(2,vI p2),(3,.int .u64 p3),(9,.int .u64 x1),(10,vI (zn p0)),(11,.ref 0 0 x25.length),(15,.int .u64 s26.1),(16,vI s26.2)],[oR true 1 (AV.int .u64) x25],94⟩) (fun v=>(.exit 4,⟨[(2,vI p2),(15,.int .u64 v)],[],94⟩)) (wz [0]) (fun s26=>?_) fun x41=>?_
 ·refine hbr 3 [69] (?_) ?_
  ·refine hlp 2 (fun s29=>⟨[(2,vI p2),(3,.int .u64 p3),(9,.int .u64 x1),(10,vI (zn p0)),(11,.ref 0 0 x25.length),(15,.int .u64 s29.1),(16,vI s26.2),(17,vI s29.2)],[oR true 1 (AV.int .u64) x25],94⟩) (fun v=>(.exit 6,⟨[(2,vI p2),(3,.int .u64 p3),(9,.int .u64 x1),(10,vI (zn p0)),(11,.ref 0 0 x25.length),(15,.int .u64 v),(16,vI s26.2)],[oR true 1 (AV.int .u64) x25],94⟩)) (wz [0]) (fun s29=>?_) fun x39=>?_
   ·refine hbr 3 [74] (?_) ?_
    ·refine hcl 3 [] (g_ref31_In_ok s29.1 s29.2) fun x32 _=>hbr 0 [79] (?_) ?_
     ·refine hbd fun a36 q37=>hop 4 (fun _=>Qq (enc:=(AV.int .u64)) (l:=x25) (n:=s29.2) (w:=1) (ob:=0) (ro:=false) (nr:=true) (fl:=true) (a:=a36) kr kr gE q37) <| hop 0 (fun _=>Zn (enc:=(AV.int .u64)) (l:=x25) (n:=s29.2) (w:=1) (ob:=0) (c:=0) (bx:=false) (ro:=false) (nr:=true) (fl:=true) (a:=a36) kr kr q37 gE) <| hnx 9 (wz [0])
     refine hnx 4 (wz [0])
    refine hdx 1 (wz [0])
   refine hnx 3 (wz [0])
  refine hdx 1 (wz [])
 refine hcl 2 [] (g_ref31_In_ok x41 p2) fun x42 _=>hrt 3
theorem Qoh (p0:(List Int)):Ct Tryd.prog 42 [eL true (AV.int .u64) p0] (Qc3 p0) (fun x=>.ref 0 0 x.length) (fun x=>[oR true 3 eTapi_Fact x]):=by
 refine hfn [] Tryd.func42 <| hlp 3 (fun s1=>⟨[(0,eL true (AV.int .u64) p0),(3,.ref 0 0 s1.2.length),(4,vI s1.1)],[oR true 3 eTapi_Fact s1.2],53⟩) (fun v=>(.exit 0,⟨[(3,.ref 0 0 v.length)],[oR true 3 eTapi_Fact v],53⟩)) (wk_trans (wk_gc (live:=[0,3,4]) (keep:=[]) gE) (wk_trans (wk_nil 3 3 true true gE) (wk_gc (live:=[0,3,4]) (keep:=[0]) kr))) (fun s1=>?_) fun x27=>?_
 ·refine hop 2 (fun _=>Qn (enc:=(AV.int .u64)) (l:=p0) (fl:=true) kr gE) <| hbr 1 [10] (?_) ?_
  ·refine hlp 4 (fun s4=>⟨[(0,eL true (AV.int .u64) p0),(3,.ref 0 0 s4.2.length),(4,vI s1.1),(5,vI s4.1)],[oR true 3 eTapi_Fact s4.2],53⟩) (fun v=>(.exit 2,⟨[(0,eL true (AV.int .u64) p0),(3,.ref 0 0 v.length),(4,vI s1.1)],[oR true 3 eTapi_Fact v],53⟩)) (wz [0]) (fun s4=>?_) fun x25=>?_
   ·refine hop 2 (fun _=>Qn (enc:=(AV.int .u64)) (l:=p0) (fl:=true) kr gE) <| hbr 1 [18] (?_) ?_
    ·refine hlp 2 (fun s7=>⟨[(0,eL true (AV.int .u64) p0),(3,.ref 0 0 s7.2.length),(4,vI s1.1),(5,vI s4.1),(6,.int .u64 s7.1)],[oR true 3 eTapi_Fact s7.2],53⟩) (fun v=>(.exit 4,⟨[(0,eL true (AV.int .u64) p0),(3,.ref 0 0 v.length),(4,vI s1.1),(5,vI s4.1)],[oR true 3 eTapi_Fact v],53⟩)) (wz [0]) (fun s7=>?_) fun x23=>?_
     ·refine hop 2 (fun _=>Qn (enc:=(AV.int .u64)) (l:=p0) (fl:=true) kr gE) <| hoh 0 (fun _ _ h k=>Zu (k:=.u64) (k':=.i64) (a:=1) (b:=(zn p0)) kr gE h k) <| hbr 1 [25] (?_) ?_
      ·refine hcl 3 [] (g_ref31_In_ok s7.1 s1.1) fun x10 _=>hbr 2 [31,32] (?_) ?_
       ·refine hcl 2 [] (g_ref31_In_ok s7.1 s4.1) fun x14 _=>hbr 3 [36,37,38] (?_) ?_
        ·refine hcl 4 [] (Qhn p0 s1.1 s4.1 s7.1) fun x18 _=>hbr 1 [43,44] (?_) ?_
         ·refine hop 6 (fun _=>sgL false [] [] true gE) <| hoh 0 (fun _ _ h k=>V5 (enc:=eTapi_Fact) (l:=s7.2) (m:=([(Ac.mk s1.1 s4.1 s7.1)]:(List Ac))) (w:=3) (bytes:=24) (ob:=0) (nr:=true) (fl:=true) (nr':=true) (fl':=true) (b:=.ref 1 0 1) (rds:=[1]) false kr kr kr kr gE kr h k) <| hnx 4 (wz [2])
         refine hnx 4 (wz [0])
        refine hnx 10 (wz [0])
       refine hnx 16 (wz [0])
      refine hdx 1 (wz [0])
     refine hnx 3 (wz [0])
    refine hdx 1 (wz [0])
   refine hnx 3 (wz [0])
  refine hdx 1 (wz [0])
 refine hrt 3
theorem Qbs (c0:Ac) (d0:(List Ac)):Ct Tryd.prog 43 [eL true eTapi_Fact (c0::d0)] (Yh c0 d0) (fun x=>.ref 0 0 x.length) (fun x=>[oR true 3 eTapi_Fact x]):=by
 refine hfn [] Tryd.func43 <| hoh 6 (fun _ _ h k=>Q85 (enc:=eTapi_Fact) (m:=(c0::d0)) (w:=3) (bytes:=24) (nr':=true) (fl':=true) (a:=.emp) (b:=eL true eTapi_Fact (c0::d0)) (rds:=[]) false kr (.inr rfl) (Qmi (fun _=>rfl)) kr gE kr h k) <| hrt 2
theorem Qbt  : Ct Tryd.prog 43 [.emn] (Ym) (fun x=>.ref 0 0 x.length) (fun x=>[oR true 3 eTapi_Fact x]):=by
 refine hfn [] Tryd.func43 <| hrt 9
theorem Qbr  : Ct Tryd.prog 43 [.nils] (Yg) (fun x=>.ref 0 0 x.length) (fun x=>[oR true 3 eTapi_Fact x]):=by
 refine hfn [] Tryd.func43 <| hwk 5 (wl [2] []) <| hwk 0 (wk_nil 2 3 true true gE) <| hrt 1
theorem g_slices_Clone_api_Fact_api_Fact_ok (p0:(List Ac)) (x:(List Ac)) (h:Qh p0=some x):Za Tryd.prog 43 [eL true eTapi_Fact p0] (.ret (.ref 0 0 x.length) [oR true 3 eTapi_Fact x]):=by
 cases p0 with
 | cons c0 d0=>exact Qbs c0 d0 x h
 | nil =>
  cases h1:Yg with
  | none=>simp [Qh,h1] at h
  | some y =>
   cases h2:Ym with
   | none=>simp [Qh,h1,h2] at h
   | some z =>
    by_cases e:y=z
    ·subst e
     simp [Qh,h1,h2] at h
     subst h
     exact Za.nil (l1:=[]) (l2:=[]) (Qbr y h1) (Qbt y h2)
    simp [Qh,h1,h2,e] at h
theorem g_slices_Concat_api_Fact_api_Fact_ok (p0:(List (List Ac))):Ct Tryd.prog 45 [eL false (eL true eTapi_Fact) p0] (Xb p0) (fun x=>.ref 0 0 x.length) (fun x=>[oR true 3 eTapi_Fact x]):=by
 refine hfn [] Tryd.func45 <| hop 3 (fun _=>Qn (enc:=(eL true eTapi_Fact)) (l:=p0) (fl:=false) kr gE) <| hlp 1 (fun s1=>⟨[(0,eL false (eL true eTapi_Fact) p0),(3,vI s1.1),(9,eL false (eL true eTapi_Fact) p0),(10,vI (zn p0)),(11,vI s1.2)],[],36⟩) (fun v=>(.exit 0,⟨[(0,eL false (eL true eTapi_Fact) p0),(3,vI v)],[],36⟩)) (wz []) (fun s1=>?_) fun x9=>?_
 ·refine hbr 1 [12] (?_) ?_
  ·refine hbd fun a4 q5=>hop 1 (fun _=>Q2 (enc:=(eL true eTapi_Fact)) (l:=p0) (n:=s1.2) (fl:=false) (w:=1) (a:=a4) kr kr gE q5) <| hop 4 (fun _=>Qn (enc:=eTapi_Fact) (l:=a4) (fl:=true) kr gE) <| hbr 4 [20] (hnn) <| ?_
   refine hnx 3 (wz [])
  refine hdx 1 (wz [])
 refine hil 1 Tryd.func65 <| hbr 3 [6] (hnn) <| ?_
 refine hbr 11 [16] (?_) ?_
 ·refine hoh 6 (fun _ _ h k=>Q8s (enc:=eTapi_Fact) (z:=((Ac.mk 0 0 0):Ac)) (z0:=.agg [vI 0,vI 0,.int .u64 0]) (n:=zw (x9 - 0)) (w:=3) (bytes:=24) [] true kr kr gE kr h k) <| hoq 2 (fun _ _ h k=>Qvh (enc:=eTapi_Fact) (l:=(List.replicate (zt (zw (x9 - 0))) ((Ac.mk 0 0 0):Ac))) (ob:=0) (ro:=false) (nr:=true) (fl:=true) (lo:=none) (hi:=(some (vI 0))) (a:=0) (b:=0) (w:=3) kr kr kr kr gE h k) fun _=>hwk 3 (wl [4] [0]) <| hop 3 (fun _=>Qn (enc:=(eL true eTapi_Fact)) (l:=p0) (fl:=false) kr gE) <| hwk 1 (wl [6,25,26,27] [0]) <| hwk 0 (Qwu 0 0 (nr:=true) (fl:=true) (w:=3) (enc:=eTapi_Fact) (l:=(List.replicate (zt (zw (x9 - 0))) ((Ac.mk 0 0 0):Ac))) kr rfl) <| hlp 0 (fun s15=>⟨[(6,.ref 0 0 s15.2.length),(25,eL false (eL true eTapi_Fact) p0),(26,vI (zn p0)),(27,vI s15.1)],[oR true 3 eTapi_Fact s15.2],36⟩) (fun v=>(.exit 2,⟨[(6,.ref 0 0 v.length)],[oR true 3 eTapi_Fact v],36⟩)) (wz [0]) (fun s15=>?_) fun x21=>?_
  ·refine hbr 1 [28] (?_) ?_
   ·refine hbd fun a18 q19=>hop 1 (fun _=>Q2 (enc:=(eL true eTapi_Fact)) (l:=p0) (n:=s15.1) (fl:=false) (w:=1) (a:=a18) kr kr gE q19) <| hoh 4 (fun _ _ h k=>V5 (enc:=eTapi_Fact) (l:=s15.2) (m:=a18) (w:=3) (bytes:=24) (ob:=0) (nr:=true) (fl:=true) (nr':=true) (fl':=true) (b:=eL true eTapi_Fact a18) (rds:=[]) false kr kr (Qmi (fun _=>rfl)) kr gE kr h k) <| hnx 3 (wz [1])
   refine hdx 1 (wz [0])
  refine hrt 3
 refine hwk 3 (wl [4] []) <| hop 3 (fun _=>Qn (enc:=(eL true eTapi_Fact)) (l:=p0) (fl:=false) kr gE) <| hlp 1 (fun s22=>⟨[(6,.ref 0 0 s22.2.length),(25,eL false (eL true eTapi_Fact) p0),(26,vI (zn p0)),(27,vI s22.1)],[oR true 3 eTapi_Fact s22.2],36⟩) (fun v=>(.exit 2,⟨[(6,.ref 0 0 v.length)],[oR true 3 eTapi_Fact v],36⟩)) (wk_trans (wk_gc (live:=[6,25,26,27]) (keep:=[]) gE) (wk_trans (wk_nil 6 3 true true gE) (wk_gc (live:=[6,25,26,27]) (keep:=[0]) kr))) (fun s22=>?_) fun x28=>?_
 ·refine hbr 1 [28] (?_) ?_
  ·refine hbd fun a25 q26=>hop 1 (fun _=>Q2 (enc:=(eL true eTapi_Fact)) (l:=p0) (n:=s22.1) (fl:=false) (w:=1) (a:=a25) kr kr gE q26) <| hoh 4 (fun _ _ h k=>V5 (enc:=eTapi_Fact) (l:=s22.2) (m:=a25) (w:=3) (bytes:=24) (ob:=0) (nr:=true) (fl:=true) (nr':=true) (fl':=true) (b:=eL true eTapi_Fact a25) (rds:=[]) false kr kr (Qmi (fun _=>rfl)) kr gE kr h k) <| hnx 3 (wz [1])
  refine hdx 1 (wz [0])
 refine hrt 3
theorem Qpk (p0:Int) (p1:(List Ac)):Ct Tryd.prog 66 [vI p0,eL true eTapi_Fact p1] (Jg p0 p1) (fun x=>vB x) (fun x=>[]):=by
 refine hfn [] Tryd.func66 <| hlp 2 (fun s1=>⟨[(0,vI p0),(1,eL true eTapi_Fact p1),(5,vI s1)],[],66⟩) (fun x=>match x with | .inl v=>(.ret,⟨[(4,vB false)],[],66⟩) | .inr v=>(.exit 0,⟨[],[],66⟩)) (wz []) (fun s1=>?_) (hsm (fun x33=>?_) (fun x34=>?_))
 ·refine hop 2 (fun _=>Qn (enc:=eTapi_Fact) (l:=p1) (fl:=true) kr gE) <| hbr 1 [11] (?_) ?_
  ·refine hbd fun a4 q5=>hop 3 (fun _=>Q2 (enc:=eTapi_Fact) (l:=p1) (n:=s1) (fl:=true) (w:=3) (a:=a4) kr kr gE q5) <| hbr 7 [20,21] (hdx 35 (wz [])) <| ?_
   refine hbr 7 [26,27,28] (hdx 28 (wz [])) <| ?_
   refine hbr 6 [32,33,34] (hdx 22 (wz [])) <| ?_
   refine hoh 3 (fun _ _ h k=>Xm (k:=.u64) (k':=.i64) (a:=a4.Z) (b:=p0) kr gE h k) <| hbr 3 [39,40,41] (hdx 15 (wz [])) <| ?_
   refine hcl 4 [] (g_ref31_In_ok a4.Z a4.X) fun x14 _=>hbr 2 [46,47,48] (hdx 8 (wz [])) <| ?_
   refine hcl 4 [] (g_ref31_In_ok a4.Z a4.Y) fun x18 _=>hbr 1 [53,54] (hdx 2 (wz [])) <| ?_
   refine hlp 2 (fun s22=>⟨[(0,vI p0),(1,eL true eTapi_Fact p1),(5,vI s1),(6,.ptr 0 0 0),(7,vI s22)],[oX true true 3 (.agg [vI a4.X,vI a4.Y,.int .u64 a4.Z])],66⟩) (fun x=>match x with | .inl v=>(.ret,⟨[(4,vB false)],[],66⟩) | .inr v=>(.exit 2,⟨[(0,vI p0),(1,eL true eTapi_Fact p1),(5,vI s1)],[],66⟩)) (wz [0]) (fun s22=>?_) (hsm (fun x30=>?_) (fun x31=>?_))
   ·refine hbr 3 [57] (?_) ?_
    ·refine hbd fun a25 q26=>hop 4 (fun _=>Q2 (enc:=eTapi_Fact) (l:=p1) (n:=s22) (fl:=true) (w:=3) (a:=a25) kr kr gE q26) <| hbr 3 [65] (hdx 2 (wz [])) <| ?_
     refine hnx 4 (wz [0])
    refine hdx 1 (wz [])
   ·refine hdn 0
   refine hnx 3 (wz [])
  refine hdx 1 (wz [])
 ·refine hrt 0
 refine hrt 2
theorem Qqo (p0:(List Ac)) (p1:Ac):Ct Tryd.prog 79 [eL true eTapi_Fact p0,.agg [vI p1.X,vI p1.Y,.int .u64 p1.Z]] (Qe5 p0 p1) (fun x=>vB x) (fun x=>[]):=by
 refine hfn [] Tryd.func79 <| hlp 3 (fun s1=>⟨[(0,eL true eTapi_Fact p0),(3,.ptr 0 0 0),(5,vI s1)],[oX true true 3 (.agg [vI p1.X,vI p1.Y,.int .u64 p1.Z])],18⟩) (fun x=>match x with | .inl v=>(.ret,⟨[(4,vB true)],[],18⟩) | .inr v=>(.exit 0,⟨[],[],18⟩)) (wz [0]) (fun s1=>?_) (hsm (fun x9=>?_) (fun x10=>?_))
 ·refine hop 2 (fun _=>Qn (enc:=eTapi_Fact) (l:=p0) (fl:=true) kr gE) <| hbr 1 [9] (?_) ?_
  ·refine hbd fun a4 q5=>hop 4 (fun _=>Q2 (enc:=eTapi_Fact) (l:=p0) (n:=s1) (fl:=true) (w:=3) (a:=a4) kr kr gE q5) <| hbr 3 [17] (hdx 2 (wz [])) <| ?_
   refine hnx 4 (wz [0])
  refine hdx 1 (wz [])
 ·refine hrt 0
 refine hrt 2
theorem g_ref31_fits_ok (p0:(List Int)) (p1:(List Ac)):Ct Tryd.prog 67 [eL true (AV.int .u64) p0,eL true eTapi_Fact p1] (Qd8 p0 p1) (fun x=>vB x) (fun x=>[]):=by
 refine hfn [] Tryd.func67 <| hlp 2 (fun s1=>⟨[(0,eL true (AV.int .u64) p0),(1,eL true eTapi_Fact p1),(5,vI s1)],[],53⟩) (fun x=>match x with | .inl v=>(.ret,⟨[(4,vB false)],[],53⟩) | .inr v=>(.exit 0,⟨[],[],53⟩)) (wz []) (fun s1=>?_) (hsm (fun x31=>?_) (fun x32=>?_))
 ·refine hop 2 (fun _=>Qn (enc:=(AV.int .u64)) (l:=p0) (fl:=true) kr gE) <| hbr 1 [11] (?_) ?_
  ·refine hlp 4 (fun s4=>⟨[(0,eL true (AV.int .u64) p0),(1,eL true eTapi_Fact p1),(5,vI s1),(6,vI s4)],[],53⟩) (fun x=>match x with | .inl v=>(.ret,⟨[(4,vB false)],[],53⟩) | .inr v=>(.exit 2,⟨[(0,eL true (AV.int .u64) p0),(1,eL true eTapi_Fact p1),(5,vI s1)],[],53⟩)) (wz []) (fun s4=>?_) (hsm (fun x28=>?_) (fun x29=>?_))
   ·refine hop 2 (fun _=>Qn (enc:=(AV.int .u64)) (l:=p0) (fl:=true) kr gE) <| hbr 1 [19] (?_) ?_
    ·refine hlp 2 (fun s7=>⟨[(0,eL true (AV.int .u64) p0),(1,eL true eTapi_Fact p1),(5,vI s1),(6,vI s4),(7,.int .u64 s7)],[],53⟩) (fun x=>match x with | .inl v=>(.ret,⟨[(4,vB false)],[],53⟩) | .inr v=>(.exit 4,⟨[(0,eL true (AV.int .u64) p0),(1,eL true eTapi_Fact p1),(5,vI s1),(6,vI s4)],[],53⟩)) (wz []) (fun s7=>?_) (hsm (fun x25=>?_) (fun x26=>?_))
     ·refine hop 2 (fun _=>Qn (enc:=(AV.int .u64)) (l:=p0) (fl:=true) kr gE) <| hoh 0 (fun _ _ h k=>Zu (k:=.u64) (k':=.i64) (a:=1) (b:=(zn p0)) kr gE h k) <| hbr 1 [26] (?_) ?_
      ·refine hcl 3 [] (g_ref31_In_ok s7 s1) fun x10 _=>hbr 2 [32,33] (?_) ?_
       ·refine hcl 2 [] (g_ref31_In_ok s7 s4) fun x14 _=>hbr 3 [37,38,39] (?_) ?_
        ·refine hcl 4 [] (Qhn p0 s1 s4 s7) fun x18 _=>hcl 5 [] (Qqo p1 (Ac.mk s1 s4 s7)) fun x20 _=>hbr 2 [51,52] (hdx 2 (wz [])) <| ?_
         refine hnx 4 (wz [])
        refine hnx 17 (wz [])
       refine hnx 23 (wz [])
      refine hdx 1 (wz [])
     ·refine hdn 0
     refine hnx 3 (wz [])
    refine hdx 1 (wz [])
   ·refine hdn 0
   refine hnx 3 (wz [])
  refine hdx 1 (wz [])
 ·refine hrt 0
 refine hrt 2
noncomputable abbrev o62_74:AObj:=oX true false 3 (.agg [vI 0,.nils,.nils])
noncomputable abbrev Qjf (p0:Int) (p1:(List Ac)):List (Nat×AV):=[(0,vI p0),(1,eL true eTapi_Fact p1),(4,.ptr 0 0 0)]
theorem g_ref31_Learn_ok (p0:Int) (p1:(List Ac)):Ct Tryd.prog 47 [vI p0,eL true eTapi_Fact p1] (Zp p0 p1) (fun x=>.tup [.agg [vI x.1.N,.ref 0 0 x.1.Arrows.length,.ref 1 0 x.1.Lines.length],vI x.2]) (fun x=>[oR true 2 zp x.1.Arrows,oR true 2 zp x.1.Lines]):=by
 refine hfn [] Tryd.func47 <| hop 0 (fun _=>sgL false [] [] false gE) <| hbr 4 [14,15] (hwk 7 (wl [4,5] [0]) <| hwk 0 (Qy 0 0 1 2 true true gE) <| hwk 0 (Qy 0 0 2 2 true true gE) <| hrt 1) <| ?_
 refine hbr 3 [17,18] (hwk 4 (wl [4,5] [0]) <| hwk 0 (Qy 0 0 1 2 true true gE) <| hwk 0 (Qy 0 0 2 2 true true gE) <| hrt 1) <| ?_
 refine hcl 3 [] (Qpk p0 p1) fun x5 _=>hbr 1 [23] (hwk 4 (wl [4,5] [0]) <| hwk 0 (Qy 0 0 1 2 true true gE) <| hwk 0 (Qy 0 0 2 2 true true gE) <| hrt 1) <| ?_
 refine hlp 3 (fun s9=>⟨(Qjf p0 p1)++[(6,.ref 1 0 s9.2.length),(7,vI s9.1)],[o62_74,oR true 2 zp s9.2],91⟩) (fun v=>(.exit 0,⟨(Qjf p0 p1)++[(6,.ref 1 0 v.length)],[o62_74,oR true 2 zp v],91⟩)) (wk_trans (wk_gc (live:=[0,1,4,6,7]) (keep:=[0]) gE) (wk_trans (wk_nil 6 2 true true gE) (wk_gc (live:=[0,1,4,6,7]) (keep:=[0,1]) kr))) (fun s9=>?_) fun x31=>?_
 ·refine hbr 3 [27] (?_) ?_
  ·refine hlp 4 (fun s12=>⟨(Qjf p0 p1)++[(6,.ref 1 0 s12.2.length),(7,vI s9.1),(8,vI s12.1)],[o62_74,oR true 2 zp s12.2],91⟩) (fun v=>(.exit 2,⟨(Qjf p0 p1)++[(6,.ref 1 0 v.length),(7,vI s9.1)],[o62_74,oR true 2 zp v],91⟩)) (wz [0,1]) (fun s12=>?_) fun x29=>?_
   ·refine hbr 3 [34] (?_) ?_
    ·refine hlp 3 (fun s15=>⟨(Qjf p0 p1)++[(6,.ref 1 0 s12.2.length),(7,vI s9.1),(8,vI s12.1),(9,vB s15.1),(10,vI s15.2)],[o62_74,oR true 2 zp s12.2],91⟩) (fun v=>(.exit 4,⟨(Qjf p0 p1)++[(6,.ref 1 0 s12.2.length),(7,vI s9.1),(8,vI s12.1),(9,vB v)],[o62_74,oR true 2 zp s12.2],91⟩)) (wz [0,1]) (fun s15=>?_) fun x25=>?_
     ·refine hop 2 (fun _=>Qn (enc:=eTapi_Fact) (l:=p1) (fl:=true) kr gE) <| hbr 1 [40] (?_) ?_
      ·refine hbr 3 [9,43,44] (hnx 21 (wz [0,1])) <| ?_
       refine hbd fun a20 q21=>hop 2 (fun _=>Q2 (enc:=eTapi_Fact) (l:=p1) (n:=s15.2) (fl:=true) (w:=3) (a:=a20) kr kr gE q21) <| hbr 5 [51,52] (hop 2 (fun _=>Q2 (enc:=eTapi_Fact) (l:=p1) (n:=s15.2) (fl:=true) (w:=3) (a:=a20) kr kr gE q21) <| hnx 10 (wz [0,1])) <| ?_
       refine hnx 13 (wz [0,1])
      refine hdx 1 (wz [0,1])
     refine hbr 2 [63] (?_) ?_
     ·refine hop 5 (fun _=>sgL false [] [] true gE) <| hoh 0 (fun _ _ h k=>V5 (enc:=zp) (l:=s12.2) (m:=([(s9.1,s12.1)]:(List (Int × Int)))) (w:=2) (bytes:=16) (ob:=1) (nr:=true) (fl:=true) (nr':=true) (fl':=true) (b:=.ref 2 0 1) (rds:=[2]) false kr kr kr kr gE kr h k) <| hnx 4 (wz [0,3])
     refine hnx 4 (wz [0,1])
    refine hdx 1 (wz [0,1])
   refine hnx 3 (wz [0,1])
  refine hdx 1 (wz [0,1])
 refine hcl 2 [F zp x31] (Qem p0 x31) fun x32 _=>hlp 2 (fun s34=>⟨[(1,eL true eTapi_Fact p1),(4,.ptr 0 0 0),(11,.ref 1 0 x32.length),(12,vI s34)],[o62_74,oR false 1 (eL true (AV.int .u64)) x32],91⟩) (fun x=>match x with | .inl v=>(.ret,⟨[(4,.ptr 0 0 0),(5,vI 0)],[oX false false 3 (.agg [vI v.1,.ref 1 0 v.2.1.length,.ref 2 0 v.2.2.length]),oR true 2 zp v.2.1,oR true 2 zp v.2.2],91⟩) | .inr v=>(.exit 6,⟨[(4,.ptr 0 0 0)],[o62_74],91⟩)) (wz [0,2]) (fun s34=>?_) (hsm (fun x46=>?_) (fun x47=>?_))
 ·refine hbr 4 [76] (?_) ?_
  ·refine hbd fun a37 q38=>hop 3 (fun _=>Qq (enc:=(eL true (AV.int .u64))) (l:=x32) (n:=s34) (w:=1) (ob:=1) (ro:=false) (nr:=true) (fl:=false) (a:=a37) kr kr gE q38) <| hop 0 (fun _=>Zn (enc:=(eL true (AV.int .u64))) (l:=x32) (n:=s34) (w:=1) (ob:=1) (c:=0) (bx:=false) (ro:=false) (nr:=true) (fl:=false) (a:=a37) kr kr q38 gE) <| hcl 1 [] (g_ref31_fits_ok a37 p1) fun x39 _=>hbr 0 [84] (?_) ?_
   ·refine hop 3 (fun _=>Qq (enc:=(eL true (AV.int .u64))) (l:=x32) (n:=s34) (w:=1) (ob:=1) (ro:=false) (nr:=true) (fl:=false) (a:=a37) kr kr gE q38) <| hop 0 (fun _=>Zn (enc:=(eL true (AV.int .u64))) (l:=x32) (n:=s34) (w:=1) (ob:=1) (c:=0) (bx:=false) (ro:=false) (nr:=true) (fl:=false) (a:=a37) kr kr q38 gE) <| hcl 0 [] (g_ref31_Essential_ok a37) fun x43 _=>hdx 2 (wz [0,2,3])
   refine hnx 4 (wz [0,1])
  refine hdx 1 (wz [0])
 ·refine hrt 0
 refine hwk 3 (wl [4,5] [0]) <| hwk 0 (Qy 0 0 1 2 true true gE) <| hwk 0 (Qy 0 0 2 2 true true gE) <| hrt 1
end
end Go.Ab
