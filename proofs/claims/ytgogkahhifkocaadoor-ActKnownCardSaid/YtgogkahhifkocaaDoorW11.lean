/- Functions. No conditions. -/
import Derived.Test.YtgogkahhifkocaaDoorProg
import Derived.Test.YtgogkahhifkocaaDoorW9
import Derived.KernelRfl
import Derived.Test.YtgogkahhifkocaaDoorW10
import Derived.Test.YtgogkahhifkocaaDoorRows
import Derived.Test.YtgogkahhifkocaaDoorEng6
import Derived.WalkKit
import Derived.ProofKit
import Derived.LaidMore
import Derived.Lib.LaidTab
import Derived.Stop.LaidErr
import Derived.Stop.Joined
import Derived.OpenShut
set_option maxRecDepth 100000
set_option maxHeartbeats 4000000
set_option linter.all false
namespace Go.Ab
open Go Go.Proofs
section
attribute [local irreducible] RW WP
noncomputable abbrev Qfn (p0:Qm):AObj:=oX true false 2 (.agg [eL true (AV.int .u64) p0.ancestry.parents,eL true (AV.int .u64) p0.children])
noncomputable abbrev Qes (p2:Int):AObj:=oX true true 1 (.int .u64 p2)
noncomputable abbrev Qsq:AObj:=oX false false 1 (.fn (.func 147) [] [.ptr 3 0 0,.ptr 4 0 0,.ptr 0 0 0,.ptr 5 0 0,.ptr 1 0 0,.ptr 6 0 0])
noncomputable abbrev Qre (p1:Int):AObj:=oX true true 1 (.int .u64 p1)
noncomputable abbrev Qrg:AObj:=oX false false 1 (.mp 7)
noncomputable abbrev Qsk (x14:Int):AObj:=oX true true 1 (.int .u64 x14)
noncomputable abbrev Qpb:AObj:=.loop 50 [(10,.ptr 0 0 0),(12,.ptr 1 0 0),(43,.fn (.func 158) [] [.ptr 2 0 0])] [44] (cA Tryd.f120 [true,true,true,true,true,true,false,true,true]) (cB Tryd.f120 [true,true,true,true,true,true,false,true,true]) .ready none
noncomputable abbrev Xy:AObj:=.loop 50 [(10,.ptr 0 0 0),(12,.ptr 1 0 0),(43,.fn (.func 158) [] [.ptr 2 0 0])] [44] (cA Tryd.f120 [true,true,true,true,true,true,false,true,true]) (cB Tryd.f120 [true,true,true,true,true,true,false,true,true]) .busy none
noncomputable abbrev Qok:AObj:=.loop 74 [(2,.ptr 4 0 0),(4,.ptr 5 0 0),(5,.ptr 1 0 0),(6,.ptr 6 0 0),(7,.ptr 9 0 0),(32,.fn (.func 158) [] [.ptr 10 0 0])] [33] (cA Tryd.f147 [true,true,true,false,true,false,true,true,true]) (cB Tryd.f147 [true,true,true,false,true,false,true,true,true]) .ready none
noncomputable abbrev Kj:AObj:=.loop 74 [(5,.ptr 1 0 0),(68,.fn (.func 158) [] [.ptr 9 0 0])] [69] (cA Tryd.f147 [true,true,true,true,true,true,true]) (cB Tryd.f147 [true,true,true,true,true,true,true]) .ready none
noncomputable abbrev Xj (a0:AObj) (p1 p2:Int) (p0:Qm) (x14:Int):List AObj:=[a0,Qsq,(Qre p1),Qrg,(Qes p2),(Qfn p0),(Qsk x14)]
noncomputable abbrev Qh1 (p1:Int):List (Nat×AV):=[(1,.int .u64 p1),(3,.ptr 0 0 0),(5,.ptr 1 0 0),(7,.ptr 2 0 0)]
theorem Qaf (p0:Qm) (p1:Int) (p2:Int):Ct Tryd.prog 120 [.agg [eL true (AV.int .u64) p0.ancestry.parents,eL true (AV.int .u64) p0.children],.int .u64 p1,.int .u64 p2] (Vd p0 p1 p2) (fun x=>.int .u64 x) (fun x=>[]):=by
 refine hfn [] Tryd.func120 <| hop 0 (fun _=>sgL false [] [] false gE) <| hop 8 (fun _=>Qn (enc:=(AV.int .u64)) (l:=p0.ancestry.parents) (fl:=true) kr gE) <| hlp 1 (fun s1=>⟨(Qh1 p1)++[(18,vI (zn p0.ancestry.parents)),(19,vI s1.1)],[(Qfn p0),(Qes p2),oX true true 1 (.int .u64 s1.2)],50⟩) (fun v=>(.exit 0,⟨(Qh1 p1),[(Qfn p0),(Qes p2),oX true true 1 (.int .u64 v)],50⟩)) (wz [0,1,2]) (fun s1=>?_) fun x14=>?_
 ·refine hbr 1 [20] (?_) ?_
  ·refine hop 4 (fun _=>Qn (enc:=(AV.int .u64)) (l:=p0.ancestry.parents) (fl:=true) kr gE) <| hlp 1 (fun s4=>⟨(Qh1 p1)++[(18,vI (zn p0.ancestry.parents)),(19,vI s1.1),(23,eL true (AV.int .u64) p0.ancestry.parents),(24,vI (zn p0.ancestry.parents)),(25,vI s4.1)],[(Qfn p0),(Qes p2),oX true true 1 (.int .u64 s4.2)],50⟩) (fun v=>(.exit 2,⟨(Qh1 p1)++[(18,vI (zn p0.ancestry.parents)),(19,vI s1.1)],[(Qfn p0),(Qes p2),oX true true 1 (.int .u64 v)],50⟩)) (wz [0,1,2]) (fun s4=>?_) fun x12=>?_
   ·refine hbr 1 [26] (?_) ?_
    ·refine hbd fun a7 q8=>hop 2 (fun _=>Qk (enc:=(AV.int .u64)) (l:=p0.ancestry.parents) (n:=s4.1) (fl:=true) (w:=1) (a:=a7) kr kr gE q8) <| hoh 5 (fun _ _ h k=>Z6 (k:=.u64) (k':=.i64) (a:=s4.2) (b:=s4.1) kr gE h k) <| hbr 2 [34] (hnx 7 (wz [0,1,2])) <| ?_
     refine hnx 3 (wz [0,1,2])
    refine hdx 1 (wz [0,1,2])
   refine hnx 2 (wz [0,1,2])
  refine hdx 1 (wz [0,1,2])
 refine hop 2 (fun _=>sgL false [] [] false gE) <| hop 2 (fun _=>sgL false [] [] false gE) <| hil 3 Tryd.func148 <| hwk 4 (wk_gcK (live:=[2]) (keep:=[7]) 3 Ag AV.bool [] (fun f a=>rfl) (fun f a=>rfl) kr gE) <| hwk 1 (wk_gcK (live:=[10,12,43]) (keep:=[4,6,7,5,1,0,2,3]) 3 Ag AV.bool [] (fun f a=>rfl) (fun f a=>rfl) kr gE) <| hrg 0 Tryd.func158 <| hlp 2 (fun s15=>⟨[(0,.yld 8),(3,.int .u64 s15.1)],(Xj (oX true true 1 (.int .u64 s15.2.1)) p1 p2 p0 x14)++[Zv Ag AV.bool s15.2.2,Qpb],16⟩) (fun v=>(.exit 0,⟨[],(Xj (oX true true 1 (.int .u64 v.1)) p1 p2 p0 x14)++[Zv Ag AV.bool v.2,Qpb],16⟩)) (wk_gcK (live:=[0,3]) (keep:=[]) 7 Ag AV.bool [] (fun f a=>rfl) (fun f a=>rfl) kr kr) (fun s15=>?_) fun x92=>?_
 ·refine hbr 2 [6] (?_) ?_
  ·refine hcl 3 [] (Qz s15.1) fun x18 _=>hyl 0 <| hrc 4 9 (fun s20=>⟨[(0,.agg [vI s20.1,vB s20.2.1]),(1,.ptr 3 0 0),(2,.ptr 4 0 0),(3,.ptr 0 0 0),(4,.ptr 5 0 0),(5,.ptr 1 0 0),(6,.ptr 6 0 0)],(Xj (oX true true 1 (.int .u64 s20.2.2.1)) p1 p2 p0 x14)++[Zv Ag AV.bool s20.2.2.2,Xy],74⟩) (fun v=>⟨[],(Xj (oX true true 1 (.int .u64 v.1)) p1 p2 p0 x14)++[Zv Ag AV.bool v.2,Xy],74⟩) Tryd.func147 (fun r21 i22 s20=>?_) fun x89=>?_
   ·refine hop 3 (fun _=>Qsy (ob:=7) (kt:=234) (c:=false) (ke:=Ag) (enc:=AV.bool) (e:=Ah) (l:=s20.2.2.2) (n:=(Ad.mk s20.1 s20.2.1)) (z:=false) kr (fun _ _=>by kernel_rfl) kr (fun _=>rfl) gE) <| hbr 0 [12] (?_) ?_
    ·refine hwk 1 (wk_gcK (live:=[]) (keep:=[]) 7 Ag AV.bool s20.2.2.2 (fun f a=>rfl) (fun f a=>rfl) kr gE) <| hre 1 (wk_gcK (live:=[]) (keep:=[]) 7 Ag AV.bool s20.2.2.2 (fun f a=>rfl) (fun f a=>rfl) kr kr)
    refine hop 3 (fun _=>Qtk (ob:=7) (kt:=234) (ke:=Ag) (enc:=AV.bool) (e:=Ah) (l:=s20.2.2.2) (n:=(Ad.mk s20.1 s20.2.1)) (v:=true) kr (fun _ _=>by kernel_rfl) kr gE kr) <| hoh 3 (fun _ _ h k=>Z6 (k:=.u64) (k':=.i64) (a:=p2) (b:=s20.1) kr gE h k) <| hbr 2 [20] (?_) ?_
    ·refine hoh 5 (fun _ _ h k=>Qgq (k:=.u64) (k':=.i64) (a:=1) (b:=s20.1) kr gE h k) <| hbd fun a27 q28=>hop 6 (fun _=>Qk (enc:=(AV.int .u64)) (l:=p0.children) (n:=s20.1) (fl:=true) (w:=1) (a:=a27) kr kr gE q28) <| hil 1 Tryd.func148 <| hwk 4 (wk_gcK (live:=[2]) (keep:=[10]) 7 Ag AV.bool (kput Ah s20.2.2.2 (Ad.mk s20.1 s20.2.1) true) (fun f a=>rfl) (fun f a=>rfl) kr gE) <| hwk 1 (wk_gcK (live:=[2,4,5,6,7,32]) (keep:=[9,10]) 7 Ag AV.bool (kput Ah s20.2.2.2 (Ad.mk s20.1 s20.2.1) true) (fun f a=>rfl) (fun f a=>rfl) kr gE) <| hrg 0 Tryd.func158 <| hlp 2 (fun s29=>⟨[(0,.yld 11),(3,.int .u64 s29.1)],(Xj (oX true true 1 (.int .u64 s29.2.1)) p1 p2 p0 x14)++[Zv Ag AV.bool s29.2.2,Xy,oX true true 2 (.agg [vI s20.1,vB s20.2.1]),oX true true 1 (.int .u64 a27),Qok],16⟩) (fun v=>(.exit 0,⟨[],(Xj (oX true true 1 (.int .u64 v.1)) p1 p2 p0 x14)++[Zv Ag AV.bool v.2,Xy,oX true true 2 (.agg [vI s20.1,vB s20.2.1]),oX true true 1 (.int .u64 a27),Qok],16⟩)) (wk_gcK (live:=[0,3]) (keep:=[]) 7 Ag AV.bool (kput Ah s20.2.2.2 (Ad.mk s20.1 s20.2.1) true) (fun f a=>rfl) (fun f a=>rfl) kr kr) (fun s29=>?_) fun x36=>?_
     ·refine hbr 2 [6] (?_) ?_
      ·refine hcl 3 [] (Qz s29.1) fun x32 _=>hyl 0 <| hri 4 9 (fun v=>[(0,oX true true 1 (.int .u64 v.1)),(7,Zv Ag AV.bool v.2)]) [0,7] Tryd.func147 (Yp 7 Ag AV.bool s29.2.2 kr (fun _=>rfl) (fun _=>rfl) kr) (fun v=>Yp 7 Ag AV.bool v.2 kr (fun _=>rfl) (fun _=>rfl) kr) i22 fun x34=>hnx 7 (wk_gcK (live:=[0,3]) (keep:=[]) 7 Ag AV.bool x34.2 (fun f a=>rfl) (fun f a=>rfl) kr kr)
      refine hdx 1 (wk_gcK (live:=[]) (keep:=[]) 7 Ag AV.bool s29.2.2 (fun f a=>rfl) (fun f a=>rfl) kr kr)
     refine hbt 3 (fun b37=>⟨[(2,.ptr 4 0 0),(4,.ptr 5 0 0),(5,.ptr 1 0 0),(6,.ptr 6 0 0),(7,.ptr 9 0 0),(32,.fn (.func 158) [] [.ptr 10 0 0]),(38,.ptr 9 0 1),(39,vB b37),(40,vB b37)],(Xj (oX true true 1 (.int .u64 x36.1)) p1 p2 p0 x14)++[Zv Ag AV.bool x36.2,Xy,oX true true 2 (.agg [vI s20.1,vB b37]),oX true true 1 (.int .u64 a27),.dead],74⟩) (fun _=>?_) (fun _=>?_)
     ·refine hoh 3 (fun _ _ h k=>Z6 (k:=.u64) (k':=.i64) (a:=x14) (b:=s20.1) kr gE h k) <| hbr 4 [46,47,48] (?_) ?_
      ·refine hwk 13 (wk_gcK (live:=[]) (keep:=[]) 7 Ag AV.bool x36.2 (fun f a=>rfl) (fun f a=>rfl) kr gE) <| hre 1 (wk_gcK (live:=[]) (keep:=[]) 7 Ag AV.bool x36.2 (fun f a=>rfl) (fun f a=>rfl) kr kr)
      refine hbd fun a41 q42=>hop 18 (fun _=>Qk (enc:=(AV.int .u64)) (l:=p0.ancestry.parents) (n:=s20.1) (fl:=true) (w:=1) (a:=a41) kr kr gE q42) <| hil 1 Tryd.func148 <| hwk 4 (wk_gcK (live:=[2]) (keep:=[12]) 7 Ag AV.bool x36.2 (fun f a=>rfl) (fun f a=>rfl) kr gE) <| hwk 1 (wk_gcK (live:=[5,68]) (keep:=[12]) 7 Ag AV.bool x36.2 (fun f a=>rfl) (fun f a=>rfl) kr gE) <| hrg 0 Tryd.func158 <| hlp 2 (fun s43=>⟨[(0,.yld 10),(3,.int .u64 s43.1)],(Xj (oX true true 1 (.int .u64 s43.2.1)) p1 p2 p0 x14)++[Zv Ag AV.bool s43.2.2,Xy,oX true true 1 (.int .u64 a41),Kj],16⟩) (fun v=>(.exit 0,⟨[],(Xj (oX true true 1 (.int .u64 v.1)) p1 p2 p0 x14)++[Zv Ag AV.bool v.2,Xy,oX true true 1 (.int .u64 a41),Kj],16⟩)) (wk_gcK (live:=[0,3]) (keep:=[]) 7 Ag AV.bool x36.2 (fun f a=>rfl) (fun f a=>rfl) kr kr) (fun s43=>?_) fun x50=>?_
      ·refine hbr 2 [6] (?_) ?_
       ·refine hcl 3 [] (Qz s43.1) fun x46 _=>hyl 0 <| hri 4 9 (fun v=>[(0,oX true true 1 (.int .u64 v.1)),(7,Zv Ag AV.bool v.2)]) [0,7] Tryd.func147 (Yp 7 Ag AV.bool s43.2.2 kr (fun _=>rfl) (fun _=>rfl) kr) (fun v=>Yp 7 Ag AV.bool v.2 kr (fun _=>rfl) (fun _=>rfl) kr) i22 fun x48=>hnx 7 (wk_gcK (live:=[0,3]) (keep:=[]) 7 Ag AV.bool x48.2 (fun f a=>rfl) (fun f a=>rfl) kr kr)
       refine hdx 1 (wk_gcK (live:=[]) (keep:=[]) 7 Ag AV.bool s43.2.2 (fun f a=>rfl) (fun f a=>rfl) kr kr)
      refine hre 0 (wk_gcK (live:=[]) (keep:=[]) 7 Ag AV.bool x50.2 (fun f a=>rfl) (fun f a=>rfl) kr kr)
     refine hoh 15 (fun _ _ h k=>Z6 (k:=.u64) (k':=.i64) (a:=p2) (b:=s20.1) kr gE h k) <| hbr 4 [58,59,60] (?_) ?_
     ·refine hwk 1 (wk_gcK (live:=[]) (keep:=[]) 7 Ag AV.bool x36.2 (fun f a=>rfl) (fun f a=>rfl) kr gE) <| hre 1 (wk_gcK (live:=[]) (keep:=[]) 7 Ag AV.bool x36.2 (fun f a=>rfl) (fun f a=>rfl) kr kr)
     refine hbd fun a53 q54=>hop 6 (fun _=>Qk (enc:=(AV.int .u64)) (l:=p0.ancestry.parents) (n:=s20.1) (fl:=true) (w:=1) (a:=a53) kr kr gE q54) <| hil 1 Tryd.func148 <| hwk 4 (wk_gcK (live:=[2]) (keep:=[12]) 7 Ag AV.bool x36.2 (fun f a=>rfl) (fun f a=>rfl) kr gE) <| hwk 1 (wk_gcK (live:=[5,68]) (keep:=[12]) 7 Ag AV.bool x36.2 (fun f a=>rfl) (fun f a=>rfl) kr gE) <| hrg 0 Tryd.func158 <| hlp 2 (fun s55=>⟨[(0,.yld 10),(3,.int .u64 s55.1)],(Xj (oX true true 1 (.int .u64 s55.2.1)) p1 p2 p0 x14)++[Zv Ag AV.bool s55.2.2,Xy,oX true true 1 (.int .u64 a53),Kj],16⟩) (fun v=>(.exit 0,⟨[],(Xj (oX true true 1 (.int .u64 v.1)) p1 p2 p0 x14)++[Zv Ag AV.bool v.2,Xy,oX true true 1 (.int .u64 a53),Kj],16⟩)) (wk_gcK (live:=[0,3]) (keep:=[]) 7 Ag AV.bool x36.2 (fun f a=>rfl) (fun f a=>rfl) kr kr) (fun s55=>?_) fun x62=>?_
     ·refine hbr 2 [6] (?_) ?_
      ·refine hcl 3 [] (Qz s55.1) fun x58 _=>hyl 0 <| hri 4 9 (fun v=>[(0,oX true true 1 (.int .u64 v.1)),(7,Zv Ag AV.bool v.2)]) [0,7] Tryd.func147 (Yp 7 Ag AV.bool s55.2.2 kr (fun _=>rfl) (fun _=>rfl) kr) (fun v=>Yp 7 Ag AV.bool v.2 kr (fun _=>rfl) (fun _=>rfl) kr) i22 fun x60=>hnx 7 (wk_gcK (live:=[0,3]) (keep:=[]) 7 Ag AV.bool x60.2 (fun f a=>rfl) (fun f a=>rfl) kr kr)
      refine hdx 1 (wk_gcK (live:=[]) (keep:=[]) 7 Ag AV.bool s55.2.2 (fun f a=>rfl) (fun f a=>rfl) kr kr)
     refine hre 0 (wk_gcK (live:=[]) (keep:=[]) 7 Ag AV.bool x62.2 (fun f a=>rfl) (fun f a=>rfl) kr kr)
    refine hbt 4 (fun b63=>⟨[(0,.agg [vI s20.1,vB b63]),(1,.ptr 3 0 0),(2,.ptr 4 0 0),(3,.ptr 0 0 0),(4,.ptr 5 0 0),(5,.ptr 1 0 0),(6,.ptr 6 0 0),(7,.ptr 9 0 0),(10,.mp 7),(11,.agg [vI s20.1,vB b63]),(12,vB false),(13,.mp 7),(14,.agg [vI s20.1,vB b63]),(15,.int .u64 p2),(16,.ptr 9 0 0),(17,vI s20.1),(18,.int .u64 (Int.fdiv p2 (2^min (zt s20.1) zk))),(19,.int .u64 (zv (zb (Int.fdiv p2 (2^min (zt s20.1) zk)) &&& zb 1).toNat)),(20,vB false),(38,.ptr 9 0 1),(39,vB b63),(40,vB b63)],(Xj (oX true true 1 (.int .u64 s20.2.2.1)) p1 p2 p0 x14)++[Zv Ag AV.bool (kput Ah s20.2.2.2 (Ad.mk s20.1 s20.2.1) true),Xy,oX true true 2 (.agg [vI s20.1,vB b63])],74⟩) (fun _=>?_) (fun _=>?_)
    ·refine hoh 3 (fun _ _ h k=>Z6 (k:=.u64) (k':=.i64) (a:=x14) (b:=s20.1) kr gE h k) <| hbr 4 [46,47,48] (?_) ?_
     ·refine hwk 13 (wk_gcK (live:=[]) (keep:=[]) 7 Ag AV.bool (kput Ah s20.2.2.2 (Ad.mk s20.1 s20.2.1) true) (fun f a=>rfl) (fun f a=>rfl) kr gE) <| hre 1 (wk_gcK (live:=[]) (keep:=[]) 7 Ag AV.bool (kput Ah s20.2.2.2 (Ad.mk s20.1 s20.2.1) true) (fun f a=>rfl) (fun f a=>rfl) kr kr)
     refine hbd fun a67 q68=>hop 18 (fun _=>Qk (enc:=(AV.int .u64)) (l:=p0.ancestry.parents) (n:=s20.1) (fl:=true) (w:=1) (a:=a67) kr kr gE q68) <| hil 1 Tryd.func148 <| hwk 4 (wk_gcK (live:=[2]) (keep:=[10]) 7 Ag AV.bool (kput Ah s20.2.2.2 (Ad.mk s20.1 s20.2.1) true) (fun f a=>rfl) (fun f a=>rfl) kr gE) <| hwk 1 (wk_gcK (live:=[5,68]) (keep:=[10]) 7 Ag AV.bool (kput Ah s20.2.2.2 (Ad.mk s20.1 s20.2.1) true) (fun f a=>rfl) (fun f a=>rfl) kr gE) <| hrg 0 Tryd.func158 <| hlp 2 (fun s69=>⟨[(0,.yld 10),(3,.int .u64 s69.1)],(Xj (oX true true 1 (.int .u64 s69.2.1)) p1 p2 p0 x14)++[Zv Ag AV.bool s69.2.2,Xy,oX true true 1 (.int .u64 a67),Kj],16⟩) (fun v=>(.exit 0,⟨[],(Xj (oX true true 1 (.int .u64 v.1)) p1 p2 p0 x14)++[Zv Ag AV.bool v.2,Xy,oX true true 1 (.int .u64 a67),Kj],16⟩)) (wk_gcK (live:=[0,3]) (keep:=[]) 7 Ag AV.bool (kput Ah s20.2.2.2 (Ad.mk s20.1 s20.2.1) true) (fun f a=>rfl) (fun f a=>rfl) kr kr) (fun s69=>?_) fun x76=>?_
     ·refine hbr 2 [6] (?_) ?_
      ·refine hcl 3 [] (Qz s69.1) fun x72 _=>hyl 0 <| hri 4 9 (fun v=>[(0,oX true true 1 (.int .u64 v.1)),(7,Zv Ag AV.bool v.2)]) [0,7] Tryd.func147 (Yp 7 Ag AV.bool s69.2.2 kr (fun _=>rfl) (fun _=>rfl) kr) (fun v=>Yp 7 Ag AV.bool v.2 kr (fun _=>rfl) (fun _=>rfl) kr) i22 fun x74=>hnx 7 (wk_gcK (live:=[0,3]) (keep:=[]) 7 Ag AV.bool x74.2 (fun f a=>rfl) (fun f a=>rfl) kr kr)
      refine hdx 1 (wk_gcK (live:=[]) (keep:=[]) 7 Ag AV.bool s69.2.2 (fun f a=>rfl) (fun f a=>rfl) kr kr)
     refine hre 0 (wk_gcK (live:=[]) (keep:=[]) 7 Ag AV.bool x76.2 (fun f a=>rfl) (fun f a=>rfl) kr kr)
    refine hoh 15 (fun _ _ h k=>Z6 (k:=.u64) (k':=.i64) (a:=p2) (b:=s20.1) kr gE h k) <| hbr 4 [58,59,60] (?_) ?_
    ·refine hwk 1 (wk_gcK (live:=[]) (keep:=[]) 7 Ag AV.bool (kput Ah s20.2.2.2 (Ad.mk s20.1 s20.2.1) true) (fun f a=>rfl) (fun f a=>rfl) kr gE) <| hre 1 (wk_gcK (live:=[]) (keep:=[]) 7 Ag AV.bool (kput Ah s20.2.2.2 (Ad.mk s20.1 s20.2.1) true) (fun f a=>rfl) (fun f a=>rfl) kr kr)
    refine hbd fun a79 q80=>hop 6 (fun _=>Qk (enc:=(AV.int .u64)) (l:=p0.ancestry.parents) (n:=s20.1) (fl:=true) (w:=1) (a:=a79) kr kr gE q80) <| hil 1 Tryd.func148 <| hwk 4 (wk_gcK (live:=[2]) (keep:=[10]) 7 Ag AV.bool (kput Ah s20.2.2.2 (Ad.mk s20.1 s20.2.1) true) (fun f a=>rfl) (fun f a=>rfl) kr gE) <| hwk 1 (wk_gcK (live:=[5,68]) (keep:=[10]) 7 Ag AV.bool (kput Ah s20.2.2.2 (Ad.mk s20.1 s20.2.1) true) (fun f a=>rfl) (fun f a=>rfl) kr gE) <| hrg 0 Tryd.func158 <| hlp 2 (fun s81=>⟨[(0,.yld 10),(3,.int .u64 s81.1)],(Xj (oX true true 1 (.int .u64 s81.2.1)) p1 p2 p0 x14)++[Zv Ag AV.bool s81.2.2,Xy,oX true true 1 (.int .u64 a79),Kj],16⟩) (fun v=>(.exit 0,⟨[],(Xj (oX true true 1 (.int .u64 v.1)) p1 p2 p0 x14)++[Zv Ag AV.bool v.2,Xy,oX true true 1 (.int .u64 a79),Kj],16⟩)) (wk_gcK (live:=[0,3]) (keep:=[]) 7 Ag AV.bool (kput Ah s20.2.2.2 (Ad.mk s20.1 s20.2.1) true) (fun f a=>rfl) (fun f a=>rfl) kr kr) (fun s81=>?_) fun x88=>?_
    ·refine hbr 2 [6] (?_) ?_
     ·refine hcl 3 [] (Qz s81.1) fun x84 _=>hyl 0 <| hri 4 9 (fun v=>[(0,oX true true 1 (.int .u64 v.1)),(7,Zv Ag AV.bool v.2)]) [0,7] Tryd.func147 (Yp 7 Ag AV.bool s81.2.2 kr (fun _=>rfl) (fun _=>rfl) kr) (fun v=>Yp 7 Ag AV.bool v.2 kr (fun _=>rfl) (fun _=>rfl) kr) i22 fun x86=>hnx 7 (wk_gcK (live:=[0,3]) (keep:=[]) 7 Ag AV.bool x86.2 (fun f a=>rfl) (fun f a=>rfl) kr kr)
     refine hdx 1 (wk_gcK (live:=[]) (keep:=[]) 7 Ag AV.bool s81.2.2 (fun f a=>rfl) (fun f a=>rfl) kr kr)
    refine hre 0 (wk_gcK (live:=[]) (keep:=[]) 7 Ag AV.bool x88.2 (fun f a=>rfl) (fun f a=>rfl) kr kr)
   refine hnx 7 (wk_gcK (live:=[0,3]) (keep:=[]) 7 Ag AV.bool x89.2 (fun f a=>rfl) (fun f a=>rfl) kr kr)
  refine hdx 1 (wk_gcK (live:=[]) (keep:=[]) 7 Ag AV.bool s15.2.2 (fun f a=>rfl) (fun f a=>rfl) kr kr)
 refine hrt 3
theorem Ys (p0:(List Int)) (p1:Int) (p2:Int) (p3:Int):Ct Tryd.prog 74 [eL true (AV.int .u64) p0,.int .u64 p1,.int .u64 p2,.int .u64 p3] (Yg p0 p1 p2 p3) (fun x=>.tup [vB x.1,vI x.2]) (fun x=>[]):=by
 refine hfn [] Tryd.func74 <| hcl 3 [] (g_separate_read_ok p0) fun x1 _=>hop 3 (fun _=>sgL false [] [] false gE) <| hbr 4 [18] (hrt 5) <| ?_
 refine hop 5 (fun _=>sgL false [] [] true gE) <| hcl 0 [] (g_separate_graph_disjoint_ok x1.1 [p1,p2,p3]) fun x5 _=>hbr 1 [26] (hrt 4) <| ?_
 refine hcl 4 [] (Qaf x1.1 p1 p3) fun x9 _=>hrt 6
theorem g_act_Rule_ok (p0:Qb) (p1:Int) (p2:Int) (p3:Int) (p4:Int) (p5:Int):Ct Tryd.prog 31 [.agg [vI p0.Grain,eL false Ae p0.Nodes],vI p1,.int .u64 p2,.int .u64 p3,.int .u64 p4,.int .u64 p5] (Xx p0 p1 p2 p3 p4 p5) (fun x=>.tup [vB x.1,vI x.2]) (fun x=>[]):=by
 refine hfn [] Tryd.func31 <| hop 0 (fun _=>sgL false [] [] false gE) <| hcl 3 [] (us:=[.agg [vI p0.Grain,eL false Ae p0.Nodes],.nils]) (rv:=fun x1=>vI x1) (ro:=fun x1=>[]) (fun x1 q2=>Q1.args [[.keep,.keep],[.lst false]] (g_act_check_ok p0 [] x1 q2)) fun x1 _=>hbr 3 [23] (hrt 5) <| ?_
 refine hil 1 Tryd.func72 <| hwk 7 (wl [0] [1]) <| hqj 2 [1,27] [] [] (fun _=>?_) (fun q6=>?_)
 ·refine hop 18 (fun _=>Qn (enc:=Ae) (l:=p0.Nodes) (fl:=false) kr gE) <| hoh 0 (fun _ _ h k=>Z6 (k:=.u64) (k':=.i64) (a:=zv (zb (zv (zb (zv (zb p2 ||| zb p3).toNat) ||| zb p4).toNat) ||| zb p5).toNat) (b:=(zn p0.Nodes)) kr gE h k) <| hbr 2 [45,46] (hrt 4) <| ?_
  refine hbr 6 [50,51] (hrt 21) <| ?_
  refine hbr 8 [57,58,59] (hrt 13) <| ?_
  refine hbr 9 [67,68] (hrt 4) <| ?_
  refine hcl 2 [] (Vn p0) fun x15 _=>hbr 7 [75] (hrt 5) <| ?_
  refine hbr 4 [78,79] (hrt 7) <| ?_
  refine hbr 3 [81,82] (hrt 4) <| ?_
  refine hop 4 (fun _=>sgL false [] [] false gE) <| hcl 6 [] (g_act_graph_first_ok (Aa.mk (Ac.mk x15.1)) p3 p4 p5) fun x23 _=>hcl 7 [F (AV.int .u64) x23.sets.parents] (Ys x23.sets.parents p2 p3 (zv (zb p4 ||| zb p5).toNat)) fun x25 _=>hrt 5
 refine hqj 0 [1,27] [] [] (fun _=>?_) (fun q28=>?_)
 ·refine hop 18 (fun _=>Qn (enc:=Ae) (l:=p0.Nodes) (fl:=false) kr gE) <| hoh 0 (fun _ _ h k=>Z6 (k:=.u64) (k':=.i64) (a:=zv (zb (zv (zb (zv (zb p2 ||| zb p3).toNat) ||| zb p4).toNat) ||| zb p5).toNat) (b:=(zn p0.Nodes)) kr gE h k) <| hbr 2 [45,46] (hrt 4) <| ?_
  refine hbr 6 [50,51] (hrt 21) <| ?_
  refine hbr 8 [57,58,59] (hrt 13) <| ?_
  refine hbr 9 [67,68] (hrt 4) <| ?_
  refine hcl 2 [] (Vn p0) fun x37 _=>hbr 7 [75] (hrt 5) <| ?_
  refine hbr 4 [78,79] (hrt 7) <| ?_
  refine hbr 3 [81,82] (hrt 4) <| ?_
  refine hop 4 (fun _=>sgL false [] [] false gE) <| hcl 6 [] (g_act_graph_second_ok (Aa.mk (Ac.mk x37.1)) p3 p4 p5) fun x45 _=>hcl 7 [F (AV.int .u64) x45.sets.parents] (Ys x45.sets.parents p2 p3 (zv (zb p4 ||| zb p5).toNat)) fun x47 _=>hrt 5
 refine hqj 0 [1,27] [] [] (fun _=>?_) (fun q50=>?_)
 ·refine hop 18 (fun _=>Qn (enc:=Ae) (l:=p0.Nodes) (fl:=false) kr gE) <| hoh 0 (fun _ _ h k=>Z6 (k:=.u64) (k':=.i64) (a:=zv (zb (zv (zb (zv (zb p2 ||| zb p3).toNat) ||| zb p4).toNat) ||| zb p5).toNat) (b:=(zn p0.Nodes)) kr gE h k) <| hbr 2 [45,46] (hrt 4) <| ?_
  refine hbr 6 [50,51] (hrt 21) <| ?_
  refine hbr 8 [57,58,59] (hrt 13) <| ?_
  refine hbr 9 [67,68] (hrt 4) <| ?_
  refine hcl 2 [] (Vn p0) fun x59 _=>hbr 7 [75] (hrt 5) <| ?_
  refine hbr 4 [78,79] (hrt 7) <| ?_
  refine hbr 3 [81,82] (hrt 4) <| ?_
  refine hop 4 (fun _=>sgL false [] [] false gE) <| hcl 6 [] (g_act_graph_third_ok (Aa.mk (Ac.mk x59.1)) p3 p4 p5) fun x67 _=>hcl 7 [F (AV.int .u64) x67.sets.parents] (Ys x67.sets.parents p2 p3 (zv (zb p4 ||| zb p5).toNat)) fun x69 _=>hrt 5
 refine hop 0 (fun _=>Qs4 (ob:=1) (c:=true) (kk:=.i64) (enc:=Qtl) (l:=[(1,some 115),(2,some 116),(3,some 117)]) (n:=p1) (z:=none) (mgs q6 (mgs q28 (mgs q50 rfl))) kr kr (fun v=>by cases v <;> rfl) gE) <| hrt 25
theorem Qv (p0:Int) (p1:Int) (p2:Int) (p3:Int) (p4:Int) (p5:Bool):Ct Tryd.prog 39 [vI p0,.int .u64 p1,.int .u64 p2,.int .u64 p3,.int .u64 p4,vB p5] (Q3 p0 p1 p2 p3 p4 p5) (fun x=>vB x) (fun x=>[]):=by
 refine hfn [] Tryd.func39 <| hcl 1 [] (g_law32_chapter_ok ) fun x1 _=>hcl 5 [F Ae x1.Nodes] (g_act_Rule_ok x1 p0 p1 p2 p3 p4) fun x3 _=>hbr 9 [27,28] (hrt 5) <| ?_
 refine hrt 5
theorem g_law32_q_ok (p0:Int) (p1:Int):Ct Tryd.prog 40 [vI p0,vI p1] (Z2 p0 p1) (fun x=>.agg [vI x.N,vI x.D]) (fun x=>[]):=by
 refine hfn [] Tryd.func40 <| hrt 6
theorem Qg1 (p0:(List Qi)) (p1:(List Qi)):Ct Tryd.prog 20 [eL true Af p0,eL true Af p1] (Qd3 p0 p1) (fun x=>vB x) (fun x=>[]):=by
 refine hfn [] Tryd.func20 <| hop 2 (fun _=>Qn (enc:=Af) (l:=p0) (fl:=true) kr gE) <| hop 1 (fun _=>Qn (enc:=Af) (l:=p1) (fl:=true) kr gE) <| hbr 1 [10] (hrt 3) <| ?_
 refine hop 2 (fun _=>Qn (enc:=Af) (l:=p0) (fl:=true) kr gE) <| hlp 1 (fun s3=>⟨[(0,eL true Af p0),(1,eL true Af p1),(12,vI (zn p0)),(13,vI s3)],[],26⟩) (fun x=>match x with | .inl v=>(.ret,⟨[(4,vB false)],[],26⟩) | .inr v=>(.exit 0,⟨[],[],26⟩)) (wz []) (fun s3=>?_) (hsm (fun x13=>?_) (fun x14=>?_))
 ·refine hbr 1 [14] (?_) ?_
  ·refine hbd fun a6 q7=>hop 6 (fun _=>Qk (enc:=Af) (l:=p0) (n:=s3) (fl:=true) (w:=2) (a:=a6) kr kr gE q7) <| hbd fun a8 q9=>hop 3 (fun _=>Qk (enc:=Af) (l:=p1) (n:=s3) (fl:=true) (w:=2) (a:=a8) kr kr gE q9) <| hbr 2 [24] (hdx 2 (wz [])) <| ?_
   refine hnx 3 (wz [])
  refine hdx 1 (wz [])
 ·refine hrt 0
 refine hrt 2
theorem g_law32_effect_ok (p0:(List Int)) (p1:(List Int)) (p2:Int) (p3:(List Qi)):Ct Tryd.prog 45 [z1 p0,z1 p1,vI p2,eL true Af p3] (J1 p0 p1 p2 p3) (fun x=>vB x) (fun x=>[]):=by
 refine hfn [] Tryd.func45 <| hcl 1 [] (g_law32_chapter_ok ) fun x1 _=>hcl 3 [F Ae x1.Nodes] (g_act_Effect_ok x1 p0 p1 p2) fun x3 _=>hbr 8 [20,21] (hcl 2 [F Af x3.1] (Qg1 x3.1 p3) fun x7 _=>hrt 3) <| ?_
 refine hrt 6
theorem Q7 (w3_0:Bool):Hl Tryd.prog (fun x out=>Jm Tryd.prog Tryd.f11 [] out=some (vB x,[])) (atW Tryd.prog Tryd.f11 [true,true,true,true,true,true,true,true,true,true,true,true,true,true] ⟨[(0,vB w3_0)],[],158⟩) (Zb w3_0):=by
 refine hrt 1
theorem Zx (w2_0:Bool) (w2_1:Bool) (w2_2:Bool):Hl Tryd.prog (fun x out=>Jm Tryd.prog Tryd.f11 [] out=some (vB x,[])) (atW Tryd.prog Tryd.f11 [true,true,true,true,true,true,true,true,true,true,true,true,true] ⟨[(17,vB w2_0),(18,vB w2_1),(19,vB w2_2)],[],158⟩) (Zz w2_0 w2_1 w2_2):=by
 refine hbr 2 [17,136,137] (?_) ?_
 ·refine hbr 3 [18,138,139,140] (?_) ?_
  ·refine hbr 3 [19,141,142,143] (?_) ?_
   ·refine hcl 0 [] (Qv 2 4 1 0 0 true) fun x75 _=>hbr 2 [144,145,146] (?_) ?_
    ·refine hcl 0 [] (Qv 2 4 2 0 0 false) fun x79 _=>hbr 2 [147,148,149] (?_) ?_
     ·refine hcl 0 [] (Qv 2 4 2 0 1 true) fun x83 _=>hbr 2 [150,151,152] (?_) ?_
      ·refine hcl 0 [] (Qv 3 1 6 0 0 true) fun x87 _=>hbr 2 [153,154,155] (hcl 0 [] (Qv 1 1 4 2 0 false) fun x91 _=>hjn 2 (Q7 x91) (wz [])) <| ?_
       refine hjn 3 (Q7 false) (wz [])
      refine hjn 6 (Q7 false) (wz [])
     refine hjn 9 (Q7 false) (wz [])
    refine hjn 12 (Q7 false) (wz [])
   refine hjn 15 (Q7 false) (wz [])
  refine hjn 18 (Q7 false) (wz [])
 refine hjn 21 (Q7 false) (wz [])
theorem Jp (w1_0:Int) (w1_1:Int) (w1_2:Bool) (w1_3:Bool) (w1_4:(List Int)) (w1_5:Int) (w1_6:Int) (w1_7:(List Int)) (w1_8:Int) (w1_9:Int):Hl Tryd.prog (fun x out=>Jm Tryd.prog Tryd.f11 [] out=some (vB x,[])) (atW Tryd.prog Tryd.f11 [true,true,true,true,true,true,true,true,true,true,true,true] ⟨[(11,.ref 0 0 w1_4.length),(12,.ptr 1 0 0),(13,vI w1_0),(14,.ref 2 0 w1_7.length),(15,.ptr 3 0 0),(16,vI w1_1),(17,vB w1_2),(18,vB w1_3)],[oR true 1 eI w1_4,oX true true 2 (.agg [vI w1_5,vI w1_6]),oR true 1 eI w1_7,oX true true 2 (.agg [vI w1_8,vI w1_9])],158⟩) (Vw w1_0 w1_1 w1_2 w1_3 w1_4 w1_5 w1_6 w1_7 w1_8 w1_9):=by
 refine hbr 4 [111,112] (?_) ?_
 ·refine hop 1 (fun _=>sgL false [] [] true gE) <| hcl 0 [F eI w1_4] (g_law32_ints_ok w1_4 [1,1,-1]) fun x53 _=>hbr 2 [115,116,117] (?_) ?_
  ·refine hcl 1 [] (g_law32_q_ok 1 1) fun x57 _=>hbr 3 [120,121,122] (?_) ?_
   ·refine hbr 4 [124,125,126] (?_) ?_
    ·refine hop 1 (fun _=>sgL false [] [] true gE) <| hcl 0 [F eI w1_7] (g_law32_ints_ok w1_7 [-1,0,-1]) fun x63 _=>hbr 2 [129,130,131] (hcl 1 [] (g_law32_q_ok 3 4) fun x67 _=>hjn 3 (Zx w1_2 w1_3 ((w1_8==x67.N) && ((w1_9==x67.D) && true))) (wz [])) <| ?_
     refine hjn 5 (Zx w1_2 w1_3 false) (wz [])
    refine hjn 10 (Zx w1_2 w1_3 false) (wz [])
   refine hjn 14 (Zx w1_2 w1_3 false) (wz [])
  refine hjn 19 (Zx w1_2 w1_3 false) (wz [])
 refine hjn 24 (Zx w1_2 w1_3 false) (wz [])
theorem Zg (w0_0:Int) (w0_1:Int) (w0_2:Bool) (w0_3:(List Int)) (w0_4:Int) (w0_5:Int) (w0_6:(List Int)) (w0_7:Int) (w0_8:Int):Hl Tryd.prog (fun x out=>Jm Tryd.prog Tryd.f11 [] out=some (vB x,[])) (atW Tryd.prog Tryd.f11 [true,true,true,true,true,true,true,true,true,true,true] ⟨[(11,.ref 0 0 w0_3.length),(12,.ptr 1 0 0),(13,vI w0_0),(14,.ref 2 0 w0_6.length),(15,.ptr 3 0 0),(16,vI w0_1),(17,vB w0_2)],[oR true 1 eI w0_3,oX true true 2 (.agg [vI w0_4,vI w0_5]),oR true 1 eI w0_6,oX true true 2 (.agg [vI w0_7,vI w0_8])],158⟩) (Zm w0_0 w0_1 w0_2 w0_3 w0_4 w0_5 w0_6 w0_7 w0_8):=by
 refine hop 0 (fun _=>sgL false [] [] true gE) <| hop 0 (fun _=>sgL false [] [] true gE) <| hcl 0 [] (g_law32_q_ok 1 7) fun x37 _=>hcl 0 [] (g_law32_q_ok 6 7) fun x39 _=>hop 0 (fun _=>sgL false [] [] true gE) <| hcl 0 [] (g_law32_effect_ok [-1,1,-1] [-1,-1,1] 0 [x37,x39]) fun x41 _=>hbr 1 [101,102] (?_) ?_
 ·refine hop 0 (fun _=>sgL false [] [] true gE) <| hop 0 (fun _=>sgL false [] [] true gE) <| hcl 0 [] (g_law32_q_ok 7 8) fun x45 _=>hcl 0 [] (g_law32_q_ok 1 8) fun x47 _=>hop 0 (fun _=>sgL false [] [] true gE) <| hcl 0 [] (g_law32_effect_ok [0,-1,-1] [-1,-1,-1] 2 [x45,x47]) fun x49 _=>hjn 2 (Jp w0_0 w0_1 w0_2 x49 w0_3 w0_4 w0_5 w0_6 w0_7 w0_8) (wz [0,1,2,3])
 refine hjn 8 (Jp w0_0 w0_1 w0_2 false w0_3 w0_4 w0_5 w0_6 w0_7 w0_8) (wz [0,1,2,3])
theorem g_law32_works_ok  : Ct Tryd.prog 11 [] (Qd0) (fun x=>vB x) (fun x=>[]):=by
 refine hfn [] Tryd.func11 <| hcl 1 [] (g_law32_chapter_ok ) fun x1 _=>hop 0 (fun _=>sgL false [] [] false gE) <| hop 2 (fun _=>sgL false [] [] true gE) <| hcl 0 [F Ae x1.Nodes] (g_act_Do_ok x1 [-1,1,-1]) fun x3 _=>hop 3 (fun _=>sgL false [] [] false gE) <| hcl 2 [] (g_law32_chapter_ok ) fun x5 _=>hop 0 (fun _=>sgL false [] [] false gE) <| hop 3 (fun _=>sgL false [] [] true gE) <| ?_
 refine hbs 0 [.lst true] false [] <| hbd fun a7 q8=>hop 1 (fun _=>Ze (enc:=Ae) (l:=x5.Nodes) (n:=1) (w:=3) (ob:=5) (ro:=false) (nr:=true) (fl:=false) (a:=a7) kr kr gE q8) <| hwk 0 (wsn 32 []) <| hop 0 (fun _=>Qor (enc:=Ae) (l:=x5.Nodes) (n:=1) (ob:=5) (w:=3) (bx:=false) (nr:=true) (fl:=false) (c:=0) (a:=a7) (a':=(Qe.mk 2 [] [[0,4]])) (v:=.agg [vI 2,.nils,.lst false [.lst true [vI 0,vI 4]]]) [.keep,.lst true,.lst false] false kr kr q8 kr kr (.agg [vI 2,.nils,.lst false [.lst true [vI 0,vI 4]]]) kr kr (fun _=>kr) gE kr) <| hkn 0 (fun n122=>⟨[(0,vB false),(20,.agg [vI x1.Grain,.ref 0 0 x1.Nodes.length]),(1,.ptr 1 0 0),(22,.agg [vI x1.Grain,.ref 0 0 x1.Nodes.length]),(23,.ref 2 0 3),(24,.tup [.agg [vI x3.1.Grain,.ref 3 0 x3.1.Nodes.length],vI x3.2]),(21,.tup [.agg [vI x3.1.Grain,.ref 3 0 x3.1.Nodes.length],vI x3.2]),(25,.agg [vI x3.1.Grain,.ref 3 0 x3.1.Nodes.length]),(26,vI x3.2),(2,.ptr 4 0 0),(3,vI x3.2),(27,.agg [vI x5.Grain,.ref 5 0 n122]),(4,.ptr 6 0 0),(28,.ptr 6 0 1),(29,.ref 5 0 n122),(30,.ref 7 0 2),(31,.ref 8 0 1),(32,.agg [vI 2,.nils,.lst false [.lst true [vI 0,vI 4]]]),(33,.ptr 5 (zt 1) 0)],[.row false true true false 3 (List.map Ae x1.Nodes),oX false false 2 (.agg [vI x1.Grain,.ref 0 0 x1.Nodes.length]),.row false true true true 1 [vI (-1),vI 1,vI (-1)],oR false 3 Ae x3.1.Nodes,oX false false 2 (.agg [vI x3.1.Grain,.ref 3 0 x3.1.Nodes.length]),oR false 3 Ae (List.set x5.Nodes (zt 1) (Qe.mk 2 [] [[0,4]])),oX false false 2 (.agg [vI x5.Grain,.ref 5 0 n122]),.row false true true true 1 [vI 0,vI 4],.row false true true false 1 [.lst true [vI 0,vI 4]]],158⟩) (ls x5.Nodes (zt 1) (Qe.mk 2 [] [[0,4]])) <| hop 1 (fun _=>sgL false [] [] true gE) <| hop 0 (fun _=>sgL false [] [] true gE) <| hcl 0 [F Ae x1.Nodes] (g_act_Chance_ok x1 [-1,1,-1] [-1,-1,1]) fun x94 _=>?_
 refine hop 7 (fun _=>sgL false [] [] true gE) <| hop 0 (fun _=>sgL false [] [] true gE) <| hcl 0 [F Ae x1.Nodes] (g_act_Chance_ok x1 [-1,1,-1] [-1,0,-1]) fun x96 _=>hop 7 (fun _=>sgL false [] [] true gE) <| hop 0 (fun _=>sgL false [] [] true gE) <| hcl 0 [F Ae x1.Nodes] (g_act_Effect_ok x1 [-1,1,-1] [-1,0,-1] 2) fun x98 _=>hcl 6 [F Ae x1.Nodes] (Xh x1 3 2 1) fun x100 _=>hcl 9 [F Ae x1.Nodes] (Xh x1 2 0 1) fun x102 _=>hbr 12 [68,69] (?_) ?_
 ·refine hcl 2 [F Ae x3.1.Nodes,F Ae (List.set x5.Nodes (zt 1) (Qe.mk 2 [] [[0,4]]))] (Kq x3.1 (Qb.mk x5.Grain (List.set x5.Nodes (zt 1) (Qe.mk 2 [] [[0,4]])))) fun x106 _=>hbr 2 [72,73,74] (?_) ?_
  ·refine hbr 4 [76,77,78] (?_) ?_
   ·refine hcl 1 [] (g_law32_q_ok 7 8) fun x112 _=>hbr 3 [81,82,83] (?_) ?_
    ·refine hbr 4 [85,86,87] (?_) ?_
     ·refine hcl 1 [] (g_law32_q_ok 0 1) fun x118 _=>hbr 3 [90,91,92] (hjn 4 (Zg x100.2.2 x102.2.2 (x98.2==7) x100.1 x100.2.1.N x100.2.1.D x102.1 x102.2.1.N x102.2.1.D) (wz [18,19,20,21])) <| ?_
      refine hjn 4 (Zg x100.2.2 x102.2.2 false x100.1 x100.2.1.N x100.2.1.D x102.1 x102.2.1.N x102.2.1.D) (wz [18,19,20,21])
     refine hjn 9 (Zg x100.2.2 x102.2.2 false x100.1 x100.2.1.N x100.2.1.D x102.1 x102.2.1.N x102.2.1.D) (wz [18,19,20,21])
    refine hjn 13 (Zg x100.2.2 x102.2.2 false x100.1 x100.2.1.N x100.2.1.D x102.1 x102.2.1.N x102.2.1.D) (wz [18,19,20,21])
   refine hjn 18 (Zg x100.2.2 x102.2.2 false x100.1 x100.2.1.N x100.2.1.D x102.1 x102.2.1.N x102.2.1.D) (wz [18,19,20,21])
  refine hjn 22 (Zg x100.2.2 x102.2.2 false x100.1 x100.2.1.N x100.2.1.D x102.1 x102.2.1.N x102.2.1.D) (wz [18,19,20,21])
 refine hjn 27 (Zg x100.2.2 x102.2.2 false x100.1 x100.2.1.N x100.2.1.D x102.1 x102.2.1.N x102.2.1.D) (wz [18,19,20,21])
end
section
attribute [local irreducible] RW WP
theorem Qy (w1_0:Int) (w1_1:Int) (w1_2:Int) (w1_3:Int) (w1_4:Int) (w1_5:Int) (w1_6:Int) (w1_7:Int) (w1_8:Int) (w1_9:Int) (w1_10:Int) (w1_11:Int) (w1_12:Int) (w1_13:Int) (w1_14:Int) (w1_15:Int) (w1_16:Bool) (w1_17:Int) (w1_18:Int) (w1_19:Int) (w1_20:Int) (w1_21:Int) (w1_22:Int) (w1_23:Int) (w1_24:Int) (w1_25:Int) (w1_26:(List Int)) (w1_27:Int) (w1_28:Int) (w1_29:(List Int)) (w1_30:Int) (w1_31:Int) (w1_32:(List Qe)) (w1_33:(List Qe)):Hl Tryd.prog (fun x out=>Jm Tryd.prog Tryd.f8 [] out=some (vB x,[])) (atW Tryd.prog Tryd.f8 [true,true,true,true,true,true,true,true,true,true,true,true,true,true,true,true,true,true,true,true,true,true] ⟨[(1,.ptr 0 0 0),(2,.ref 1 0 3),(3,.ptr 2 0 0),(4,vI w1_0),(5,.ptr 3 0 0),(6,vI w1_1),(7,.ptr 4 0 0),(8,vI w1_2),(10,vI w1_3),(12,vI w1_4),(14,vI w1_5),(16,vI w1_6),(18,vI w1_7),(20,vI w1_8),(22,vI w1_9),(25,vI w1_10),(28,vI w1_11),(31,vI w1_12),(32,.ref 5 0 w1_26.length),(33,.ptr 6 0 0),(34,vI w1_13),(35,.ref 7 0 w1_29.length),(36,.ptr 8 0 0),(37,vI w1_14),(44,vI w1_15),(45,vB w1_16)],[oX false false 2 (.agg [vI w1_17,.ref 9 0 w1_32.length]),.row false true true true 1 [vI w1_18,vI w1_19,vI w1_20],oX false false 2 (.agg [vI w1_21,.ref 10 0 w1_33.length]),oX true true 2 (.agg [vI w1_22,vI w1_23]),oX true true 2 (.agg [vI w1_24,vI w1_25]),oR true 1 eI w1_26,oX true true 2 (.agg [vI w1_27,vI w1_28]),oR true 1 eI w1_29,oX true true 2 (.agg [vI w1_30,vI w1_31]),.row false true true false 3 (List.map Ae w1_32),oR false 3 Ae w1_33],293⟩) (Q0 w1_0 w1_1 w1_2 w1_3 w1_4 w1_5 w1_6 w1_7 w1_8 w1_9 w1_10 w1_11 w1_12 w1_13 w1_14 w1_15 w1_16 w1_17 w1_18 w1_19 w1_20 w1_21 w1_22 w1_23 w1_24 w1_25 w1_26 w1_27 w1_28 w1_29 w1_30 w1_31 w1_32 w1_33):=by
 refine hbr 6 [193,194,195] (?_) ?_
 ·refine hcl 2 [F Ae w1_33,F Ae w1_32] (Kq (Qb.mk w1_21 w1_33) (Qb.mk w1_17 w1_32)) fun x112 _=>hbr 2 [198,199,200] (?_) ?_
  ·refine hbr 4 [202,203,204] (?_) ?_
   ·refine hcl 1 [] (g_law32_q_ok 1 1) fun x118 _=>hbr 3 [207,208,209] (?_) ?_
    ·refine hbr 4 [211,212,213] (?_) ?_
     ·refine hcl 1 [] (g_law32_q_ok 1 1) fun x124 _=>hbr 3 [216,217,218] (?_) ?_
      ·refine hbr 4 [220,221,222] (?_) ?_
       ·refine hbr 4 [224,225,226] (?_) ?_
        ·refine hbr 4 [228,229,230] (?_) ?_
         ·refine hbr 4 [232,233,234] (?_) ?_
          ·refine hbr 4 [236,237,238] (?_) ?_
           ·refine hbr 4 [240,241,242] (?_) ?_
            ·refine hbr 4 [244,245,246] (?_) ?_
             ·refine hbr 4 [248,249,250] (?_) ?_
              ·refine hbr 4 [252,253,254] (?_) ?_
               ·refine hbr 4 [256,257,258] (?_) ?_
                ·refine hbr 4 [260,261,262] (?_) ?_
                 ·refine hcl 2 [F eI w1_26] (g_law32_ints_ok w1_26 [w1_18,w1_19,w1_20]) fun x150 _=>hbr 2 [265,266,267] (?_) ?_
                  ·refine hcl 1 [] (g_law32_q_ok 47 64) fun x154 _=>hbr 3 [270,271,272] (?_) ?_
                   ·refine hbr 4 [274,275,276] (?_) ?_
                    ·refine hop 1 (fun _=>sgL false [] [] true gE) <| hcl 0 [F eI w1_29] (g_law32_ints_ok w1_29 [1,0,0]) fun x160 _=>hbr 2 [279,280,281] (?_) ?_
                     ·refine hcl 1 [] (g_law32_q_ok 1 1) fun x164 _=>hbr 3 [284,285,286] (?_) ?_
                      ·refine hbr 4 [288,289,290] (hrt 4) <| ?_
                       refine hrt 4
                      refine hrt 8
                     refine hrt 13
                    refine hrt 18
                   refine hrt 22
                  refine hrt 27
                 refine hrt 32
                refine hrt 36
               refine hrt 40
              refine hrt 44
             refine hrt 48
            refine hrt 52
           refine hrt 56
          refine hrt 60
         refine hrt 64
        refine hrt 68
       refine hrt 72
      refine hrt 76
     refine hrt 81
    refine hrt 85
   refine hrt 90
  refine hrt 94
 refine hrt 99
theorem Qb7 (w0_0:Int) (w0_1:Int) (w0_2:Int) (w0_3:Int) (w0_4:Int) (w0_5:Int) (w0_6:Int) (w0_7:Int) (w0_8:Int) (w0_9:Int) (w0_10:Int) (w0_11:Int) (w0_12:Int) (w0_13:Int) (w0_14:Int) (w0_15:Int) (w0_16:Int) (w0_17:Int) (w0_18:Int) (w0_19:Int) (w0_20:Int) (w0_21:Int) (w0_22:Int) (w0_23:Int) (w0_24:Int) (w0_25:(List Int)) (w0_26:Int) (w0_27:Int) (w0_28:(List Int)) (w0_29:Int) (w0_30:Int) (w0_31:(List Qe)) (w0_32:(List Qe)):Hl Tryd.prog (fun x out=>Jm Tryd.prog Tryd.f8 [] out=some (vB x,[])) (atW Tryd.prog Tryd.f8 [true,true,true,true,true,true,true,true,true,true,true,true,true,true,true,true,true,true,true,true,true] ⟨[(1,.ptr 0 0 0),(2,.ref 1 0 3),(3,.ptr 2 0 0),(4,vI w0_0),(5,.ptr 3 0 0),(6,vI w0_1),(7,.ptr 4 0 0),(8,vI w0_2),(10,vI w0_3),(12,vI w0_4),(14,vI w0_5),(16,vI w0_6),(18,vI w0_7),(20,vI w0_8),(22,vI w0_9),(25,vI w0_10),(28,vI w0_11),(31,vI w0_12),(32,.ref 5 0 w0_25.length),(33,.ptr 6 0 0),(34,vI w0_13),(35,.ref 7 0 w0_28.length),(36,.ptr 8 0 0),(37,vI w0_14),(44,vI w0_15)],[oX false false 2 (.agg [vI w0_16,.ref 9 0 w0_31.length]),.row false true true true 1 [vI w0_17,vI w0_18,vI w0_19],oX false false 2 (.agg [vI w0_20,.ref 10 0 w0_32.length]),oX true true 2 (.agg [vI w0_21,vI w0_22]),oX true true 2 (.agg [vI w0_23,vI w0_24]),oR true 1 eI w0_25,oX true true 2 (.agg [vI w0_26,vI w0_27]),oR true 1 eI w0_28,oX true true 2 (.agg [vI w0_29,vI w0_30]),.row false true true false 3 (List.map Ae w0_31),oR false 3 Ae w0_32],293⟩) (Jo w0_0 w0_1 w0_2 w0_3 w0_4 w0_5 w0_6 w0_7 w0_8 w0_9 w0_10 w0_11 w0_12 w0_13 w0_14 w0_15 w0_16 w0_17 w0_18 w0_19 w0_20 w0_21 w0_22 w0_23 w0_24 w0_25 w0_26 w0_27 w0_28 w0_29 w0_30 w0_31 w0_32):=by
 refine hcl 0 [] (Qv 1 1 2 0 0 false) fun x80 _=>hbr 1 [169,170] (?_) ?_
 ·refine hcl 0 [] (Qv 1 0 7 0 0 true) fun x84 _=>hbr 2 [171,172,173] (?_) ?_
  ·refine hcl 0 [] (Qv 3 2 1 0 0 false) fun x88 _=>hbr 2 [174,175,176] (?_) ?_
   ·refine hcl 0 [] (Qv 3 1 2 0 4 false) fun x92 _=>hbr 2 [177,178,179] (?_) ?_
    ·refine hcl 0 [] (Qv 3 1 2 0 0 true) fun x96 _=>hbr 2 [180,181,182] (?_) ?_
     ·refine hcl 0 [] (Qv 1 2 1 4 0 false) fun x100 _=>hbr 2 [183,184,185] (?_) ?_
      ·refine hcl 0 [] (Qv 1 1 2 4 0 false) fun x104 _=>hbr 2 [186,187,188] (?_) ?_
       ·refine hcl 0 [] (Qv 2 2 1 0 4 true) fun x108 _=>hjn 2 (Qy w0_0 w0_1 w0_2 w0_3 w0_4 w0_5 w0_6 w0_7 w0_8 w0_9 w0_10 w0_11 w0_12 w0_13 w0_14 w0_15 x108 w0_16 w0_17 w0_18 w0_19 w0_20 w0_21 w0_22 w0_23 w0_24 w0_25 w0_26 w0_27 w0_28 w0_29 w0_30 w0_31 w0_32) (wz [0,1,2,3,4,5,6,7,8,9,10])
       refine hjn 3 (Qy w0_0 w0_1 w0_2 w0_3 w0_4 w0_5 w0_6 w0_7 w0_8 w0_9 w0_10 w0_11 w0_12 w0_13 w0_14 w0_15 false w0_16 w0_17 w0_18 w0_19 w0_20 w0_21 w0_22 w0_23 w0_24 w0_25 w0_26 w0_27 w0_28 w0_29 w0_30 w0_31 w0_32) (wz [0,1,2,3,4,5,6,7,8,9,10])
      refine hjn 6 (Qy w0_0 w0_1 w0_2 w0_3 w0_4 w0_5 w0_6 w0_7 w0_8 w0_9 w0_10 w0_11 w0_12 w0_13 w0_14 w0_15 false w0_16 w0_17 w0_18 w0_19 w0_20 w0_21 w0_22 w0_23 w0_24 w0_25 w0_26 w0_27 w0_28 w0_29 w0_30 w0_31 w0_32) (wz [0,1,2,3,4,5,6,7,8,9,10])
     refine hjn 9 (Qy w0_0 w0_1 w0_2 w0_3 w0_4 w0_5 w0_6 w0_7 w0_8 w0_9 w0_10 w0_11 w0_12 w0_13 w0_14 w0_15 false w0_16 w0_17 w0_18 w0_19 w0_20 w0_21 w0_22 w0_23 w0_24 w0_25 w0_26 w0_27 w0_28 w0_29 w0_30 w0_31 w0_32) (wz [0,1,2,3,4,5,6,7,8,9,10])
    refine hjn 12 (Qy w0_0 w0_1 w0_2 w0_3 w0_4 w0_5 w0_6 w0_7 w0_8 w0_9 w0_10 w0_11 w0_12 w0_13 w0_14 w0_15 false w0_16 w0_17 w0_18 w0_19 w0_20 w0_21 w0_22 w0_23 w0_24 w0_25 w0_26 w0_27 w0_28 w0_29 w0_30 w0_31 w0_32) (wz [0,1,2,3,4,5,6,7,8,9,10])
   refine hjn 15 (Qy w0_0 w0_1 w0_2 w0_3 w0_4 w0_5 w0_6 w0_7 w0_8 w0_9 w0_10 w0_11 w0_12 w0_13 w0_14 w0_15 false w0_16 w0_17 w0_18 w0_19 w0_20 w0_21 w0_22 w0_23 w0_24 w0_25 w0_26 w0_27 w0_28 w0_29 w0_30 w0_31 w0_32) (wz [0,1,2,3,4,5,6,7,8,9,10])
  refine hjn 18 (Qy w0_0 w0_1 w0_2 w0_3 w0_4 w0_5 w0_6 w0_7 w0_8 w0_9 w0_10 w0_11 w0_12 w0_13 w0_14 w0_15 false w0_16 w0_17 w0_18 w0_19 w0_20 w0_21 w0_22 w0_23 w0_24 w0_25 w0_26 w0_27 w0_28 w0_29 w0_30 w0_31 w0_32) (wz [0,1,2,3,4,5,6,7,8,9,10])
 refine hjn 21 (Qy w0_0 w0_1 w0_2 w0_3 w0_4 w0_5 w0_6 w0_7 w0_8 w0_9 w0_10 w0_11 w0_12 w0_13 w0_14 w0_15 false w0_16 w0_17 w0_18 w0_19 w0_20 w0_21 w0_22 w0_23 w0_24 w0_25 w0_26 w0_27 w0_28 w0_29 w0_30 w0_31 w0_32) (wz [0,1,2,3,4,5,6,7,8,9,10])
noncomputable abbrev Qrh (x5:Qb):AObj:=oX false false 2 (.agg [vI x5.Grain,.ref 9 0 x5.Nodes.length])
noncomputable abbrev Qsl:AObj:=.row false true true true 1 [vI (-1),vI (-1),vI (-1)]
noncomputable abbrev Qrl (x7:(Qb × Int)):AObj:=oX false false 2 (.agg [vI x7.1.Grain,.ref 10 0 x7.1.Nodes.length])
noncomputable abbrev Qsb (x9:(Qi × Int)):AObj:=oX true true 2 (.agg [vI x9.1.N,vI x9.1.D])
noncomputable abbrev Qrz (x11:(Qi × Int)):AObj:=oX true true 2 (.agg [vI x11.1.N,vI x11.1.D])
noncomputable abbrev Qr5 (x33:((List Int) × Qi × Int)):AObj:=oX true true 2 (.agg [vI x33.2.1.N,vI x33.2.1.D])
noncomputable abbrev Qrt (x35:((List Int) × Qi × Int)):AObj:=oX true true 2 (.agg [vI x35.2.1.N,vI x35.2.1.D])
noncomputable abbrev Qsv (x5:Qb):AObj:=.row false true true false 3 (List.map Ae x5.Nodes)
noncomputable abbrev Qr0 (x7:(Qb × Int)):AObj:=oR false 3 Ae x7.1.Nodes
noncomputable abbrev Qcq:Nat×AV:=(149,.agg [.fn (.func 34) [] [.ptr 0 0 0],.fn (.func 35) [] [.ptr 0 0 0],.fn (.func 36) [] [.ptr 0 0 0],.fn (.func 37) [] [.ptr 0 0 0],.fn (.func 38) [] [.ptr 0 0 0]])
noncomputable abbrev l49_84 (x5:Qb) (x7:(Qb × Int)) (x9 x11:(Qi × Int)) (x33 x35:((List Int) × Qi × Int)):List AObj:=[(Qrh x5),Qsl,(Qrl x7),(Qsb x9),(Qrz x11),oR true 1 eI x33.1,(Qr5 x33),oR true 1 eI x35.1,(Qrt x35),(Qsv x5),(Qr0 x7)]
noncomputable abbrev s49_85 (x7:(Qb × Int)) (x9 x11:(Qi × Int)) (x13 x15 x17 x19:(Qb × Int)) (x21:(Qi × Int)) (x23 x25:((List Qi) × Int)) (x27 x29 x31 x33 x35:((List Int) × Qi × Int)):List (Nat×AV):=[(1,.ptr 0 0 0),(2,.ref 1 0 3),(3,.ptr 2 0 0),(4,vI x7.2),(5,.ptr 3 0 0),(6,vI x9.2),(7,.ptr 4 0 0),(8,vI x11.2),(10,vI x13.2),(12,vI x15.2),(14,vI x17.2),(16,vI x19.2),(18,vI x21.2),(20,vI x23.2),(22,vI x25.2),(25,vI x27.2.2),(28,vI x29.2.2),(31,vI x31.2.2),(32,.ref 5 0 x33.1.length),(33,.ptr 6 0 0),(34,vI x33.2.2),(35,.ref 7 0 x35.1.length),(36,.ptr 8 0 0),(37,vI x35.2.2)]
theorem g_law32_ActKnown_ok  : Ct Tryd.prog 8 [] (Qa4) (fun x=>vB x) (fun x=>[]):=by
 refine hfn [] Tryd.func8 <| hcl 1 [] (g_law32_works_ok ) fun x1 _=>hbr 1 [47] (hrt 3) <| ?_
 refine hcl 1 [] (g_law32_chapter_ok ) fun x5 _=>hop 0 (fun _=>sgL false [] [] true gE) <| hop 0 (fun _=>sgL false [] [] false gE) <| hcl 4 [F Ae x5.Nodes] (g_act_Do_ok x5 [-1,-1,-1]) fun x7 _=>hop 3 (fun _=>sgL false [] [] false gE) <| hcl 5 [F Ae x5.Nodes] (g_act_Chance_ok x5 [-1,-1,-1] [-1,-1,-1]) fun x9 _=>hop 7 (fun _=>sgL false [] [] true gE) <| hop 0 (fun _=>sgL false [] [] true gE) <| hcl 0 [F Ae x5.Nodes] (g_act_Chance_ok x5 [1,1,1] [1,1,1]) fun x11 _=>?_
 refine hcl 7 [] (us:=[.agg [vI 0,.nils],.nils]) (rv:=fun x13=>.tup [.agg [vI x13.1.Grain,.ref 0 0 x13.1.Nodes.length],vI x13.2]) (ro:=fun x13=>[oR false 3 Ae x13.1.Nodes]) (fun x13 q14=>Q1.args [[.keep,.lst false],[.lst true]] (g_act_Do_ok (Qb.mk 0 []) [] x13 q14)) fun x13 _=>hop 3 (fun _=>sgL false [] [] false gE) <| hop 3 (fun _=>sgL false [] [] true gE) <| hcl 0 [F Ae x5.Nodes] (g_act_Do_ok x5 [-1,-1]) fun x15 _=>hop 3 (fun _=>sgL false [] [] false gE) <| hop 3 (fun _=>sgL false [] [] true gE) <| hcl 0 [F Ae x5.Nodes] (g_act_Do_ok x5 [-1,2,-1]) fun x17 _=>hop 3 (fun _=>sgL false [] [] false gE) <| hop 3 (fun _=>sgL false [] [] true gE) <| ?_
 refine hcl 0 [F Ae x5.Nodes] (g_act_Do_ok x5 [-1,-2,-1]) fun x19 _=>hop 3 (fun _=>sgL false [] [] false gE) <| hcl 4 [F Ae x5.Nodes] (us:=[.agg [vI x5.Grain,eL false Ae x5.Nodes],.lst true [vI (-1),vI (-1),vI (-1)],.nils]) (rv:=fun x21=>.tup [.agg [vI x21.1.N,vI x21.1.D],vI x21.2]) (ro:=fun x21=>[]) (fun x21 q22=>Q1.args [[.keep,.keep],[.keep],[.lst true]] (g_act_Chance_ok x5 [-1,-1,-1] [] x21 q22)) fun x21 _=>hcl 9 [F Ae x5.Nodes] (g_act_Effect_ok x5 [-1,-1,-1] [-1,-1,-1] 3) fun x23 _=>hop 6 (fun _=>sgL false [] [] true gE) <| hop 0 (fun _=>sgL false [] [] true gE) <| hcl 0 [F Ae x5.Nodes] (g_act_Effect_ok x5 [-1,0,-1] [-1,1,-1] (-1)) fun x25 _=>hcl 6 [F Ae x5.Nodes] (Xh x5 8 0 0) fun x27 _=>hcl 9 [F Ae x5.Nodes] (Xh x5 1 0 2) fun x29 _=>?_
 refine hcl 9 [F Ae x5.Nodes] (Xh x5 1 0 (-1)) fun x31 _=>hcl 9 [F Ae x5.Nodes] (Xh x5 0 2 1) fun x33 _=>hcl 9 [F Ae x5.Nodes] (Xh x5 7 0 1) fun x35 _=>hop 14 (fun _=>sgL false [] [] false gE) <| hlp 3 (fun s37=>⟨(s49_85 x7 x9 x11 x13 x15 x17 x19 x21 x23 x25 x27 x29 x31 x33 x35)++[Qcq,(150,vI s37)],(l49_84 x5 x7 x9 x11 x33 x35),293⟩) (fun x=>match x with | .inl v=>(.ret,⟨[(0,vB false)],[],293⟩) | .inr v=>(.exit 0,⟨(s49_85 x7 x9 x11 x13 x15 x17 x19 x21 x23 x25 x27 x29 x31 x33 x35),(l49_84 x5 x7 x9 x11 x33 x35),293⟩)) (wz [2,1,4,5,8,31,32,33,34,0,3]) (fun s37=>?_) (hsm (fun x76=>?_) (fun x77=>?_))
 ·refine hbr 1 [151] (?_) ?_
  ·refine hqj 1 [150] [] [] (fun _=>?_) (fun _=>?_)
   ·refine hil 3 Tryd.func34 <| hcl 3 [F Ae x5.Nodes] (g_act_Rule_ok x5 0 1 2 4 0) fun x41 _=>hwk 4 (wl [1,2] []) <| hbt 8 (fun b43=>⟨(s49_85 x7 x9 x11 x13 x15 x17 x19 x21 x23 x25 x27 x29 x31 x33 x35)++[Qcq,(150,vI 0),(151,vB true),(152,.fn (.func 34) [] [.ptr 0 0 0]),(40,.fn (.func 34) [] [.ptr 0 0 0]),(154,.fn (.func 34) [] [.ptr 0 0 0]),(155,.tup [vB b43,vI x41.2]),(153,.tup [vB b43,vI x41.2]),(156,vB b43),(157,vI x41.2),(41,vB b43),(42,vI x41.2),(158,vB b43),(159,vB b43)],(l49_84 x5 x7 x9 x11 x33 x35),293⟩) (fun _=>hdx 5 (wz [])) fun _=>?_
    refine hbr 3 [161,162] (hdx 2 (wz [])) <| ?_
    refine hnx 3 (wz [0,1,2,3,4,5,6,7,8,9,10])
   refine hqj 0 [150] [] [] (fun _=>?_) (fun _=>?_)
   ·refine hil 3 Tryd.func35 <| hcl 3 [F Ae x5.Nodes] (g_act_Rule_ok x5 4 1 2 4 0) fun x48 _=>hwk 4 (wl [1,2] []) <| hbt 8 (fun b50=>⟨(s49_85 x7 x9 x11 x13 x15 x17 x19 x21 x23 x25 x27 x29 x31 x33 x35)++[Qcq,(150,vI 1),(151,vB true),(152,.fn (.func 35) [] [.ptr 0 0 0]),(40,.fn (.func 35) [] [.ptr 0 0 0]),(154,.fn (.func 35) [] [.ptr 0 0 0]),(155,.tup [vB b50,vI x48.2]),(153,.tup [vB b50,vI x48.2]),(156,vB b50),(157,vI x48.2),(41,vB b50),(42,vI x48.2),(158,vB b50),(159,vB b50)],(l49_84 x5 x7 x9 x11 x33 x35),293⟩) (fun _=>hdx 5 (wz [])) fun _=>?_
    refine hbr 3 [161,162] (hdx 2 (wz [])) <| ?_
    refine hnx 3 (wz [0,1,2,3,4,5,6,7,8,9,10])
   refine hqj 0 [150] [] [] (fun _=>?_) (fun _=>?_)
   ·refine hil 3 Tryd.func36 <| hcl 3 [F Ae x5.Nodes] (g_act_Rule_ok x5 1 1 1 0 0) fun x55 _=>hwk 4 (wl [1,2] []) <| hbt 8 (fun b57=>⟨(s49_85 x7 x9 x11 x13 x15 x17 x19 x21 x23 x25 x27 x29 x31 x33 x35)++[Qcq,(150,vI 2),(151,vB true),(152,.fn (.func 36) [] [.ptr 0 0 0]),(40,.fn (.func 36) [] [.ptr 0 0 0]),(154,.fn (.func 36) [] [.ptr 0 0 0]),(155,.tup [vB b57,vI x55.2]),(153,.tup [vB b57,vI x55.2]),(156,vB b57),(157,vI x55.2),(41,vB b57),(42,vI x55.2),(158,vB b57),(159,vB b57)],(l49_84 x5 x7 x9 x11 x33 x35),293⟩) (fun _=>hdx 5 (wz [])) fun _=>?_
    refine hbr 3 [161,162] (hdx 2 (wz [])) <| ?_
    refine hnx 3 (wz [0,1,2,3,4,5,6,7,8,9,10])
   refine hqj 0 [150] [] [] (fun _=>?_) (fun _=>?_)
   ·refine hil 3 Tryd.func37 <| hcl 3 [F Ae x5.Nodes] (g_act_Rule_ok x5 2 8 1 0 0) fun x62 _=>hwk 4 (wl [1,2] []) <| hbt 8 (fun b64=>⟨(s49_85 x7 x9 x11 x13 x15 x17 x19 x21 x23 x25 x27 x29 x31 x33 x35)++[Qcq,(150,vI 3),(151,vB true),(152,.fn (.func 37) [] [.ptr 0 0 0]),(40,.fn (.func 37) [] [.ptr 0 0 0]),(154,.fn (.func 37) [] [.ptr 0 0 0]),(155,.tup [vB b64,vI x62.2]),(153,.tup [vB b64,vI x62.2]),(156,vB b64),(157,vI x62.2),(41,vB b64),(42,vI x62.2),(158,vB b64),(159,vB b64)],(l49_84 x5 x7 x9 x11 x33 x35),293⟩) (fun _=>hdx 5 (wz [])) fun _=>?_
    refine hbr 3 [161,162] (hdx 2 (wz [])) <| ?_
    refine hnx 3 (wz [0,1,2,3,4,5,6,7,8,9,10])
   refine hqj 0 [150] [] [] (fun _=>?_) (fun _=>?_)
   ·refine hil 3 Tryd.func38 <| hcl 3 [F Ae x5.Nodes] (g_act_Rule_ok x5 3 1 2 4 6) fun x69 _=>hwk 4 (wl [1,2] []) <| hbt 8 (fun b71=>⟨(s49_85 x7 x9 x11 x13 x15 x17 x19 x21 x23 x25 x27 x29 x31 x33 x35)++[Qcq,(150,vI 4),(151,vB true),(152,.fn (.func 38) [] [.ptr 0 0 0]),(40,.fn (.func 38) [] [.ptr 0 0 0]),(154,.fn (.func 38) [] [.ptr 0 0 0]),(155,.tup [vB b71,vI x69.2]),(153,.tup [vB b71,vI x69.2]),(156,vB b71),(157,vI x69.2),(41,vB b71),(42,vI x69.2),(158,vB b71),(159,vB b71)],(l49_84 x5 x7 x9 x11 x33 x35),293⟩) (fun _=>hdx 5 (wz [])) fun _=>?_
    refine hbr 3 [161,162] (hdx 2 (wz [])) <| ?_
    refine hnx 3 (wz [0,1,2,3,4,5,6,7,8,9,10])
   refine hnn
  refine hdx 1 (wz [0,1,2,3,4,5,6,7,8,9,10])
 ·refine hrt 0
 refine hcl 1 [] (us:=[.agg [vI 0,.nils],vI 0,.int .u64 0,.int .u64 0,.int .u64 0,.int .u64 0]) (rv:=fun x78=>.tup [vB x78.1,vI x78.2]) (ro:=fun x78=>[]) (fun x78 q79=>Q1.args [[.keep,.lst false],[.keep],[.keep],[.keep],[.keep],[.keep]] (g_act_Rule_ok (Qb.mk 0 []) 0 0 0 0 0 x78 q79)) fun x78 _=>hjn 5 (Qb7 x7.2 x9.2 x11.2 x13.2 x15.2 x17.2 x19.2 x21.2 x23.2 x25.2 x27.2.2 x29.2.2 x31.2.2 x33.2.2 x35.2.2 x78.2 x5.Grain (-1) (-1) (-1) x7.1.Grain x9.1.N x9.1.D x11.1.N x11.1.D x33.1 x33.2.1.N x33.2.1.D x35.1 x35.2.1.N x35.2.1.D x5.Nodes x7.1.Nodes) (wz [0,1,2,3,4,5,6,7,8,9,10])
end
end Go.Ab
namespace Go.Ab
open Go
theorem ak_true:Qa4=some true:=by kernel_rfl
end Go.Ab
namespace Go.Ab
open Go Go.Proofs Go.Proofs.YtgogkahhifkocaaDoor
open Go.ChangeShapes Go.WideShapes Go.ChangeAt Go.RowKit
abbrev dr_laid:List (String × DataW Unit):=[("math/bits.deBruijn32tab",Rows.laid_math_bits_deBruijn32tab),("math/bits.deBruijn64tab",Rows.laid_math_bits_deBruijn64tab)]
theorem dr_own:ownKnob Tryd.prog.godebug=none:=by kernel_rfl
theorem Qqg:Tryd.prog.globalNamed "math/bits.deBruijn32tab" = some 0:=by kernel_rfl
theorem Qqq:Tryd.prog.globalNamed "math/bits.deBruijn64tab" = some 1:=by kernel_rfl
theorem dr_met (os:Os) (args:Array Value):laidMetH Tryd.prog dr_laid ((World.doorLaid Tryd.prog 19 os).forCall (fun _ _=>0) ⟨#[],args,[]⟩).memory :=
 laidMetH_of_parts3 (fuel:=8) (laidMet_of_run' 8 (by kernel_rfl) (by kernel_rfl)) (by kernel_rfl) (by kernel_rfl)
theorem dr_glob {W:World} (h:laidMetH Tryd.prog dr_laid W):Go.Ab.GlobIn W:=by
 rw [MakeChecks.laidMetH_plain _ _ _ (by kernel_rfl)] at h
 have h0:=Lib.tabIs_of_head (k:=.u8) (zs:=Go.Ab.tab0) (t:=251) (e:=5) (n:=32) Qqg (by kernel_rfl) (by kernel_rfl) (by kernel_rfl) (by kernel_rfl) (by kernel_rfl) h
 have h1:=Lib.tabIs_of_head (k:=.u8) (zs:=Go.Ab.tab1) (t:=252) (e:=5) (n:=64) Qqq (by kernel_rfl) (by kernel_rfl) (by kernel_rfl) (by kernel_rfl) (by kernel_rfl) h.tail
 intro g xs hg i v hv
 match g,hg with
 | 0,hg =>
  cases hg
  have hi:i < Go.Ab.tab0.length:=by have:=(aD.1 hv).1; simpa using this
  have:=h0.cell Qqg i hi
  rw [this]
  rw [bB] at hv
  simpa [List.getD,hi] using hv
 | 1,hg =>
  cases hg
  have hi:i < Go.Ab.tab1.length:=by have:=(aD.1 hv).1; simpa using this
  have:=h1.cell Qqq i hi
  rw [this]
  rw [bB] at hv
  simpa [List.getD,hi] using hv
 | n+2,hg=>cases hg
end Go.Ab
