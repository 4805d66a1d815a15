/- Functions. No conditions. -/
import Derived.Test.YtapoljjoedcknaaProg
import Derived.Shelf.Lays2
import Derived.Test.YtapoljjoedcknaaW10
import Derived.KernelRfl
import Derived.Test.YtapoljjoedcknaaW11
set_option linter.all false
namespace Go.Ab
open Go Go.Shelf Go.Proofs
def Qu3:Go.Shelf.Ren:=⟨fun | 21=>97 | 27=>102 | 28=>103 | 35=>106 | 39=>107 | n=>n,fun | 22=>64 | 3=>3 | 4=>4 | 0=>0 | n=>n,fun | n=>n⟩
theorem Q1z:Go.Proofs.Lays2.n21 Try.prog Qu3:={
 mixed:=by kernel_rfl,
 f21:=Try.func97.trans (congrArg some (by kernel_rfl)),
 f27:=Try.func102.trans (congrArg some (by kernel_rfl)),
 f28:=Try.func103.trans (congrArg some (by kernel_rfl)),
 f35:=Try.func106.trans (congrArg some (by kernel_rfl)),
 f39:=Try.func107.trans (congrArg some (by kernel_rfl)),
 t0:=Try.underlying0,
 a0:=Try.isAgg0,
 z0:=Try.sizeOf0,
 v0:=Try.zeroValue0,
 t3:=Try.underlying3,
 a3:=Try.isAgg3,
 z3:=Try.sizeOf3,
 v3:=Try.zeroValue3,
 t4:=Try.underlying4,
 a4:=Try.isAgg4,
 z4:=Try.sizeOf4,
 v4:=Try.zeroValue4,
 t22:=Try.underlying64,
 a22:=Try.isAgg64,
 z22:=Try.sizeOf64,
 v22:=Try.zeroValue64,
 i3:=by kernel_rfl }
end Go.Ab
namespace Go.Ab
open Go Go.Proofs
set_option maxRecDepth 100000
set_option maxHeartbeats 4000000
section
attribute [local irreducible] RW WP
noncomputable abbrev o1_1 (p0:Qd):AObj:=oX true false 4 (.agg [vI p0.Grain,vI p0.Count,vI p0.One,z2 p0.Rows])
theorem g_lift_Check_ok (p0:Qd):Ct Try.prog 14 [.agg [vI p0.Grain,vI p0.Count,vI p0.One,z2 p0.Rows]] (Xo p0) (fun x=>vI x) (fun x=>[]):=by
 refine hfn [] Try.func14 <| hop 0 (fun _=>sgL false [] [] false gE) <| hbr 5 [11,12] (hrt 38) <| ?_
 refine hbr 5 [15,16,17] (hrt 33) <| ?_
 refine hbr 5 [20,21,22] (hrt 28) <| ?_
 refine hbr 5 [25,26,27] (hrt 23) <| ?_
 refine hbr 5 [30,31,32] (hrt 18) <| ?_
 refine hbr 7 [37,38,39] (hrt 11) <| ?_
 refine hop 2 (fun _=>Qu (enc:=z1) (l:=p0.Rows) (fl:=false) kr gE) <| hbr 5 [46,47] (hrt 3) <| ?_
 refine hbd fun a15 q16=>hop 3 (fun _=>Qp (enc:=z1) (l:=p0.Rows) (n:=0) (fl:=false) (w:=1) (a:=a15) kr kr gE q16) <| hop 1 (fun _=>Qu (enc:=eI) (l:=a15) (fl:=true) kr gE) <| hbr 4 [54,55] (hrt 6) <| ?_
 refine hbr 3 [57,58] (hrt 3) <| ?_
 refine hop 3 (fun _=>Qu (enc:=z1) (l:=p0.Rows) (fl:=false) kr gE) <| hlp 1 (fun s21=>⟨[(1,.ptr 0 0 0),(3,vI (zn a15)),(60,z2 p0.Rows),(61,vI (zn p0.Rows)),(62,vI s21)],[(o1_1 p0)],92⟩) (fun x=>match x with | .inl v=>(.ret,⟨[(2,vI 140)],[],92⟩) | .inr v=>(.exit 0,⟨[],[],92⟩)) (wz [0]) (fun s21=>?_) (hsm (fun x43=>?_) (fun x44=>?_))
 ·refine hbr 1 [63] (?_) ?_
  ·refine hbd fun a24 q25=>hop 1 (fun _=>Qp (enc:=z1) (l:=p0.Rows) (n:=s21) (fl:=false) (w:=1) (a:=a24) kr kr gE q25) <| hop 3 (fun _=>Qu (enc:=eI) (l:=a24) (fl:=true) kr gE) <| hbr 2 [69] (hdx 2 (wz [])) <| ?_
   refine hop 5 (fun _=>Qu (enc:=eI) (l:=a24) (fl:=true) kr gE) <| hlp 1 (fun s28=>⟨[(1,.ptr 0 0 0),(3,vI (zn a15)),(6,vI s28.1),(60,z2 p0.Rows),(61,vI (zn p0.Rows)),(62,vI s21),(72,z1 a24),(73,vI (zn a24)),(74,vI s28.2)],[(o1_1 p0)],92⟩) (fun x=>match x with | .inl v=>(.ret,⟨[(2,vI 140)],[],92⟩) | .inr v=>(.exit 2,⟨[(1,.ptr 0 0 0),(3,vI (zn a15)),(6,vI v),(60,z2 p0.Rows),(61,vI (zn p0.Rows)),(62,vI s21)],[(o1_1 p0)],92⟩)) (wz [0]) (fun s28=>?_) (hsm (fun x38=>?_) (fun x39=>?_))
   ·refine hbr 1 [75] (?_) ?_
    ·refine hbd fun a31 q32=>hop 1 (fun _=>Qp (enc:=eI) (l:=a24) (n:=s28.2) (fl:=true) (w:=1) (a:=a31) kr kr gE q32) <| hbr 5 [79,80] (hdx 6 (wz [])) <| ?_
     refine hbr 4 [83,84] (hdx 2 (wz [])) <| ?_
     refine hnx 7 (wz [0])
    refine hdx 1 (wz [0])
   ·refine hdn 0
   refine hbr 2 [90] (hdx 2 (wz [])) <| ?_
   refine hnx 3 (wz [0])
  refine hdx 1 (wz [])
 ·refine hrt 0
 refine hrt 2
noncomputable abbrev Qxy (p0:Qd):AObj:=oX true false 4 (.agg [vI p0.Grain,vI p0.Count,vI p0.One,z2 p0.Rows])
noncomputable abbrev Qx7:AObj:=oX true false 2 (.agg [vI 0,.nils])
noncomputable abbrev Q2k (p0:Qd) (x16:((List Int) × (List Qi) × (List Int))):AObj:=oX false false 2 (.agg [vI p0.Grain,.ref 5 0 x16.2.1.length])
noncomputable abbrev Q2e (x16:((List Int) × (List Qi) × (List Int))):AObj:=oX false false 1 (.ref 7 0 x16.1.length)
noncomputable abbrev Qsg:AObj:=.loop 98 [(1,.ptr 0 0 0),(2,.ptr 1 0 0),(5,.ptr 2 0 0),(6,.ptr 3 0 0),(67,.fn (.func 68) [] [.ptr 4 0 0])] [68,69] (cA Try.f13 [true,true,true,true,true,true,true,false,true,true]) (cB Try.f13 [true,true,true,true,true,true,true,false,true,true]) .ready none
noncomputable abbrev Q07:AObj:=.loop 98 [(1,.ptr 0 0 0),(2,.ptr 1 0 0),(5,.ptr 2 0 0),(6,.ptr 3 0 0),(67,.fn (.func 68) [] [.ptr 4 0 0])] [68,69] (cA Try.f13 [true,true,true,true,true,true,true,false,true,true]) (cB Try.f13 [true,true,true,true,true,true,true,false,true,true]) .busy none
noncomputable abbrev Qmi (a0:AObj) (p0:Qd) (x16:((List Int) × (List Qi) × (List Int))):List AObj:=[(Qxy p0),Qx7,(Q2k p0 x16),a0,(Q2e x16),oR false 3 eTapi_Node x16.2.1,oR true 1 eI x16.2.2,oR true 1 eI x16.1]
theorem Qdw (p0:Qd):Ct Try.prog 13 [.agg [vI p0.Grain,vI p0.Count,vI p0.One,z2 p0.Rows]] (Vg p0) (fun x=>.tup [.agg [vI x.1.Grain,.ref 0 0 x.1.Nodes.length],vI x.2]) (fun x=>[oR false 3 eTapi_Node x.1.Nodes]):=by
 refine hfn [] Try.func13 <| hop 0 (fun _=>sgL false [] [] false gE) <| hop 0 (fun _=>sgL false [] [] false gE) <| hcl 2 [] (g_lift_Check_ok p0) fun x1 _=>hbr 3 [17] (hwk 5 (wl [2,3] [1]) <| hwk 0 (Qax 0 0 1 3 true false gE) <| hrt 1) <| ?_
 refine hbr 4 [22] (hwk 4 (wl [2,3] [1]) <| hwk 0 (Qax 0 0 1 3 true false gE) <| hrt 1) <| ?_
 refine hop 4 (fun _=>sgL false [] [] false gE) <| hbd fun a7 q8=>hop 3 (fun _=>Qp (enc:=z1) (l:=p0.Rows) (n:=0) (fl:=false) (w:=1) (a:=a7) kr kr gE q8) <| hop 1 (fun _=>Qu (enc:=eI) (l:=a7) (fl:=true) kr gE) <| hop 1 (fun _=>sgL false [] [] false gE) <| hoh 3 (fun _ _ h k=>mkL (enc:=eI) (z:=(0:Int)) (z0:=vI 0) (n:=p0.Count) (m:=p0.Count) (w:=1) (bytes:=8) [] true kr kr gE kr h k) <| hlp 4 (fun s9=>⟨[(1,.ptr 0 0 0),(2,.ptr 1 0 0),(5,.ptr 2 0 0),(6,.ptr 3 0 0),(7,.ref 4 0 s9.2.1.length),(37,vI p0.Count),(38,vI s9.1)],[(Qxy p0),Qx7,oX false false 2 (.agg [vI p0.Grain,.ref 5 0 s9.2.2.1.length]),oX false false 3 (.agg [vI (zn a7),.ref 6 0 s9.2.2.2.length,.nils]),oR true 1 eI s9.2.1,oR false 3 eTapi_Node s9.2.2.1,oR true 1 eI s9.2.2.2],98⟩) (fun v=>(.exit 0,⟨[(1,.ptr 0 0 0),(2,.ptr 1 0 0),(5,.ptr 2 0 0),(6,.ptr 3 0 0),(7,.ref 4 0 v.1.length)],[(Qxy p0),Qx7,oX false false 2 (.agg [vI p0.Grain,.ref 5 0 v.2.1.length]),oX false false 3 (.agg [vI (zn a7),.ref 6 0 v.2.2.length,.nils]),oR true 1 eI v.1,oR false 3 eTapi_Node v.2.1,oR true 1 eI v.2.2],98⟩)) (Q9 (Z5 (live:=[1,2,5,6,7,37,38]) (keep:=[0,1,2,3,4]) gE) (Q9 (Qax 2 0 1 3 true false gE) (Q9 (Qax 3 0 1 1 true true gE) (Z5 (live:=[1,2,5,6,7,37,38]) (keep:=[0,1,2,3,4,5,6]) kr)))) (fun s9=>?_) fun x16=>?_
 ·refine hbr 1 [39] (?_) ?_
  ·refine hop 12 (fun _=>sgL false [] [] true gE) <| hbs 0 [.lst true] false [] <| hbs 1 [.keep,.lst true,.lst false] false [] <| hoh 0 (fun _ _ h k=>Je (enc:=eTapi_Node) (l:=s9.2.2.1) (m:=([(Qi.mk 2 [] [[zw (p0.Grain - p0.One),p0.One]])]:(List Qi))) (w:=3) (bytes:=56) (ob:=5) (nr:=true) (fl:=false) (nr':=true) (fl':=false) (b:=.ref 9 0 1) (rds:=[9]) false kr kr kr kr gE kr h k) <| hop 5 (fun _=>sgL false [] [] true gE) <| hoh 0 (fun _ _ h k=>Je (enc:=eI) (l:=s9.2.2.2) (m:=([s9.1]:(List Int))) (w:=1) (bytes:=8) (ob:=6) (nr:=true) (fl:=true) (nr':=true) (fl':=true) (b:=.ref 11 0 1) (rds:=[11]) false kr kr kr kr gE kr h k) <| hbd fun a12 q13=>hop 4 (fun _=>Qy (enc:=eI) (l:=s9.2.1) (n:=s9.1) (w:=1) (ob:=4) (ro:=false) (nr:=true) (fl:=true) (a:=a12) kr kr gE q13) <| hop 0 (fun _=>Zf (enc:=eI) (l:=s9.2.1) (n:=s9.1) (ob:=4) (w:=1) (bx:=false) (nr:=true) (fl:=true) (c:=0) (a:=a12) (a':=2) (v:=vI 2) false kr kr q13 kr kr kr gE kr) <| ?_
   refine hkl 0 [7,62] (ls s9.2.1 (zt s9.1) 2) <| hnx 2 (wz [0,1,2,3,4,10,12])
  refine hdx 1 (wz [0,1,2,3,4,5,6])
 refine hil 1 Try.func39 <| hop 0 (fun _=>sgL false [] [] false gE) <| hwk 3 (wl [2] [7]) <| hwk 1 (wl [1,2,5,6,67] [0,1,2,3,7,5,6,4]) <| hrg 0 Try.func68 <| hoh 2 (fun _ _ h k=>mkL (enc:=eI) (z:=(0:Int)) (z0:=vI 0) (n:=(zn x16.1)) (m:=(zn x16.1)) (w:=1) (bytes:=8) [] true kr kr gE kr h k) <| hlp 2 (fun s17=>⟨[(0,.yld 8),(1,.ptr 4 0 0),(3,.ref 10 0 s17.2.2.length),(4,vI s17.1)],(Qmi (oX false false 3 (.agg [vI (zn a7),.ref 6 0 x16.2.2.length,.ref 9 0 s17.2.1.length])) p0 x16)++[Qsg,oR false 1 z1 s17.2.1,oR true 1 eI s17.2.2],45⟩) (fun v=>(.ret,⟨[],(Qmi (oX false false 3 (.agg [vI (zn a7),.ref 6 0 x16.2.2.length,.ref 9 0 v.length])) p0 x16)++[Qsg,oR false 1 z1 v],45⟩)) (Q9 (Z5 (live:=[0,1,3,4]) (keep:=[9]) gE) (Q9 (Qax 3 0 2 1 true false gE) (Z5 (live:=[0,1,3,4]) (keep:=[10,9]) kr))) (fun s17=>?_) fun x45=>?_
 ·refine hyl 3 <| hlp 5 (fun s18=>⟨[(1,.ptr 0 0 0),(6,.ptr 3 0 0),(11,vI s18.1),(70,.ref 10 0 s17.2.2.length),(71,vI (zn s17.2.2)),(72,vI s18.2)],(Qmi (oX false false 3 (.agg [vI (zn a7),.ref 6 0 x16.2.2.length,.ref 9 0 s17.2.1.length])) p0 x16)++[Q07,oR false 1 z1 s17.2.1,oR true 1 eI s17.2.2],98⟩) (fun v=>(.exit 4,⟨[(1,.ptr 0 0 0),(6,.ptr 3 0 0),(11,vI v)],(Qmi (oX false false 3 (.agg [vI (zn a7),.ref 6 0 x16.2.2.length,.ref 9 0 s17.2.1.length])) p0 x16)++[Q07,oR false 1 z1 s17.2.1,oR true 1 eI s17.2.2],98⟩)) (wz []) (fun s18=>?_) fun x24=>?_
  ·refine hbr 1 [73] (?_) ?_
   ·refine hbd fun a21 q22=>hop 1 (fun _=>Qy (enc:=eI) (l:=s17.2.2) (n:=s18.2) (w:=1) (ob:=10) (ro:=false) (nr:=true) (fl:=true) (a:=a21) kr kr gE q22) <| hop 0 (fun _=>Z3 (enc:=eI) (l:=s17.2.2) (n:=s18.2) (w:=1) (ob:=10) (c:=0) (bx:=false) (ro:=false) (nr:=true) (fl:=true) (a:=a21) kr kr q22 gE) <| hnx 7 (wz [])
   refine hdx 1 (wz [])
  refine hbd fun a25 q26=>hop 6 (fun _=>Qp (enc:=z1) (l:=p0.Rows) (n:=x24) (fl:=false) (w:=1) (a:=a25) kr kr gE q26) <| hoh 1 (fun _ _ h k=>Qs2 (enc:=eI) (m:=a25) (w:=1) (bytes:=8) (nr':=true) (fl':=true) (a:=.nils) (b:=z1 a25) (rds:=[]) false kr (.inl rfl) (Qco (fun _=>rfl)) kr gE kr h k) <| hbs 0 [.lst true] false [F eI a25] <| hoh 0 (fun _ _ h k=>Je (enc:=z1) (l:=s17.2.1) (m:=([a25]:(List (List Int)))) (w:=1) (bytes:=24) (ob:=9) (nr:=true) (fl:=false) (nr':=true) (fl':=false) (b:=.ref 12 0 1) (rds:=[12]) false kr kr kr kr gE kr h k) <| hlp 7 (fun s27=>⟨[(0,.yld 8),(1,.ptr 4 0 0),(3,.ref 10 0 s27.2.length),(4,vI s17.1),(5,vI s27.1)],(Qmi (oX false false 3 (.agg [vI (zn a7),.ref 6 0 x16.2.2.length,.ref 9 0 ((s17.2.1++([a25]:(List (List Int)))).length)])) p0 x16)++[Qsg,oR false 1 z1 (s17.2.1++([a25]:(List (List Int)))),oR true 1 eI s27.2],45⟩) (fun v=>(.exit 2,⟨[(0,.yld 8),(1,.ptr 4 0 0),(3,.ref 10 0 v.2.length),(4,vI s17.1),(5,vI v.1)],(Qmi (oX false false 3 (.agg [vI (zn a7),.ref 6 0 x16.2.2.length,.ref 9 0 ((s17.2.1++([a25]:(List (List Int)))).length)])) p0 x16)++[Qsg,oR false 1 z1 (s17.2.1++([a25]:(List (List Int)))),oR true 1 eI v.2],45⟩)) (wz [13,10]) (fun s27=>?_) fun x38=>?_
  ·refine hbr 4 [19,20] (?_) ?_
   ·refine hbd fun a30 q31=>hop 2 (fun _=>Qy (enc:=eI) (l:=s27.2) (n:=s27.1) (w:=1) (ob:=10) (ro:=false) (nr:=true) (fl:=true) (a:=a30) kr kr gE q31) <| hop 0 (fun _=>Z3 (enc:=eI) (l:=s27.2) (n:=s27.1) (w:=1) (ob:=10) (c:=0) (bx:=false) (ro:=false) (nr:=true) (fl:=true) (a:=a30) kr kr q31 gE) <| hbd fun a32 q33=>hop 2 (fun _=>Qy (enc:=eI) (l:=x16.1) (n:=s27.1) (w:=1) (ob:=7) (ro:=false) (nr:=true) (fl:=true) (a:=a32) kr kr gE q33) <| hop 0 (fun _=>Z3 (enc:=eI) (l:=x16.1) (n:=s27.1) (w:=1) (ob:=7) (c:=0) (bx:=false) (ro:=false) (nr:=true) (fl:=true) (a:=a32) kr kr q33 gE) <| hbr 3 [30,31] (?_) ?_
    ·refine hop 3 (fun _=>Qy (enc:=eI) (l:=s27.2) (n:=s27.1) (w:=1) (ob:=10) (ro:=false) (nr:=true) (fl:=true) (a:=a30) kr kr gE q31) <| hop 0 (fun _=>Zf (enc:=eI) (l:=s27.2) (n:=s27.1) (ob:=10) (w:=1) (bx:=false) (nr:=true) (fl:=true) (c:=0) (a:=a30) (a':=0) (v:=vI 0) false kr kr q31 kr kr kr gE kr) <| hkl 0 [3,21,32] (ls s27.2 (zt s27.1) 0) <| hnx 3 (wz [9,10])
    refine hdx 1 (wz [9,10])
   refine hdx 12 (wz [9,10])
  refine hbr 2 [38] (hdx 1 (wz [9])) <| ?_
  refine hbd fun a41 q42=>hop 3 (fun _=>Qy (enc:=eI) (l:=x38.2) (n:=x38.1) (w:=1) (ob:=10) (ro:=false) (nr:=true) (fl:=true) (a:=a41) kr kr gE q42) <| hop 0 (fun _=>Z3 (enc:=eI) (l:=x38.2) (n:=x38.1) (w:=1) (ob:=10) (c:=0) (bx:=false) (ro:=false) (nr:=true) (fl:=true) (a:=a41) kr kr q42 gE) <| hop 1 (fun _=>Qy (enc:=eI) (l:=x38.2) (n:=x38.1) (w:=1) (ob:=10) (ro:=false) (nr:=true) (fl:=true) (a:=a41) kr kr gE q42) <| hop 0 (fun _=>Zf (enc:=eI) (l:=x38.2) (n:=x38.1) (ob:=10) (w:=1) (bx:=false) (nr:=true) (fl:=true) (c:=0) (a:=a41) (a':=zw (a41+1)) (v:=vI (zw (a41+1))) false kr kr q42 kr kr kr gE kr) <| hkl 0 [3,39] (ls x38.2 (zt x38.1) (zw (a41+1))) <| hnx 3 (wz [9,10])
 refine hbs 3 [.keep,.lst true,.lst false] false [F eI x16.2.2,F z1 x45] <| hoh 0 (fun _ _ h k=>Je (enc:=eTapi_Node) (l:=x16.2.1) (m:=([(Qi.mk (zn a7) x16.2.2 x45)]:(List Qi))) (w:=3) (bytes:=56) (ob:=5) (nr:=true) (fl:=false) (nr':=true) (fl':=false) (b:=.ref 10 0 1) (rds:=[10]) false kr kr kr kr gE kr h k) <| hrt 6
theorem g_weigh_Ratio_ok (p0:Int) (p1:Int):Ct Try.prog 43 [vI p0,vI p1] (Ys p0 p1) (fun x=>.agg [vI x.N,vI x.D]) (fun x=>[]):=by
 refine hfn [] Try.func43 <| hlp 8 (fun s1=>⟨[(0,vI p0),(1,vI p1),(4,.ptr 0 0 0),(5,vI s1.1),(6,vI s1.2)],[oX true true 2 (.agg [vI 0,vI 0])],25⟩) (fun v=>(.exit 0,⟨[(0,vI p0),(1,vI p1),(4,.ptr 0 0 0),(5,vI v)],[oX true true 2 (.agg [vI 0,vI 0])],25⟩)) (wz [0]) (fun s1=>?_) fun x5=>?_
 ·refine hbr 2 [13] (hoh 5 (fun _ _ h k=>Qdv (k:=.i64) (a:=s1.1) (b:=s1.2) kr gE h k) <| hnx 2 (wz [0])) <| ?_
  refine hdx 1 (wz [0])
 refine hoh 3 (fun _ _ h k=>Qkh (k:=.i64) (a:=p0) (b:=x5) kr gE h k) <| hoh 2 (fun _ _ h k=>Qkh (k:=.i64) (a:=p1) (b:=x5) kr gE h k) <| hrt 3
theorem g_lift_counter_numbers_ok (p0:Tlift_counter):Ct Try.prog 50 [.fz [vI p0.Lift.Grain,vI p0.Lift.Count,vI p0.Lift.One,z2 p0.Lift.Rows,vI p0.zeros,vI p0.ones,vI p0.child]] (Xn p0) (fun x=>.ref 0 0 x.length) (fun x=>[oR true 1 eI x]):=by
 refine hfn [] Try.func50 <| hlp 9 (fun s1=>⟨[(3,.ref 0 0 s1.2.length),(10,vI (zw (p0.Lift.Count+1))),(11,vI s1.1)],[oR true 1 eI s1.2],20⟩) (fun v=>(.exit 0,⟨[(3,.ref 0 0 v.length)],[oR true 1 eI v],20⟩)) (Q9 (Z5 (live:=[3,10,11]) (keep:=[]) gE) (Q9 (Zj 3 1 true true gE) (Z5 (live:=[3,10,11]) (keep:=[0]) kr))) (fun s1=>?_) fun x5=>?_
 ·refine hbr 1 [12] (?_) ?_
  ·refine hop 5 (fun _=>sgL false [] [] true gE) <| hoh 0 (fun _ _ h k=>Je (enc:=eI) (l:=s1.2) (m:=([s1.1]:(List Int))) (w:=1) (bytes:=8) (ob:=0) (nr:=true) (fl:=true) (nr':=true) (fl':=true) (b:=.ref 1 0 1) (rds:=[1]) false kr kr kr kr gE kr h k) <| hnx 3 (wz [2])
  refine hdx 1 (wz [0])
 refine hrt 3
theorem g_lift_counter_unknown_ok (p0:Tlift_counter):Ct Try.prog 54 [.fz [vI p0.Lift.Grain,vI p0.Lift.Count,vI p0.Lift.One,z2 p0.Lift.Rows,vI p0.zeros,vI p0.ones,vI p0.child]] (Zy p0) (fun x=>vI x) (fun x=>[]):=by
 refine hfn [] Try.func54 <| hrt 19
noncomputable abbrev Qsk:AObj:=.loop 10 [(3,.ptr 0 0 0),(6,.fn (.func 95) [] [.ptr 1 0 0])] [7] (cA Try.f70 [true,true,false,true,true]) (cB Try.f70 [true,true,false,true,true]) .ready none
theorem Qci (p0:Int):Ct Try.prog 70 [vI p0] (Q6 p0) (fun x=>.ref 0 0 x.length) (fun x=>[oR true 1 eI x]):=by
 refine hfn [] Try.func70 <| hop 1 (fun _=>sgL false [] [] false gE) <| hil 1 Try.func87 <| hwk 4 (wl [2] [1]) <| hwk 1 (wl [3,6] [0,1]) <| hrg 0 Try.func95 <| hop 0 (fun _=>sgL false [] [] true gE) <| hlp 3 (fun s1=>⟨[(0,.yld 2),(3,.ref 4 0 s1.2.2.length),(8,vI p0),(9,vI s1.1)],[oX false false 1 (.ref 3 0 s1.2.1.length),oX true true 1 (vI p0),Qsk,oR true 1 eI s1.2.1,oR true 1 eI s1.2.2],47⟩) (fun v=>(.exit 0,⟨[(0,.yld 2),(3,.ref 4 0 v.2.length)],[oX false false 1 (.ref 3 0 v.1.length),oX true true 1 (vI p0),Qsk,oR true 1 eI v.1,oR true 1 eI v.2],47⟩)) (Q9 (Z5 (live:=[0,3,8,9]) (keep:=[3]) gE) (Q9 (Qax 0 0 0 1 true true gE) (Z5 (live:=[0,3,8,9]) (keep:=[4,3]) kr))) (fun s1=>?_) fun x20=>?_
 ·refine hbr 1 [10] (?_) ?_
  ·refine hyl 3 <| hoh 8 (fun _ _ h k=>mkL (enc:=eI) (z:=(0:Int)) (z0:=vI 0) (n:=zw ((zn s1.2.2)+1)) (m:=zw ((zn s1.2.2)+1)) (w:=1) (bytes:=8) [] true kr kr gE kr h k) <| hlp 4 (fun s4=>⟨[(0,.yld 2),(4,.ref 4 0 s4.2.length),(8,vI p0),(9,vI s1.1),(19,.ref 3 0 s1.2.2.length),(20,vI (zn s1.2.2)),(21,vI s4.1)],[oX false false 1 (.ref 3 0 s1.2.2.length),oX true true 1 (vI p0),Qsk,oR true 1 eI s1.2.2,oR true 1 eI s4.2],47⟩) (fun v=>(.exit 2,⟨[(0,.yld 2),(4,.ref 4 0 v.length),(8,vI p0),(9,vI s1.1)],[oX false false 1 (.ref 3 0 s1.2.2.length),oX true true 1 (vI p0),Qsk,oR true 1 eI s1.2.2,oR true 1 eI v],47⟩)) (wz [4,5]) (fun s4=>?_) fun x18=>?_
   ·refine hbr 1 [22] (?_) ?_
    ·refine hbd fun a7 q8=>hop 2 (fun _=>Qy (enc:=eI) (l:=s1.2.2) (n:=s4.1) (w:=1) (ob:=3) (ro:=false) (nr:=true) (fl:=true) (a:=a7) kr kr gE q8) <| hop 0 (fun _=>Z3 (enc:=eI) (l:=s1.2.2) (n:=s4.1) (w:=1) (ob:=3) (c:=0) (bx:=false) (ro:=false) (nr:=true) (fl:=true) (a:=a7) kr kr q8 gE) <| hbd fun a9 q10=>hop 4 (fun _=>Qy (enc:=eI) (l:=s4.2) (n:=s4.1) (w:=1) (ob:=4) (ro:=false) (nr:=true) (fl:=true) (a:=a9) kr kr gE q10) <| hop 0 (fun _=>Z3 (enc:=eI) (l:=s4.2) (n:=s4.1) (w:=1) (ob:=4) (c:=0) (bx:=false) (ro:=false) (nr:=true) (fl:=true) (a:=a9) kr kr q10 gE) <| hop 2 (fun _=>Qy (enc:=eI) (l:=s4.2) (n:=s4.1) (w:=1) (ob:=4) (ro:=false) (nr:=true) (fl:=true) (a:=a9) kr kr gE q10) <| hop 0 (fun _=>Zf (enc:=eI) (l:=s4.2) (n:=s4.1) (ob:=4) (w:=1) (bx:=false) (nr:=true) (fl:=true) (c:=0) (a:=a9) (a':=zw (a9+a7)) (v:=vI (zw (a9+a7))) false kr kr q10 kr kr kr gE kr) <| hkl 0 [4,26] (ls s4.2 (zt s4.1) (zw (a9+a7))) <| ?_
     refine hbd fun a11 q12=>hop 3 (fun _=>Qy (enc:=eI) (l:=(List.set s4.2 (zt s4.1) (zw (a9+a7)))) (n:=zw (s4.1+1)) (w:=1) (ob:=4) (ro:=false) (nr:=true) (fl:=true) (a:=a11) kr kr gE q12) <| hop 0 (fun _=>Z3 (enc:=eI) (l:=(List.set s4.2 (zt s4.1) (zw (a9+a7)))) (n:=zw (s4.1+1)) (w:=1) (ob:=4) (c:=0) (bx:=false) (ro:=false) (nr:=true) (fl:=true) (a:=a11) kr kr q12 gE) <| hop 2 (fun _=>Qy (enc:=eI) (l:=(List.set s4.2 (zt s4.1) (zw (a9+a7)))) (n:=zw (s4.1+1)) (w:=1) (ob:=4) (ro:=false) (nr:=true) (fl:=true) (a:=a11) kr kr gE q12) <| hbd fun a13 q14=>hop 0 (fun _=>Zf (enc:=eI) (l:=(List.set s4.2 (zt s4.1) (zw (a9+a7)))) (n:=(zw (s4.1+1))) (ob:=4) (w:=1) (bx:=false) (nr:=true) (fl:=true) (c:=0) (a:=a13) (a':=zw (a11+a7)) (v:=vI (zw (a11+a7))) false kr kr q14 kr kr kr gE kr) <| hkl 0 [4,26,33] (ls (List.set s4.2 (zt s4.1) (zw (a9+a7))) (zt (zw (s4.1+1))) (zw (a11+a7))) <| hnx 2 (wz [3,4])
    refine hdx 1 (wz [3,4])
   refine hnx 4 (wz [3,4])
  refine hdx 1 (wz [3,4])
 refine hyl 2 <| hrt 6
theorem g_weigh_Whole_ok (p0:Int) (p1:Int):Ct Try.prog 45 [vI p0,vI p1] (Yt p0 p1) (fun x=>vI x) (fun x=>[]):=by
 refine hfn [] Try.func45 <| hlp 4 (fun s1=>⟨[(0,vI p0),(5,vI s1.1),(6,vI p1),(7,vI s1.2)],[],14⟩) (fun v=>(.exit 0,⟨[(5,vI v)],[],14⟩)) (wz []) (fun s1=>?_) fun x5=>?_
 ·refine hbr 1 [8] (hnx 7 (wz [])) <| ?_
  refine hdx 1 (wz [])
 refine hrt 3
theorem g_lift_counter_members_ok (p0:Tlift_counter) (p1:Int) (p2:Int):Ct Try.prog 72 [.fz [vI p0.Lift.Grain,vI p0.Lift.Count,vI p0.Lift.One,z2 p0.Lift.Rows,vI p0.zeros,vI p0.ones,vI p0.child],vI p1,vI p2] (Xp p0 p1 p2) (fun x=>vI x) (fun x=>[]):=by
 refine hfn [] Try.func72 <| hcl 8 [] (g_weigh_Whole_ok p0.Lift.One p1) fun x1 _=>hcl 12 [] (g_weigh_Whole_ok (zw (p0.Lift.Grain - p0.Lift.One)) p2) fun x3 _=>hrt 3
theorem Kk (p0:Tlift_counter) (p1:Int):Ct Try.prog 73 [.fz [vI p0.Lift.Grain,vI p0.Lift.Count,vI p0.Lift.One,z2 p0.Lift.Rows,vI p0.zeros,vI p0.ones,vI p0.child],vI p1] (X3 p0 p1) (fun x=>vI x) (fun x=>[]):=by
 refine hfn [] Try.func73 <| hbr 6 [9] (hrt 8) <| ?_
 refine hbd fun a3 q4=>hop 8 (fun _=>Qp (enc:=z1) (l:=p0.Lift.Rows) (n:=p1) (fl:=false) (w:=1) (a:=a3) kr kr gE q4) <| hbd fun a5 q6=>hop 5 (fun _=>Qp (enc:=eI) (l:=a3) (n:=p0.child) (fl:=true) (w:=1) (a:=a5) kr kr gE q6) <| hrt 3
noncomputable abbrev Qu5 (p0:Tlift_counter):AObj:=oX true false 1 (.fz [vI p0.Lift.Grain,vI p0.Lift.Count,vI p0.Lift.One,z2 p0.Lift.Rows,vI p0.zeros,vI p0.ones,vI p0.child])
theorem g_lift_counter_mass_ok (p0:Tlift_counter):Ct Try.prog 44 [.fz [vI p0.Lift.Grain,vI p0.Lift.Count,vI p0.Lift.One,z2 p0.Lift.Rows,vI p0.zeros,vI p0.ones,vI p0.child]] (Za p0) (fun x=>vI x) (fun x=>[]):=by
 refine hfn [] Try.func44 <| hil 2 Try.func51 <| hop 0 (fun _=>sgL false [] [] false gE) <| hcl 2 [] (g_lift_counter_unknown_ok p0) fun x1 _=>hcl 0 [] (Qci x1) fun x3 _=>hop 0 (fun _=>sgL false [] [] false gE) <| hwk 3 (wl [2] [0,2,1]) <| hcl 2 [] (g_lift_counter_numbers_ok p0) fun x5 _=>hil 0 Try.func69 <| ?_
 refine hlp 5 (fun s7=>⟨[(0,.fn (.func 71) [] [.ptr 0 0 0,.ptr 1 0 0]),(5,vI s7.1),(8,.ref 3 0 x5.length),(9,vI (zn x5)),(10,vI s7.2)],[(Qu5 p0),oX false false 1 (.ref 2 0 x3.length),oR true 1 eI x3,oR true 1 eI x5],21⟩) (fun v=>(.exit 0,⟨[(5,vI v)],[(Qu5 p0),oX false false 1 (.ref 2 0 x3.length),oR true 1 eI x3,oR true 1 eI x5],21⟩)) (wz []) (fun s7=>?_) fun x23=>?_
 ·refine hbr 1 [11] (?_) ?_
  ·refine hbd fun a10 q11=>hop 1 (fun _=>Qy (enc:=eI) (l:=x5) (n:=s7.2) (w:=1) (ob:=3) (ro:=false) (nr:=true) (fl:=true) (a:=a10) kr kr gE q11) <| hop 0 (fun _=>Z3 (enc:=eI) (l:=x5) (n:=s7.2) (w:=1) (ob:=3) (c:=0) (bx:=false) (ro:=false) (nr:=true) (fl:=true) (a:=a10) kr kr q11 gE) <| hil 4 Try.func71 <| hbr 9 [10,11] (hwk 15 (wl [4] []) <| hnx 5 (wz [])) <| ?_
   refine hbr 13 [23,24] (hwk 2 (wl [4] []) <| hnx 5 (wz [])) <| ?_
   refine hbd fun a16 q17=>hop 9 (fun _=>Qy (enc:=eI) (l:=x3) (n:=zw (a10 - p0.ones)) (w:=1) (ob:=2) (ro:=false) (nr:=true) (fl:=true) (a:=a16) kr kr gE q17) <| hop 0 (fun _=>Z3 (enc:=eI) (l:=x3) (n:=zw (a10 - p0.ones)) (w:=1) (ob:=2) (c:=0) (bx:=false) (ro:=false) (nr:=true) (fl:=true) (a:=a16) kr kr q17 gE) <| hcl 9 [] (g_lift_counter_members_ok p0 a10 (zw (p0.Lift.Count - a10))) fun x18 _=>hcl 3 [] (Kk p0 a10) fun x20 _=>hwk 2 (wl [4] []) <| hnx 5 (wz [])
  refine hdx 1 (wz [])
 refine hrt 5
theorem g_lift_Prob_ok (p0:Qd) (p1:Int) (p2:Int) (p3:Int):Ct Try.prog 19 [.agg [vI p0.Grain,vI p0.Count,vI p0.One,z2 p0.Rows],vI p1,vI p2,vI p3] (Kx p0 p1 p2 p3) (fun x=>.tup [.agg [vI x.1.N,vI x.1.D],vI x.2]) (fun x=>[]):=by
 refine hfn [] Try.func19 <| hop 0 (fun _=>sgL false [] [] false gE) <| hil 6 Try.func42 <| hop 0 (fun _=>sgL false [] [] false gE) <| hcl 3 [] (g_lift_Check_ok p0) fun x1 _=>hbq 3 [14] (fun q4=>hwk 4 (wl [8,9] []) <| hkb 8 [21] q4 <| hrt 6) fun _=>?_
 refine hbr 4 [17,18] (hrt 47) <| ?_
 refine hbr 6 [22,23,24] (hrt 41) <| ?_
 refine hbr 4 [26,27,28] (hrt 37) <| ?_
 refine hbr 8 [34,35,36] (hrt 29) <| ?_
 refine hbr 4 [38,39,40] (hrt 25) <| ?_
 refine hbd fun a16 q17=>hop 3 (fun _=>Qp (enc:=z1) (l:=p0.Rows) (n:=0) (fl:=false) (w:=1) (a:=a16) kr kr gE q17) <| hop 1 (fun _=>Qu (enc:=eI) (l:=a16) (fl:=true) kr gE) <| hbr 2 [47,48] (hrt 17) <| ?_
 refine hop 6 (fun _=>sgL false [] [] false gE) <| hwk 2 (wl [8,9] [3]) <| hcl 11 [] (g_lift_counter_mass_ok (Tlift_counter.mk p0 p1 p2 p3)) fun x20 _=>hcl 11 [] (g_weigh_Whole_ok p0.Grain (zw (p0.Count+1))) fun x22 _=>hcl 0 [] (g_weigh_Ratio_ok x20 x22) fun x24 _=>hrt 3
theorem Qc6 (p0:Int) (p1:(List Int)):Ct Try.prog 52 [vI p0,z1 p1] (V2 p0 p1) (fun x=>.ref 0 0 x.length) (fun x=>[oR true 2 eTapi_Q x]):=by
 refine hfn [] Try.func52 <| hop 2 (fun _=>Qu (enc:=eI) (l:=p1) (fl:=true) kr gE) <| hoh 0 (fun _ _ h k=>mkL (enc:=eTapi_Q) (z:=((Qb.mk 0 0):Qb)) (z0:=.agg [vI 0,vI 0]) (n:=(zn p1)) (m:=(zn p1)) (w:=2) (bytes:=16) [] true kr kr gE kr h k) <| hop 2 (fun _=>Qu (enc:=eI) (l:=p1) (fl:=true) kr gE) <| hlp 1 (fun s1=>⟨[(0,vI p0),(5,.ref 0 0 s1.2.length),(11,z1 p1),(12,vI (zn p1)),(13,vI s1.1)],[oR true 2 eTapi_Q s1.2],26⟩) (fun v=>(.exit 0,⟨[(5,.ref 0 0 v.length)],[oR true 2 eTapi_Q v],26⟩)) (wz [0]) (fun s1=>?_) fun x12=>?_
 ·refine hbr 1 [14] (?_) ?_
  ·refine hbd fun a4 q5=>hop 2 (fun _=>Qp (enc:=eI) (l:=p1) (n:=s1.1) (fl:=true) (w:=1) (a:=a4) kr kr gE q5) <| hcl 7 [] (g_weigh_Ratio_ok a4 p0) fun x6 _=>hbd fun a8 q9=>hop 0 (fun _=>Qy (enc:=eTapi_Q) (l:=s1.2) (n:=s1.1) (w:=2) (ob:=0) (ro:=false) (nr:=true) (fl:=true) (a:=a8) kr kr gE q9) <| hop 0 (fun _=>Zf (enc:=eTapi_Q) (l:=s1.2) (n:=s1.1) (ob:=0) (w:=2) (bx:=false) (nr:=true) (fl:=true) (c:=0) (a:=a8) (a':=x6) (v:=.agg [vI x6.N,vI x6.D]) false kr kr q9 kr kr kr gE kr) <| hkl 0 [5,18] (ls s1.2 (zt s1.1) x6) <| hnx 2 (wz [0])
  refine hdx 1 (wz [0])
 refine hrt 3
theorem g_lift_Ones_ok (p0:Qd) (p1:Int) (p2:Int) (p3:Int):Ct Try.prog 21 [.agg [vI p0.Grain,vI p0.Count,vI p0.One,z2 p0.Rows],vI p1,vI p2,vI p3] (Qjp p0 p1 p2 p3) (fun x=>.tup [.ref 0 0 x.1.length,vI x.2]) (fun x=>[oR true 2 eTapi_Q x.1]):=by
 refine hfn [] Try.func21 <| hop 0 (fun _=>sgL false [] [] false gE) <| hil 6 Try.func42 <| hop 0 (fun _=>sgL false [] [] false gE) <| hcl 3 [] (g_lift_Check_ok p0) fun x1 _=>hbq 3 [14] (fun q4=>hwk 4 (wl [8,9] []) <| hkb 8 [26] q4 <| hwk 4 (wl [8,9] []) <| hwk 0 (Zj 8 2 true true gE) <| hrt 1) fun _=>?_
 refine hbr 4 [17,18] (hwk 33 (wl [8,9] []) <| hwk 12 (wl [8,9] []) <| hwk 0 (Zj 8 2 true true gE) <| hrt 1) <| ?_
 refine hbr 6 [22,23,24] (hwk 27 (wl [8,9] []) <| hwk 12 (wl [8,9] []) <| hwk 0 (Zj 8 2 true true gE) <| hrt 1) <| ?_
 refine hbr 4 [26,27,28] (hwk 23 (wl [8,9] []) <| hwk 12 (wl [8,9] []) <| hwk 0 (Zj 8 2 true true gE) <| hrt 1) <| ?_
 refine hbr 8 [34,35,36] (hwk 15 (wl [8,9] []) <| hwk 12 (wl [8,9] []) <| hwk 0 (Zj 8 2 true true gE) <| hrt 1) <| ?_
 refine hbr 4 [38,39,40] (hwk 11 (wl [8,9] []) <| hwk 12 (wl [8,9] []) <| hwk 0 (Zj 8 2 true true gE) <| hrt 1) <| ?_
 refine hbd fun a16 q17=>hop 3 (fun _=>Qp (enc:=z1) (l:=p0.Rows) (n:=0) (fl:=false) (w:=1) (a:=a16) kr kr gE q17) <| hop 1 (fun _=>Qu (enc:=eI) (l:=a16) (fl:=true) kr gE) <| hbr 2 [47,48] (hwk 3 (wl [8,9] []) <| hwk 12 (wl [8,9] []) <| hwk 0 (Zj 8 2 true true gE) <| hrt 1) <| ?_
 refine hop 6 (fun _=>sgL false [] [] false gE) <| hwk 2 (wl [8,9] [2]) <| hcl 10 [] (g_lift_counter_mass_ok (Tlift_counter.mk p0 p1 p2 p3)) fun x20 _=>hbr 3 [31] (hwk 3 (wl [8,9] []) <| hwk 0 (Zj 8 2 true true gE) <| hrt 1) <| ?_
 refine hcl 2 [] (g_lift_counter_numbers_ok (Tlift_counter.mk p0 p1 p2 p3)) fun x24 _=>hil 1 Try.func51 <| hop 0 (fun _=>sgL false [] [] false gE) <| hcl 2 [] (g_lift_counter_unknown_ok (Tlift_counter.mk p0 p1 p2 p3)) fun x26 _=>hcl 0 [] (Qci x26) fun x28 _=>hop 0 (fun _=>sgL false [] [] false gE) <| hwk 3 (wl [2] [3,5,4]) <| hlp 6 (fun s30=>⟨[(12,vI x20),(13,.ref 0 0 s30.2.length),(14,.fn (.func 71) [] [.ptr 1 0 0,.ptr 2 0 0]),(36,.ref 0 0 s30.2.length),(37,vI (zn x24)),(38,vI s30.1)],[oR true 1 eI s30.2,oX false false 1 (.ptr 3 0 0),oX false false 1 (.ref 4 0 x28.length),oX true false 7 (.agg [vI p0.Grain,vI p0.Count,vI p0.One,z2 p0.Rows,vI p1,vI p2,vI p3]),oR true 1 eI x28],53⟩) (fun v=>(.exit 0,⟨[(12,vI x20),(13,.ref 0 0 v.length)],[oR true 1 eI v],53⟩)) (wz [2,3,4,1,5]) (fun s30=>?_) fun x49=>?_
 ·refine hbr 1 [39] (?_) ?_
  ·refine hbd fun a33 q34=>hop 2 (fun _=>Qy (enc:=eI) (l:=s30.2) (n:=s30.1) (w:=1) (ob:=0) (ro:=false) (nr:=true) (fl:=true) (a:=a33) kr kr gE q34) <| hop 0 (fun _=>Z3 (enc:=eI) (l:=s30.2) (n:=s30.1) (w:=1) (ob:=0) (c:=0) (bx:=false) (ro:=false) (nr:=true) (fl:=true) (a:=a33) kr kr q34 gE) <| hil 6 Try.func71 <| hbr 9 [10,11] (?_) ?_
   ·refine hwk 15 (wl [4] []) <| hop 1 (fun _=>Qy (enc:=eI) (l:=s30.2) (n:=s30.1) (w:=1) (ob:=0) (ro:=false) (nr:=true) (fl:=true) (a:=a33) kr kr gE q34) <| hop 0 (fun _=>Zf (enc:=eI) (l:=s30.2) (n:=s30.1) (ob:=0) (w:=1) (bx:=false) (nr:=true) (fl:=true) (c:=0) (a:=a33) (a':=0) (v:=vI 0) false kr kr q34 kr kr kr gE kr) <| hkl 0 [13,36,43] (ls s30.2 (zt s30.1) 0) <| hnx 2 (wz [0,1,2,3,4])
   refine hbr 13 [23,24] (?_) ?_
   ·refine hwk 2 (wl [4] []) <| hop 1 (fun _=>Qy (enc:=eI) (l:=s30.2) (n:=s30.1) (w:=1) (ob:=0) (ro:=false) (nr:=true) (fl:=true) (a:=a33) kr kr gE q34) <| hop 0 (fun _=>Zf (enc:=eI) (l:=s30.2) (n:=s30.1) (ob:=0) (w:=1) (bx:=false) (nr:=true) (fl:=true) (c:=0) (a:=a33) (a':=0) (v:=vI 0) false kr kr q34 kr kr kr gE kr) <| hkl 0 [13,36,43] (ls s30.2 (zt s30.1) 0) <| hnx 2 (wz [0,1,2,3,4])
   refine hbd fun a41 q42=>hop 9 (fun _=>Qy (enc:=eI) (l:=x28) (n:=zw (a33 - p2)) (w:=1) (ob:=4) (ro:=false) (nr:=true) (fl:=true) (a:=a41) kr kr gE q42) <| hop 0 (fun _=>Z3 (enc:=eI) (l:=x28) (n:=zw (a33 - p2)) (w:=1) (ob:=4) (c:=0) (bx:=false) (ro:=false) (nr:=true) (fl:=true) (a:=a41) kr kr q42 gE) <| hcl 9 [] (g_lift_counter_members_ok (Tlift_counter.mk p0 p1 p2 p3) a33 (zw (p0.Count - a33))) fun x43 _=>hcl 3 [] (Kk (Tlift_counter.mk p0 p1 p2 p3) a33) fun x45 _=>hwk 2 (wl [4] []) <| hop 1 (fun _=>Qy (enc:=eI) (l:=s30.2) (n:=s30.1) (w:=1) (ob:=0) (ro:=false) (nr:=true) (fl:=true) (a:=a33) kr kr gE q34) <| hop 0 (fun _=>Zf (enc:=eI) (l:=s30.2) (n:=s30.1) (ob:=0) (w:=1) (bx:=false) (nr:=true) (fl:=true) (c:=0) (a:=a33) (a':=zw ((zw (a41*x43))*x45)) (v:=vI (zw ((zw (a41*x43))*x45))) false kr kr q34 kr kr kr gE kr) <| hkl 0 [13,36,43] (ls s30.2 (zt s30.1) (zw ((zw (a41*x43))*x45))) <| ?_
   refine hnx 2 (wz [0,1,2,3,4])
  refine hdx 1 (wz [0])
 refine hcl 2 [F eI x49] (Qc6 x20 x49) fun x50 _=>hrt 3
theorem g_slices_Equal_api_Q_api_Q_ok (p0:(List Qb)) (p1:(List Qb)):Ct Try.prog 23 [eL true eTapi_Q p0,eL true eTapi_Q p1] (Qr p0 p1) (fun x=>vB x) (fun x=>[]):=by
 refine hfn [] Try.func23 <| hop 2 (fun _=>Qu (enc:=eTapi_Q) (l:=p0) (fl:=true) kr gE) <| hop 1 (fun _=>Qu (enc:=eTapi_Q) (l:=p1) (fl:=true) kr gE) <| hbr 1 [10] (hrt 3) <| ?_
 refine hop 2 (fun _=>Qu (enc:=eTapi_Q) (l:=p0) (fl:=true) kr gE) <| hlp 1 (fun s3=>⟨[(0,eL true eTapi_Q p0),(1,eL true eTapi_Q p1),(12,vI (zn p0)),(13,vI s3)],[],26⟩) (fun x=>match x with | .inl v=>(.ret,⟨[(4,vB false)],[],26⟩) | .inr v=>(.exit 0,⟨[],[],26⟩)) (wz []) (fun s3=>?_) (hsm (fun x13=>?_) (fun x14=>?_))
 ·refine hbr 1 [14] (?_) ?_
  ·refine hbd fun a6 q7=>hop 6 (fun _=>Qp (enc:=eTapi_Q) (l:=p0) (n:=s3) (fl:=true) (w:=2) (a:=a6) kr kr gE q7) <| hbd fun a8 q9=>hop 3 (fun _=>Qp (enc:=eTapi_Q) (l:=p1) (n:=s3) (fl:=true) (w:=2) (a:=a8) kr kr gE q9) <| hbr 2 [24] (hdx 2 (wz [])) <| ?_
   refine hnx 3 (wz [])
  refine hdx 1 (wz [])
 ·refine hrt 0
 refine hrt 2
theorem Qf4 (p0:Qd) (p1:Int) (p2:Int) (p3:Int):Ct Try.prog 24 [.agg [vI p0.Grain,vI p0.Count,vI p0.One,z2 p0.Rows],vI p1,vI p2,vI p3] (Ks p0 p1 p2 p3) (fun x=>.tup [.agg [vI x.1.N,vI x.1.D],vI x.2]) (fun x=>[]):=by
 refine hfn [] Try.func24 <| hop 0 (fun _=>sgL false [] [] false gE) <| hil 6 Try.func42 <| hop 0 (fun _=>sgL false [] [] false gE) <| hcl 3 [] (g_lift_Check_ok p0) fun x1 _=>hbq 3 [14] (fun q4=>hwk 4 (wl [8,9] []) <| hkb 8 [23] q4 <| hrt 6) fun _=>?_
 refine hbr 4 [17,18] (hrt 47) <| ?_
 refine hbr 6 [22,23,24] (hrt 41) <| ?_
 refine hbr 4 [26,27,28] (hrt 37) <| ?_
 refine hbr 8 [34,35,36] (hrt 29) <| ?_
 refine hbr 4 [38,39,40] (hrt 25) <| ?_
 refine hbd fun a16 q17=>hop 3 (fun _=>Qp (enc:=z1) (l:=p0.Rows) (n:=0) (fl:=false) (w:=1) (a:=a16) kr kr gE q17) <| hop 1 (fun _=>Qu (enc:=eI) (l:=a16) (fl:=true) kr gE) <| hbr 2 [47,48] (hrt 17) <| ?_
 refine hop 6 (fun _=>sgL false [] [] false gE) <| hwk 2 (wl [8,9] [3]) <| hcl 10 [] (g_lift_counter_unknown_ok (Tlift_counter.mk p0 p1 p2 p3)) fun x20 _=>hbr 1 [28] (hrt 5) <| ?_
 refine hcl 2 [] (g_lift_counter_mass_ok (Tlift_counter.mk p0 p1 p2 p3)) fun x24 _=>hbr 3 [33] (hrt 5) <| ?_
 refine hop 4 (fun _=>sgL false [] [] false gE) <| hcl 6 [] (g_lift_counter_mass_ok (Tlift_counter.mk p0 p1 (zw (p2+1)) p3)) fun x28 _=>hcl 1 [] (g_weigh_Ratio_ok x28 x24) fun x30 _=>hrt 3
theorem g_lift_Child_ok (p0:Qd) (p1:Int) (p2:Int):Ct Try.prog 26 [.agg [vI p0.Grain,vI p0.Count,vI p0.One,z2 p0.Rows],vI p1,vI p2] (X7 p0 p1 p2) (fun x=>.tup [.ref 0 0 x.1.length,vI x.2]) (fun x=>[oR true 2 eTapi_Q x.1]):=by
 refine hfn [] Try.func26 <| hop 0 (fun _=>sgL false [] [] false gE) <| hil 5 Try.func42 <| hop 0 (fun _=>sgL false [] [] false gE) <| hcl 3 [] (g_lift_Check_ok p0) fun x1 _=>hbq 3 [14] (fun q4=>hwk 4 (wl [8,9] []) <| hkb 8 [22] q4 <| hwk 4 (wl [6,7] []) <| hwk 0 (Zj 6 2 true true gE) <| hrt 1) fun _=>?_
 refine hbr 4 [17,18] (hwk 33 (wl [8,9] []) <| hwk 12 (wl [6,7] []) <| hwk 0 (Zj 6 2 true true gE) <| hrt 1) <| ?_
 refine hbr 6 [22,23,24] (hwk 27 (wl [8,9] []) <| hwk 12 (wl [6,7] []) <| hwk 0 (Zj 6 2 true true gE) <| hrt 1) <| ?_
 refine hbr 4 [26,27,28] (hwk 23 (wl [8,9] []) <| hwk 12 (wl [6,7] []) <| hwk 0 (Zj 6 2 true true gE) <| hrt 1) <| ?_
 refine hbr 8 [34,35,36] (hwk 15 (wl [8,9] []) <| hwk 12 (wl [6,7] []) <| hwk 0 (Zj 6 2 true true gE) <| hrt 1) <| ?_
 refine hbd fun a14 q15=>hop 7 (fun _=>Qp (enc:=z1) (l:=p0.Rows) (n:=0) (fl:=false) (w:=1) (a:=a14) kr kr gE q15) <| hop 1 (fun _=>Qu (enc:=eI) (l:=a14) (fl:=true) kr gE) <| hbr 2 [47,48] (hwk 3 (wl [8,9] []) <| hwk 12 (wl [6,7] []) <| hwk 0 (Zj 6 2 true true gE) <| hrt 1) <| ?_
 refine hop 6 (fun _=>sgL false [] [] false gE) <| hwk 2 (wl [8,9] [2]) <| hcl 10 [] (g_lift_counter_mass_ok (Tlift_counter.mk p0 p1 p2 (-1))) fun x18 _=>hbr 3 [27] (hwk 3 (wl [6,7] []) <| hwk 0 (Zj 6 2 true true gE) <| hrt 1) <| ?_
 refine hop 6 (fun _=>Qp (enc:=z1) (l:=p0.Rows) (n:=0) (fl:=false) (w:=1) (a:=a14) kr kr gE q15) <| hop 1 (fun _=>Qu (enc:=eI) (l:=a14) (fl:=true) kr gE) <| hoh 0 (fun _ _ h k=>mkL (enc:=eI) (z:=(0:Int)) (z0:=vI 0) (n:=(zn a14)) (m:=(zn a14)) (w:=1) (bytes:=8) [] true kr kr gE kr h k) <| hlp 4 (fun s22=>⟨[(8,.ptr 0 0 0),(10,vI x18),(11,.ref 1 0 s22.2.length),(38,vI (((List.replicate (zt (zn a14)) (0:Int)).length):Int)),(39,vI s22.1)],[oX true false 7 (.agg [vI p0.Grain,vI p0.Count,vI p0.One,z2 p0.Rows,vI p1,vI p2,vI (-1)]),oR true 1 eI s22.2],55⟩) (fun v=>(.exit 0,⟨[(10,vI x18),(11,.ref 0 0 v.length)],[oR true 1 eI v],55⟩)) (wz [1,2]) (fun s22=>?_) fun x31=>?_
 ·refine hbr 1 [40] (?_) ?_
  ·refine hop 6 (fun _=>sgL false [] [] false gE) <| hcl 6 [] (g_lift_counter_mass_ok (Tlift_counter.mk p0 p1 p2 s22.1)) fun x25 _=>hbd fun a27 q28=>hop 0 (fun _=>Qy (enc:=eI) (l:=s22.2) (n:=s22.1) (w:=1) (ob:=1) (ro:=false) (nr:=true) (fl:=true) (a:=a27) kr kr gE q28) <| hop 0 (fun _=>Zf (enc:=eI) (l:=s22.2) (n:=s22.1) (ob:=1) (w:=1) (bx:=false) (nr:=true) (fl:=true) (c:=0) (a:=a27) (a':=x25) (v:=vI x25) false kr kr q28 kr kr kr gE kr) <| hkl 0 [11,47] (ls s22.2 (zt s22.1) x25) <| hnx 2 (wz [0,1])
  refine hdx 1 (wz [1])
 refine hcl 2 [F eI x31] (Qc6 x18 x31) fun x32 _=>hrt 3
theorem g_ref01_digits_ok (p0:Int):Ct Try.prog 58 [vI p0] (Kj p0) (fun x=>.ref 0 0 x.length) (fun x=>[oR true 1 eI x]):=by
 refine hfn [] Try.func58 <| hlp 2 (fun s1=>⟨[(0,vI s1.1),(3,.ref 0 0 s1.2.length)],[oR true 1 eI s1.2],19⟩) (fun v=>(.exit 0,⟨[(3,.ref 0 0 v.length)],[oR true 1 eI v],19⟩)) (Q9 (Z5 (live:=[0,3]) (keep:=[]) gE) (Q9 (Zj 3 1 true true gE) (Z5 (live:=[0,3]) (keep:=[0]) kr))) (fun s1=>?_) fun x5=>?_
 ·refine hbr 2 [6] (?_) ?_
  ·refine hop 9 (fun _=>sgL false [] [] true gE) <| hoh 0 (fun _ _ h k=>Je (enc:=eI) (l:=s1.2) (m:=([(if (zw (0 - (Int.tmod s1.1 10000))) > (Int.tmod s1.1 10000) then (zw (0 - (Int.tmod s1.1 10000))) else (Int.tmod s1.1 10000))]:(List Int))) (w:=1) (bytes:=8) (ob:=0) (nr:=true) (fl:=true) (nr':=true) (fl':=true) (b:=.ref 1 0 1) (rds:=[1]) false kr kr kr kr gE kr h k) <| hnx 4 (wz [2])
  refine hdx 1 (wz [0])
 refine hrt 3
theorem Qch (p0:(List Int)) (p1:(List Int)):Ct Try.prog 56 [z1 p0,z1 p1] (Qbm p0 p1) (fun x=>vI x) (fun x=>[]):=by
 refine hfn [] Try.func56 <| hop 2 (fun _=>Qu (enc:=eI) (l:=p0) (fl:=true) kr gE) <| hop 1 (fun _=>Qu (enc:=eI) (l:=p1) (fl:=true) kr gE) <| hbr 1 [10] (?_) ?_
 ·refine hop 2 (fun _=>Qu (enc:=eI) (l:=p0) (fl:=true) kr gE) <| hop 1 (fun _=>Qu (enc:=eI) (l:=p1) (fl:=true) kr gE) <| hbr 1 [15] (hrt 3) <| ?_
  refine hrt 3
 refine hop 2 (fun _=>Qu (enc:=eI) (l:=p0) (fl:=true) kr gE) <| hlp 2 (fun s5=>⟨[(0,z1 p0),(1,z1 p1),(5,vI s5)],[],41⟩) (fun x=>match x with | .inl v=>(.ret,⟨[(4,vI v)],[],41⟩) | .inr v=>(.exit 0,⟨[],[],41⟩)) (wz []) (fun s5=>?_) (hsm (fun x17=>?_) (fun x18=>?_))
 ·refine hbr 2 [20] (?_) ?_
  ·refine hbd fun a8 q9=>hop 4 (fun _=>Qp (enc:=eI) (l:=p0) (n:=s5) (fl:=true) (w:=1) (a:=a8) kr kr gE q9) <| hbd fun a10 q11=>hop 3 (fun _=>Qp (enc:=eI) (l:=p1) (n:=s5) (fl:=true) (w:=1) (a:=a10) kr kr gE q11) <| hbr 2 [31] (?_) ?_
   ·refine hop 4 (fun _=>Qp (enc:=eI) (l:=p0) (n:=s5) (fl:=true) (w:=1) (a:=a8) kr kr gE q9) <| hop 3 (fun _=>Qp (enc:=eI) (l:=p1) (n:=s5) (fl:=true) (w:=1) (a:=a10) kr kr gE q11) <| hbr 2 [40] (hdx 2 (wz [])) <| ?_
    refine hdx 2 (wz [])
   refine hnx 4 (wz [])
  refine hdx 1 (wz [])
 ·refine hrt 0
 refine hrt 2
theorem g_ref01_cut_ok (p0:(List Int)):Ct Try.prog 76 [z1 p0] (Jr p0) (fun x=>z1 x) (fun x=>[]):=by
 refine hfn [[.lst true]] Try.func76 <| hlp 1 (fun s1=>⟨[(0,z1 s1)],[],21⟩) (fun v=>(.exit 0,⟨[(0,z1 v)],[],21⟩)) (wz []) (fun s1=>?_) fun x9=>?_
 ·refine hop 1 (fun _=>Qu (enc:=eI) (l:=s1) (fl:=true) kr gE) <| hbr 2 [5,6] (?_) ?_
  ·refine hop 2 (fun _=>Qu (enc:=eI) (l:=s1) (fl:=true) kr gE) <| hbd fun a4 q5=>hop 1 (fun _=>Qp (enc:=eI) (l:=s1) (n:=zw ((zn s1) - 1)) (fl:=true) (w:=1) (a:=a4) kr kr gE q5) <| hbr 3 [13,14] (?_) ?_
   ·refine hop 3 (fun _=>Qu (enc:=eI) (l:=s1) (fl:=true) kr gE) <| hoh 1 (fun _ _ h k=>Qvc (enc:=eI) (l:=s1) (fl:=true) (lo:=none) (hi:=(some (vI (zw ((zn s1) - 1))))) (a:=0) (b:=zw ((zn s1) - 1)) (w:=1) kr (fun _=>rfl) kr kr gE h k) <| hnx 1 (wz [])
   refine hdx 1 (wz [])
  refine hdx 9 (wz [])
 refine hrt 3
theorem g_ref01_times_ok (p0:(List Int)) (p1:(List Int)):Ct Try.prog 60 [z1 p0,z1 p1] (Qc5 p0 p1) (fun x=>z1 x) (fun x=>[]):=by
 refine hfn [[.lst true]] Try.func60 <| hop 2 (fun _=>Qu (enc:=eI) (l:=p0) (fl:=true) kr gE) <| hop 1 (fun _=>Qu (enc:=eI) (l:=p1) (fl:=true) kr gE) <| hoh 1 (fun _ _ h k=>mkL (enc:=eI) (z:=(0:Int)) (z0:=vI 0) (n:=zw ((zn p0)+(zn p1))) (m:=zw ((zn p0)+(zn p1))) (w:=1) (bytes:=8) [] true kr kr gE kr h k) <| hlp 2 (fun s1=>⟨[(0,z1 p0),(1,z1 p1),(5,.ref 0 0 s1.2.length),(6,vI s1.1)],[oR true 1 eI s1.2],65⟩) (fun v=>(.exit 0,⟨[(5,.ref 0 0 v.length)],[oR true 1 eI v],65⟩)) (wz [0]) (fun s1=>?_) fun x28=>?_
 ·refine hop 2 (fun _=>Qu (enc:=eI) (l:=p0) (fl:=true) kr gE) <| hbr 1 [18] (?_) ?_
  ·refine hlp 3 (fun s4=>⟨[(0,z1 p0),(1,z1 p1),(5,.ref 0 0 s4.2.2.length),(6,vI s1.1),(7,vI s4.1),(8,vI s4.2.1)],[oR true 1 eI s4.2.2],65⟩) (fun v=>(.exit 2,⟨[(0,z1 p0),(1,z1 p1),(5,.ref 0 0 v.length),(6,vI s1.1)],[oR true 1 eI v],65⟩)) (wz [0]) (fun s4=>?_) fun x26=>?_
   ·refine hop 2 (fun _=>Qu (enc:=eI) (l:=p1) (fl:=true) kr gE) <| hbq 2 [24,25] (fun q6=>?_) (fun q6=>?_)
    ·refine hbd fun a7 q8=>hop 9 (fun _=>Qy (enc:=eI) (l:=s4.2.2) (n:=zw (s1.1+s4.2.1)) (w:=1) (ob:=0) (ro:=false) (nr:=true) (fl:=true) (a:=a7) kr kr gE q8) <| hop 0 (fun _=>Z3 (enc:=eI) (l:=s4.2.2) (n:=zw (s1.1+s4.2.1)) (w:=1) (ob:=0) (c:=0) (bx:=false) (ro:=false) (nr:=true) (fl:=true) (a:=a7) kr kr q8 gE) <| hop 4 (fun _=>Qu (enc:=eI) (l:=p1) (fl:=true) kr gE) <| hkb 1 [42] q6 <| hbd fun a10 q11=>hop 5 (fun _=>Qp (enc:=eI) (l:=p0) (n:=s1.1) (fl:=true) (w:=1) (a:=a10) kr kr gE q11) <| hbd fun a12 q13=>hop 3 (fun _=>Qp (enc:=eI) (l:=p1) (n:=s4.2.1) (fl:=true) (w:=1) (a:=a12) kr kr gE q13) <| ?_
     refine hop 10 (fun _=>Qy (enc:=eI) (l:=s4.2.2) (n:=zw (s1.1+s4.2.1)) (w:=1) (ob:=0) (ro:=false) (nr:=true) (fl:=true) (a:=a7) kr kr gE q8) <| hbd fun a14 q15=>hop 0 (fun _=>Zf (enc:=eI) (l:=s4.2.2) (n:=(zw (s1.1+s4.2.1))) (ob:=0) (w:=1) (bx:=false) (nr:=true) (fl:=true) (c:=0) (a:=a14) (a':=Int.tmod (zw ((zw (s4.1+a7))+(zw (a10*a12)))) 10000) (v:=vI (Int.tmod (zw ((zw (s4.1+a7))+(zw (a10*a12)))) 10000)) false kr kr q15 kr kr kr gE kr) <| hkl 0 [5,32,54] (ls s4.2.2 (zt (zw (s1.1+s4.2.1))) (Int.tmod (zw ((zw (s4.1+a7))+(zw (a10*a12)))) 10000)) <| hnx 6 (wz [0])
    refine hbr 3 [27,28] (?_) ?_
    ·refine hbd fun a19 q20=>hop 6 (fun _=>Qy (enc:=eI) (l:=s4.2.2) (n:=zw (s1.1+s4.2.1)) (w:=1) (ob:=0) (ro:=false) (nr:=true) (fl:=true) (a:=a19) kr kr gE q20) <| hop 0 (fun _=>Z3 (enc:=eI) (l:=s4.2.2) (n:=zw (s1.1+s4.2.1)) (w:=1) (ob:=0) (c:=0) (bx:=false) (ro:=false) (nr:=true) (fl:=true) (a:=a19) kr kr q20 gE) <| hop 4 (fun _=>Qu (enc:=eI) (l:=p1) (fl:=true) kr gE) <| hkb 1 [42] q6 <| hop 7 (fun _=>Qy (enc:=eI) (l:=s4.2.2) (n:=zw (s1.1+s4.2.1)) (w:=1) (ob:=0) (ro:=false) (nr:=true) (fl:=true) (a:=a19) kr kr gE q20) <| hbd fun a22 q23=>hop 0 (fun _=>Zf (enc:=eI) (l:=s4.2.2) (n:=(zw (s1.1+s4.2.1))) (ob:=0) (w:=1) (bx:=false) (nr:=true) (fl:=true) (c:=0) (a:=a22) (a':=Int.tmod (zw (s4.1+a19)) 10000) (v:=vI (Int.tmod (zw (s4.1+a19)) 10000)) false kr kr q23 kr kr kr gE kr) <| hkl 0 [5,32,54] (ls s4.2.2 (zt (zw (s1.1+s4.2.1))) (Int.tmod (zw (s4.1+a19)) 10000)) <| ?_
     refine hnx 6 (wz [0])
    refine hdx 1 (wz [0])
   refine hnx 3 (wz [0])
  refine hdx 1 (wz [0])
 refine hcl 1 [F eI x28] (g_ref01_cut_ok x28) fun x29 _=>hrt 2
theorem Qj7 (p0:(List Int)) (p1:(List Int)):Ct Try.prog 62 [z1 p0,z1 p1] (Qhf p0 p1) (fun x=>z1 x) (fun x=>[]):=by
 refine hfn [[.lst true]] Try.func62 <| hlp 4 (fun s1=>⟨[(0,z1 p0),(1,z1 p1),(5,.ref 0 0 s1.2.2.length),(6,vI s1.1),(7,vI s1.2.1)],[oR true 1 eI s1.2.2],41⟩) (fun v=>(.exit 0,⟨[(5,.ref 0 0 v.length)],[oR true 1 eI v],41⟩)) (Q9 (Z5 (live:=[0,1,5,6,7]) (keep:=[]) gE) (Q9 (Zj 5 1 true true gE) (Z5 (live:=[0,1,5,6,7]) (keep:=[0]) kr))) (fun s1=>?_) fun x15=>?_
 ·refine hop 2 (fun _=>Qu (enc:=eI) (l:=p0) (fl:=true) kr gE) <| hbr 1 [12] (?_) ?_
  ·refine hbd fun a4 q5=>hop 3 (fun _=>Qp (enc:=eI) (l:=p0) (n:=s1.2.1) (fl:=true) (w:=1) (a:=a4) kr kr gE q5) <| hop 6 (fun _=>Qu (enc:=eI) (l:=p1) (fl:=true) kr gE) <| hbr 1 [24] (?_) ?_
   ·refine hbd fun a8 q9=>hop 4 (fun _=>Qp (enc:=eI) (l:=p1) (n:=s1.2.1) (fl:=true) (w:=1) (a:=a8) kr kr gE q9) <| hbr 6 [32] (?_) ?_
    ·refine hop 7 (fun _=>sgL false [] [] true gE) <| hoh 0 (fun _ _ h k=>Je (enc:=eI) (l:=s1.2.2) (m:=([zw ((zw ((zw (a4 - s1.1)) - a8))+10000)]:(List Int))) (w:=1) (bytes:=8) (ob:=0) (nr:=true) (fl:=true) (nr':=true) (fl':=true) (b:=.ref 1 0 1) (rds:=[1]) false kr kr kr kr gE kr h k) <| hnx 4 (wz [2])
    refine hop 3 (fun _=>sgL false [] [] true gE) <| hoh 0 (fun _ _ h k=>Je (enc:=eI) (l:=s1.2.2) (m:=([zw ((zw (a4 - s1.1)) - a8)]:(List Int))) (w:=1) (bytes:=8) (ob:=0) (nr:=true) (fl:=true) (nr':=true) (fl':=true) (b:=.ref 1 0 1) (rds:=[1]) false kr kr kr kr gE kr h k) <| hnx 4 (wz [2])
   refine hbr 4 [32] (?_) ?_
   ·refine hop 7 (fun _=>sgL false [] [] true gE) <| hoh 0 (fun _ _ h k=>Je (enc:=eI) (l:=s1.2.2) (m:=([zw ((zw (a4 - s1.1))+10000)]:(List Int))) (w:=1) (bytes:=8) (ob:=0) (nr:=true) (fl:=true) (nr':=true) (fl':=true) (b:=.ref 1 0 1) (rds:=[1]) false kr kr kr kr gE kr h k) <| hnx 4 (wz [2])
   refine hop 3 (fun _=>sgL false [] [] true gE) <| hoh 0 (fun _ _ h k=>Je (enc:=eI) (l:=s1.2.2) (m:=([zw (a4 - s1.1)]:(List Int))) (w:=1) (bytes:=8) (ob:=0) (nr:=true) (fl:=true) (nr':=true) (fl':=true) (b:=.ref 1 0 1) (rds:=[1]) false kr kr kr kr gE kr h k) <| hnx 4 (wz [2])
  refine hdx 1 (wz [0])
 refine hcl 1 [F eI x15] (g_ref01_cut_ok x15) fun x16 _=>hrt 2
theorem g_ref01_divide_ok (p0:(List Int)) (p1:(List Int)):Ct Try.prog 74 [z1 p0,z1 p1] (Kf p0 p1) (fun x=>.tup [z1 x.1,z1 x.2]) (fun x=>[]):=by
 refine hfn [[.lst true],[.lst true]] Try.func74 <| hop 3 (fun _=>Qu (enc:=eI) (l:=p1) (fl:=true) kr gE) <| hop 3 (fun _=>Qu (enc:=eI) (l:=p0) (fl:=true) kr gE) <| hbr 2 [22] (?_) ?_
 ·refine hoh 3 (fun _ _ h k=>Qs2 (enc:=eI) (m:=p0) (w:=1) (bytes:=8) (nr':=true) (fl':=true) (a:=.emp) (b:=z1 p0) (rds:=[]) false kr (.inr rfl) (Qco (fun _=>rfl)) kr gE kr h k) <| hwk 2 (wl [4,5] [0]) <| hwk 0 (wsn 5 [F eI p0]) <| hrt 1
 refine hop 2 (fun _=>Qu (enc:=eI) (l:=p0) (fl:=true) kr gE) <| hoh 2 (fun _ _ h k=>mkL (enc:=eI) (z:=(0:Int)) (z0:=vI 0) (n:=zw ((zn p0) - (zw ((zn p1) - 1)))) (m:=zw ((zn p0) - (zw ((zn p1) - 1)))) (w:=1) (bytes:=8) [] true kr kr gE kr h k) <| hop 4 (fun _=>Qu (enc:=eI) (l:=p0) (fl:=true) kr gE) <| hoh 2 (fun _ _ h k=>Qvc (enc:=eI) (l:=p0) (fl:=true) (lo:=(some (vI (zw ((zn p0) - (zw ((zn p1) - 1))))))) (hi:=none) (a:=zw ((zn p0) - (zw ((zn p1) - 1)))) (b:=(zn p0)) (w:=1) kr (fun _=>rfl) kr kr gE h k) <| hoh 0 (fun _ _ h k=>Qs2 (enc:=eI) (m:=(sub p0 (zw ((zn p0) - (zw ((zn p1) - 1)))) (zn p0))) (w:=1) (bytes:=8) (nr':=true) (fl':=true) (a:=.emp) (b:=z1 (sub p0 (zw ((zn p0) - (zw ((zn p1) - 1)))) (zn p0))) (rds:=[]) false kr (.inr rfl) (Qco (fun _=>rfl)) kr gE kr h k) <| hlp 5 (fun s3=>⟨[(0,z1 p0),(1,z1 p1),(6,vI (zw ((zn p1) - 1))),(7,.ref 0 0 s3.2.2.length),(8,z1 s3.1),(9,vI s3.2.1)],[oR true 1 eI s3.2.2],124⟩) (fun v=>(.exit 0,⟨[(7,.ref 0 0 v.2.length),(8,z1 v.1)],[oR true 1 eI v.2],124⟩)) (Q9 (Z5 (live:=[0,1,6,7,8,9]) (keep:=[0,1]) gE) (Q9 (wsn 8 [F eI (sub p0 (zw ((zn p0) - (zw ((zn p1) - 1)))) (zn p0))]) (Z5 (live:=[0,1,6,7,8,9]) (keep:=[0]) kr))) (fun s3=>?_) fun x48=>?_
 ·refine hbr 2 [43] (?_) ?_
  ·refine hbd fun a6 q7=>hop 3 (fun _=>Qp (enc:=eI) (l:=p0) (n:=s3.2.1) (fl:=true) (w:=1) (a:=a6) kr kr gE q7) <| hop 1 (fun _=>sgL false [] [] true gE) <| hoh 1 (fun _ _ h k=>Je (enc:=eI) (l:=([a6]:(List Int))) (m:=s3.1) (w:=1) (bytes:=8) (ob:=1) (nr:=true) (fl:=true) (nr':=true) (fl':=true) (b:=z1 s3.1) (rds:=[]) false kr kr (Qco (fun _=>rfl)) kr gE kr h k) <| hcl 0 [F eI (([a6]:(List Int))++s3.1)] (g_ref01_cut_ok (([a6]:(List Int))++s3.1)) fun x8 _=>hlp 6 (fun s10=>⟨[(0,z1 p0),(1,z1 p1),(6,vI (zw ((zn p1) - 1))),(7,.ref 0 0 s3.2.2.length),(8,z1 x8),(9,vI s3.2.1),(10,vI s10.1),(11,vI s10.2.1),(12,vI s10.2.2)],[oR true 1 eI s3.2.2],124⟩) (fun v=>(.exit 2,⟨[(0,z1 p0),(1,z1 p1),(6,vI (zw ((zn p1) - 1))),(7,.ref 0 0 s3.2.2.length),(8,z1 x8),(9,vI s3.2.1),(10,vI v.1),(11,vI v.2)],[oR true 1 eI s3.2.2],124⟩)) (wz [0]) (fun s10=>?_) fun x26=>?_
   ·refine hbr 5 [60] (?_) ?_
    ·refine hop 6 (fun _=>Qu (enc:=eI) (l:=x8) (fl:=true) kr gE) <| hbr 1 [68] (?_) ?_
     ·refine hbd fun a15 q16=>hop 4 (fun _=>Qp (enc:=eI) (l:=x8) (n:=s10.2.2) (fl:=true) (w:=1) (a:=a15) kr kr gE q16) <| hbr 6 [77] (hbd fun a19 q20=>hop 5 (fun _=>Qp (enc:=eI) (l:=p1) (n:=s10.2.2) (fl:=true) (w:=1) (a:=a19) kr kr gE q20) <| hnx 6 (wz [0])) <| ?_
      refine hnx 4 (wz [0])
     refine hbr 4 [77] (hbd fun a23 q24=>hop 5 (fun _=>Qp (enc:=eI) (l:=p1) (n:=s10.2.2) (fl:=true) (w:=1) (a:=a23) kr kr gE q24) <| hnx 6 (wz [0])) <| ?_
     refine hnx 4 (wz [0])
    refine hdx 1 (wz [0])
   refine hoh 4 (fun _ _ h k=>Qkh (k:=.i64) (a:=x26.2) (b:=zw (x26.1+1)) kr gE h k) <| hoh 2 (fun _ _ h k=>Qkh (k:=.i64) (a:=x26.2) (b:=x26.1) kr gE h k) <| hlp 2 (fun s27=>⟨[(0,z1 p0),(1,z1 p1),(6,vI (zw ((zn p1) - 1))),(7,.ref 0 0 s3.2.2.length),(8,z1 x8),(9,vI s3.2.1),(13,vI s27.1),(14,vI s27.2)],[oR true 1 eI s3.2.2],124⟩) (fun v=>(.exit 4,⟨[(0,z1 p0),(1,z1 p1),(6,vI (zw ((zn p1) - 1))),(7,.ref 0 0 s3.2.2.length),(8,z1 x8),(9,vI s3.2.1),(13,vI v)],[oR true 1 eI s3.2.2],124⟩)) (wz [0]) (fun s27=>?_) fun x37=>?_
   ·refine hbr 3 [94] (?_) ?_
    ·refine hop 9 (fun _=>sgL false [] [] true gE) <| hcl 0 [] (g_ref01_times_ok p1 [zw (Int.tdiv (zw ((zw (s27.1+s27.2))+1)) 2)]) fun x30 _=>hcl 1 [] (Qch x30 x8) fun x32 _=>hbr 1 [106] (hnx 3 (wz [0])) <| ?_
     refine hnx 4 (wz [0])
    refine hdx 1 (wz [0])
   refine hbd fun a38 q39=>hop 3 (fun _=>Qy (enc:=eI) (l:=s3.2.2) (n:=s3.2.1) (w:=1) (ob:=0) (ro:=false) (nr:=true) (fl:=true) (a:=a38) kr kr gE q39) <| hop 0 (fun _=>Zf (enc:=eI) (l:=s3.2.2) (n:=s3.2.1) (ob:=0) (w:=1) (bx:=false) (nr:=true) (fl:=true) (c:=0) (a:=a38) (a':=x37) (v:=vI x37) false kr kr q39 kr kr kr gE kr) <| hkl 0 [7,110] (ls s3.2.2 (zt s3.2.1) x37) <| hop 3 (fun _=>sgL false [] [] true gE) <| hcl 0 [] (g_ref01_cut_ok [x37]) fun x40 _=>hcl 0 [] (g_ref01_times_ok p1 x40) fun x42 _=>hcl 0 [] (Qj7 x8 x42) fun x44 _=>hnx 4 (wz [0])
  refine hdx 1 (wz [0])
 refine hcl 1 [F eI x48.2] (g_ref01_cut_ok x48.2) fun x49 _=>hrt 4
theorem g_ref01_gcd_ok (p0:(List Int)) (p1:(List Int)):Ct Try.prog 57 [z1 p0,z1 p1] (Qjw p0 p1) (fun x=>z1 x) (fun x=>[]):=by
 refine hfn [[.lst true]] Try.func57 <| hlp 1 (fun s1=>⟨[(0,z1 s1.1),(1,z1 s1.2)],[],19⟩) (fun v=>(.exit 0,⟨[(0,z1 v)],[],19⟩)) (wz []) (fun s1=>?_) fun x7=>?_
 ·refine hop 1 (fun _=>Qu (enc:=eI) (l:=s1.2) (fl:=true) kr gE) <| hbr 1 [9] (hcl 3 [] (g_ref01_divide_ok s1.1 s1.2) fun x4 _=>hnx 9 (wz [])) <| ?_
  refine hdx 1 (wz [])
 refine hrt 3
theorem Qd6 (p0:(List Int)):Ct Try.prog 75 [z1 p0] (Qcu p0) (fun x=>.tup [vI x.1,vB x.2]) (fun x=>[]):=by
 refine hfn [] Try.func75 <| hcl 3 [] (g_ref01_digits_ok 4611686018427387903) fun x1 _=>hcl 0 [F eI x1] (Qch p0 x1) fun x3 _=>hbr 1 [9] (hrt 4) <| ?_
 refine hop 3 (fun _=>Qu (enc:=eI) (l:=p0) (fl:=true) kr gE) <| hlp 2 (fun s7=>⟨[(0,z1 p0),(4,vI s7.1),(5,vI s7.2)],[],25⟩) (fun v=>(.exit 0,⟨[(4,vI v)],[],25⟩)) (wz []) (fun s7=>?_) fun x13=>?_
 ·refine hbr 2 [14] (hbd fun a10 q11=>hop 5 (fun _=>Qp (enc:=eI) (l:=p0) (n:=s7.2) (fl:=true) (w:=1) (a:=a10) kr kr gE q11) <| hnx 6 (wz [])) <| ?_
  refine hdx 1 (wz [])
 refine hrt 4
theorem Qkx (p0:Bool) (p1:(List Int)) (p2:(List Int)):Ct Try.prog 59 [vB p0,z1 p1,z1 p2] (Qh4 p0 p1 p2) (fun x=>.tup [.agg [vI x.1.N,vI x.1.D],vB x.2]) (fun x=>[]):=by
 refine hfn [] Try.func59 <| hcl 4 [] (g_ref01_gcd_ok p1 p2) fun x1 _=>hcl 3 [] (g_ref01_divide_ok p1 x1) fun x3 _=>hcl 6 [] (g_ref01_divide_ok p2 x1) fun x5 _=>hcl 5 [] (Qd6 x3.1) fun x7 _=>hcl 6 [] (Qd6 x5.1) fun x9 _=>hbr 8 [39,40] (hrt 8) <| ?_
 refine hbr 3 [42,43] (hrt 5) <| ?_
 refine hbr 2 [0,45] (hrt 10) <| ?_
 refine hrt 7
theorem g_ref01_Make_ok (p0:Int) (p1:Int):Ct Try.prog 55 [vI p0,vI p1] (Qht p0 p1) (fun x=>.tup [.agg [vI x.1.N,vI x.1.D],vB x.2]) (fun x=>[]):=by
 refine hfn [] Try.func55 <| hcl 8 [] (g_ref01_digits_ok p0) fun x1 _=>hcl 1 [] (g_ref01_digits_ok p1) fun x3 _=>hcl 0 [F eI x1,F eI x3] (Qkx (!((decide (p0 < 0))==(decide (p1 < 0)))) x1 x3) fun x5 _=>hrt 5
theorem g_ref01_Of_ok (p0:Int) (p1:Int):Ct Try.prog 28 [vI p0,vI p1] (Qdg p0 p1) (fun x=>.agg [vI x.N,vI x.D]) (fun x=>[]):=by
 refine hfn [] Try.func28 <| hcl 3 [] (g_ref01_Make_ok p0 p1) fun x1 _=>hrt 9
end
section
attribute [local irreducible] RW WP
theorem Qei (p0:Int) (p1:(List Int)):Ct Try.prog 32 [vI p0,z1 p1] (Qdt p0 p1) (fun x=>.ref 0 0 x.length) (fun x=>[oR true 2 eTapi_Q x]):=by
 refine hfn [] Try.func32 <| hop 3 (fun _=>Qu (enc:=eI) (l:=p1) (fl:=true) kr gE) <| hlp 1 (fun s1=>⟨[(0,vI p0),(5,.ref 0 0 s1.2.length),(8,z1 p1),(9,vI (zn p1)),(10,vI s1.1)],[oR true 2 eTapi_Q s1.2],22⟩) (fun v=>(.exit 0,⟨[(5,.ref 0 0 v.length)],[oR true 2 eTapi_Q v],22⟩)) (Q9 (Z5 (live:=[0,5,8,9,10]) (keep:=[]) gE) (Q9 (Zj 5 2 true true gE) (Z5 (live:=[0,5,8,9,10]) (keep:=[0]) kr))) (fun s1=>?_) fun x9=>?_
 ·refine hbr 1 [11] (?_) ?_
  ·refine hbd fun a4 q5=>hop 1 (fun _=>Qp (enc:=eI) (l:=p1) (n:=s1.1) (fl:=true) (w:=1) (a:=a4) kr kr gE q5) <| hcl 5 [] (g_ref01_Of_ok a4 p0) fun x6 _=>hop 0 (fun _=>sgL false [] [] true gE) <| hoh 0 (fun _ _ h k=>Je (enc:=eTapi_Q) (l:=s1.2) (m:=([x6]:(List Qb))) (w:=2) (bytes:=16) (ob:=0) (nr:=true) (fl:=true) (nr':=true) (fl':=true) (b:=.ref 1 0 1) (rds:=[1]) false kr kr kr kr gE kr h k) <| hnx 3 (wz [2])
  refine hdx 1 (wz [0])
 refine hrt 3
theorem g_law14_sample_ok  : Ct Try.prog 33 [] (Qfr) (fun x=>.agg [vI x.Grain,vI x.Count,vI x.One,.ref 0 0 x.Rows.length]) (fun x=>[oR false 1 z1 x.Rows]):=by
 refine hfn [] Try.func33 <| hop 0 (fun _=>sgL false [] [] false gE) <| hop 0 (fun _=>sgL false [] [] true gE) <| hop 0 (fun _=>sgL false [] [] true gE) <| hop 0 (fun _=>sgL false [] [] true gE) <| hbs 0 [.lst true] false [] <| hrt 3
theorem g_law14_wakes_ok  : Ct Try.prog 10 [] (Qc3) (fun x=>vB x) (fun x=>[]):=by
 refine hfn [] Try.func10 <| hcl 1 [] (g_law14_sample_ok ) fun x1 _=>hop 0 (fun _=>sgL false [] [] false gE) <| hcl 2 [F z1 x1.Rows] (g_lift_Ones_ok x1 0 0 (-1)) fun x3 _=>hcl 6 [F z1 x1.Rows] (g_lift_Child_ok x1 0 1) fun x5 _=>hcl 6 [F z1 x1.Rows] (Qf4 x1 0 0 1) fun x7 _=>hcl 7 [F z1 x1.Rows] (g_lift_Prob_ok x1 1 0 1) fun x9 _=>hcl 7 [F z1 x1.Rows] (Qdw x1) fun x11 _=>hop 3 (fun _=>sgL false [] [] false gE) <| ?_
 refine hbr 6 [39,40] (?_) ?_
 ·refine hop 1 (fun _=>sgL false [] [] true gE) <| hcl 0 [] (us:=[vI 16,.lst true [vI 9,vI 6,vI 1]]) (rv:=fun x15=>eL true eTapi_Q x15) (ro:=fun x15=>[]) (fun x15 q16=>Zb.froz (Qei 16 [9,6,1] x15 q16) (Qar (w:=2) (bx:=false) (ro:=false) (enc:=eTapi_Q) (l:=x15) (fl:=true) rfl)) fun x15 _=>hcl 0 [F eTapi_Q x3.1] (g_slices_Equal_api_Q_api_Q_ok x3.1 x15) fun x17 _=>hbr 2 [44,45,46] (?_) ?_
  ·refine hbr 4 [48,49,50] (?_) ?_
   ·refine hop 1 (fun _=>sgL false [] [] true gE) <| hcl 0 [] (us:=[vI 8,.lst true [vI 3,vI 5]]) (rv:=fun x23=>eL true eTapi_Q x23) (ro:=fun x23=>[]) (fun x23 q24=>Zb.froz (Qei 8 [3,5] x23 q24) (Qar (w:=2) (bx:=false) (ro:=false) (enc:=eTapi_Q) (l:=x23) (fl:=true) rfl)) fun x23 _=>hcl 0 [F eTapi_Q x5.1] (g_slices_Equal_api_Q_api_Q_ok x5.1 x23) fun x25 _=>hbr 2 [54,55,56] (?_) ?_
    ·refine hbr 4 [58,59,60] (?_) ?_
     ·refine hcl 1 [] (g_ref01_Of_ok 5 8) fun x31 _=>hbr 3 [63,64,65] (?_) ?_
      ·refine hbr 4 [67,68,69] (?_) ?_
       ·refine hcl 1 [] (g_ref01_Of_ok 3 32) fun x37 _=>hbr 3 [72,73,74] (?_) ?_
        ·refine hbr 4 [76,77,78] (?_) ?_
         ·refine hbr 6 [82,83,84] (?_) ?_
          ·refine hcl 1 [F z1 x1.Rows] (g_lift_Check_ok x1) fun x45 _=>hbr 3 [87,88,89] (?_) ?_
           ·refine hcl 1 [] (us:=[.agg [vI 0,vI 0,vI 0,.nils]]) (rv:=fun x49=>vI x49) (ro:=fun x49=>[]) (fun x49 q50=>Zb.args [[.keep,.keep,.keep,.lst false]] (g_lift_Check_ok (Qd.mk 0 0 0 []) x49 q50)) fun x49 _=>hrt 4
           refine hrt 6
          refine hrt 11
         refine hrt 17
        refine hrt 21
       refine hrt 26
      refine hrt 30
     refine hrt 35
    refine hrt 39
   refine hrt 45
  refine hrt 49
 refine hrt 55
theorem g_law14_Known_Of_ok (p0:Q0) (p1:Qd):Ct Try.prog 17 [.agg [vI p0.Zeros,vI p0.Ones,vI p0.Child],.agg [vI p1.Grain,vI p1.Count,vI p1.One,z2 p1.Rows]] (V9 p0 p1) (fun x=>.agg [vI x.Zeros,vI x.Ones,vI x.Child]) (fun x=>[]):=by
 refine hfn [] Try.func17 <| hop 1 (fun _=>sgL false [] [] false gE) <| hoh 8 (fun _ _ h k=>Qdv (k:=.u64) (a:=zv (p0.Zeros)) (b:=zv (zw (p1.Count+1))) kr gE h k) <| hoh 13 (fun _ _ h k=>Qdv (k:=.u64) (a:=zv (p0.Ones)) (b:=zv (zw ((zw (p1.Count - (zw (Int.tmod (zv (p0.Zeros)) (zv (zw (p1.Count+1)))))))+1))) kr gE h k) <| hbd fun a1 q2=>hop 6 (fun _=>Qp (enc:=z1) (l:=p1.Rows) (n:=0) (fl:=false) (w:=1) (a:=a1) kr kr gE q2) <| hop 1 (fun _=>Qu (enc:=eI) (l:=a1) (fl:=true) kr gE) <| hoh 2 (fun _ _ h k=>Qdv (k:=.u64) (a:=zv (p0.Child)) (b:=zv (zw ((zn a1)+1))) kr gE h k) <| hrt 5
theorem Qj9 (p0:Int) (p1:Int) (p2:(List Int)):Ct Try.prog 41 [vI p0,vI p1,eL true (AV.int .u8) p2] (Ky p0 p1 p2) (fun x=>.ref 0 0 x.length) (fun x=>[oR true 1 eI x]):=by
 refine hfn [] Try.func41 <| hlp 5 (fun s1=>⟨[(0,vI p0),(2,eL true (AV.int .u8) p2),(7,.ref 0 0 s1.2.2.length),(8,vI s1.1),(9,vI s1.2.1)],[oR true 1 eI s1.2.2],42⟩) (fun v=>(.exit 0,⟨[(7,.ref 0 0 v.length)],[oR true 1 eI v],42⟩)) (Q9 (Z5 (live:=[0,2,7,8,9]) (keep:=[]) gE) (Q9 (Zj 7 1 true true gE) (Z5 (live:=[0,2,7,8,9]) (keep:=[0]) kr))) (fun s1=>?_) fun x11=>?_
 ·refine hbr 3 [14] (?_) ?_
  ·refine hbr 7 [21] (?_) ?_
   ·refine hop 4 (fun _=>Qu (enc:=(AV.int .u8)) (l:=p2) (fl:=true) kr gE) <| hbr 1 [25] (?_) ?_
    ·refine hbd fun a8 q9=>hop 3 (fun _=>Qp (enc:=(AV.int .u8)) (l:=p2) (n:=s1.2.1) (fl:=true) (w:=1) (a:=a8) kr kr gE q9) <| hoh 4 (fun _ _ h k=>Qdv (k:=.i64) (a:=zw (a8)) (b:=zw (s1.1+1)) kr gE h k) <| hop 3 (fun _=>sgL false [] [] true gE) <| hoh 0 (fun _ _ h k=>Je (enc:=eI) (l:=s1.2.2) (m:=([Int.tmod (zw (a8)) (zw (s1.1+1))]:(List Int))) (w:=1) (bytes:=8) (ob:=0) (nr:=true) (fl:=true) (nr':=true) (fl':=true) (b:=.ref 1 0 1) (rds:=[1]) false kr kr kr kr gE kr h k) <| hnx 8 (wz [2])
    refine hop 3 (fun _=>sgL false [] [] true gE) <| hoh 0 (fun _ _ h k=>Je (enc:=eI) (l:=s1.2.2) (m:=([0]:(List Int))) (w:=1) (bytes:=8) (ob:=0) (nr:=true) (fl:=true) (nr':=true) (fl':=true) (b:=.ref 1 0 1) (rds:=[1]) false kr kr kr kr gE kr h k) <| hnx 8 (wz [2])
   refine hop 3 (fun _=>sgL false [] [] true gE) <| hoh 0 (fun _ _ h k=>Je (enc:=eI) (l:=s1.2.2) (m:=([s1.1]:(List Int))) (w:=1) (bytes:=8) (ob:=0) (nr:=true) (fl:=true) (nr':=true) (fl':=true) (b:=.ref 1 0 1) (rds:=[1]) false kr kr kr kr gE kr h k) <| hnx 8 (wz [2])
  refine hdx 1 (wz [0])
 refine hrt 3
noncomputable abbrev J2 (p0:Qq):Int:=(zw (1+(zw (Int.tmod p0.Grain 20))))
noncomputable abbrev Qqi (p0:Qq):AObj:=oX true false 5 (.agg [.int .u8 p0.Grain,.int .u8 p0.Count,.int .u8 p0.One,.int .u8 p0.Card,eL true (AV.int .u8) p0.L])
noncomputable abbrev Qli:AObj:=oX true false 4 (.agg [vI 0,vI 0,vI 0,.nils])
theorem Qfv (p0:Qq):Ct Try.prog 18 [.agg [.int .u8 p0.Grain,.int .u8 p0.Count,.int .u8 p0.One,.int .u8 p0.Card,eL true (AV.int .u8) p0.L]] (Vq p0) (fun x=>.agg [vI x.Grain,vI x.Count,vI x.One,.ref 0 0 x.Rows.length]) (fun x=>[oR false 1 z1 x.Rows]):=by
 refine hfn [] Try.func18 <| hop 0 (fun _=>sgL false [] [] false gE) <| hop 0 (fun _=>sgL false [] [] false gE) <| hop 11 (fun _=>sgL false [] [] false gE) <| hoh 7 (fun _ _ h k=>Qdv (k:=.i64) (a:=zw (p0.One)) (b:=zw ((J2 p0)+1)) kr gE h k) <| hlp 3 (fun s1=>⟨[(1,.ptr 0 0 0),(2,.ptr 1 0 0),(3,.ptr 2 0 0),(4,vI s1.1)],[(Qqi p0),Qli,oX false false 4 (.agg [vI (J2 p0),vI (zw (1+(zw (Int.tmod p0.Count 10)))),vI (Int.tmod (zw (p0.One)) (zw ((J2 p0)+1))),.ref 3 0 s1.2.length]),oR false 1 z1 s1.2],72⟩) (fun v=>(.exit 0,⟨[(2,.ptr 0 0 0),(3,.ptr 1 0 0)],[Qli,oX false false 4 (.agg [vI (J2 p0),vI (zw (1+(zw (Int.tmod p0.Count 10)))),vI (Int.tmod (zw (p0.One)) (zw ((J2 p0)+1))),.ref 2 0 v.length]),oR false 1 z1 v],72⟩)) (Q9 (Z5 (live:=[1,2,3,4]) (keep:=[0,1,2]) gE) (Q9 (Qax 2 0 3 1 true false gE) (Z5 (live:=[1,2,3,4]) (keep:=[0,1,2,3]) kr))) (fun s1=>?_) fun x16=>?_
 ·refine hbr 4 [29] (?_) ?_
  ·refine hlp 3 (fun s4=>⟨[(1,.ptr 0 0 0),(2,.ptr 1 0 0),(3,.ptr 2 0 0),(4,vI s1.1),(5,.ref 3 0 s4.2.length),(6,vI s4.1)],[(Qqi p0),Qli,oX false false 4 (.agg [vI (J2 p0),vI (zw (1+(zw (Int.tmod p0.Count 10)))),vI (Int.tmod (zw (p0.One)) (zw ((J2 p0)+1))),.ref 4 0 s1.2.length]),oR true 1 (AV.int .u8) s4.2,oR false 1 z1 s1.2],72⟩) (fun v=>(.exit 2,⟨[(1,.ptr 0 0 0),(2,.ptr 1 0 0),(3,.ptr 2 0 0),(4,vI s1.1),(5,.ref 3 0 v.length)],[(Qqi p0),Qli,oX false false 4 (.agg [vI (J2 p0),vI (zw (1+(zw (Int.tmod p0.Count 10)))),vI (Int.tmod (zw (p0.One)) (zw ((J2 p0)+1))),.ref 4 0 s1.2.length]),oR true 1 (AV.int .u8) v,oR false 1 z1 s1.2],72⟩)) (Q9 (Z5 (live:=[1,2,3,4,5,6]) (keep:=[0,1,2,3]) gE) (Q9 (Zj 5 1 true true gE) (Z5 (live:=[1,2,3,4,5,6]) (keep:=[0,1,2,4,3]) kr))) (fun s4=>?_) fun x12=>?_
   ·refine hbr 3 [33,34] (?_) ?_
    ·refine hop 2 (fun _=>Qu (enc:=(AV.int .u8)) (l:=p0.L) (fl:=true) kr gE) <| hbr 2 [38,39] (?_) ?_
     ·refine hop 11 (fun _=>Qu (enc:=(AV.int .u8)) (l:=p0.L) (fl:=true) kr gE) <| hoh 0 (fun _ _ h k=>Qdv (k:=.i64) (a:=zw ((zw (3*s1.1))+s4.1)) (b:=(zn p0.L)) kr gE h k) <| hbd fun a9 q10=>hop 0 (fun _=>Qp (enc:=(AV.int .u8)) (l:=p0.L) (n:=Int.tmod (zw ((zw (3*s1.1))+s4.1)) (zn p0.L)) (fl:=true) (w:=1) (a:=a9) kr kr gE q10) <| hop 1 (fun _=>sgL false [] [] true gE) <| hoh 0 (fun _ _ h k=>Je (enc:=(AV.int .u8)) (l:=s4.2) (m:=([a9]:(List Int))) (w:=1) (bytes:=1) (ob:=3) (nr:=true) (fl:=true) (nr':=true) (fl':=true) (b:=.ref 5 0 1) (rds:=[5]) false kr kr kr kr gE kr h k) <| hnx 4 (wz [0,1,2,6,4])
     refine hdx 1 (wz [0,1,2,3,4])
    refine hdx 6 (wz [0,1,2,3,4])
   refine hcl 11 [F (AV.int .u8) x12] (us:=[vI (zw (2+(zw (Int.tmod p0.Card 3)))),vI (J2 p0),eL true (AV.int .u8) x12]) (rv:=fun x13=>z1 x13) (ro:=fun x13=>[]) (fun x13 q14=>Zb.froz (Qj9 (zw (2+(zw (Int.tmod p0.Card 3)))) (J2 p0) x12 x13 q14) (Qar (w:=1) (bx:=false) (ro:=false) (enc:=eI) (l:=x13) (fl:=true) rfl)) fun x13 _=>hop 0 (fun _=>sgL false [] [.lst true] false gE) <| hoh 0 (fun _ _ h k=>Je (enc:=z1) (l:=s1.2) (m:=([x13]:(List (List Int)))) (w:=1) (bytes:=24) (ob:=4) (nr:=true) (fl:=false) (nr':=true) (fl':=false) (b:=.ref 5 0 1) (rds:=[5]) false kr kr kr kr gE kr h k) <| hnx 5 (wz [0,1,2,6])
  refine hdx 1 (wz [1,2,3])
 refine hrt 3
noncomputable abbrev Qqf (p0:Qw):AObj:=oX true false 5 (.agg [vI p0.Net.Grain,eL false eTapi_Node p0.Net.Nodes,z1 p0.cards,eL true (AV.int .u64) p0.sets,z1 p0.order])
noncomputable abbrev Qks (p1:Qi):AObj:=oX true false 3 (.agg [vI p1.Card,z1 p1.Parents,z2 p1.Rows])
noncomputable abbrev Qpe:AObj:=oX true true 1 (vB false)
noncomputable abbrev o34_17:AObj:=.loop 66 [(2,.ptr 0 0 0),(3,.ptr 1 0 0),(4,.ptr 2 0 0),(34,.fn (.func 104) [] [.ptr 3 0 0])] [35,36] (cA Try.f89 [true,true,true,true,false,true,true]) (cB Try.f89 [true,true,true,true,false,true,true]) .ready none
noncomputable abbrev o34_18:AObj:=.loop 66 [(2,.ptr 0 0 0),(3,.ptr 1 0 0),(4,.ptr 2 0 0),(34,.fn (.func 104) [] [.ptr 3 0 0])] [35,36] (cA Try.f89 [true,true,true,true,false,true,true]) (cB Try.f89 [true,true,true,true,false,true,true]) .busy none
noncomputable abbrev l34_19 (p0:Qw) (p1:Qi):List AObj:=[(Qqf p0),(Qks p1),Qpe,(Qks p1)]
theorem Qeg (p0:Qw) (p1:Qi):Ct Try.prog 89 [.agg [vI p0.Net.Grain,eL false eTapi_Node p0.Net.Nodes,z1 p0.cards,eL true (AV.int .u64) p0.sets,z1 p0.order],.agg [vI p1.Card,z1 p1.Parents,z2 p1.Rows]] (Yx p0 p1) (fun x=>vB x) (fun x=>[]):=by
 refine hfn [] Try.func89 <| hop 0 (fun _=>sgL false [] [] false gE) <| hop 0 (fun _=>sgL false [] [] false gE) <| hop 4 (fun _=>Qu (enc:=eI) (l:=p1.Parents) (fl:=true) kr gE) <| hlp 1 (fun s1=>⟨[(2,.ptr 0 0 0),(3,.ptr 1 0 0),(4,.ptr 2 0 0),(5,vI s1.1),(14,z1 p1.Parents),(15,vI (zn p1.Parents)),(16,vI s1.2)],[(Qqf p0),(Qks p1),Qpe],66⟩) (fun v=>(.exit 0,⟨[(2,.ptr 0 0 0),(3,.ptr 1 0 0),(4,.ptr 2 0 0),(5,vI v)],[(Qqf p0),(Qks p1),Qpe],66⟩)) (wz [0,1,2]) (fun s1=>?_) fun x9=>?_
 ·refine hbr 1 [17] (?_) ?_
  ·refine hbd fun a4 q5=>hop 1 (fun _=>Qp (enc:=eI) (l:=p1.Parents) (n:=s1.2) (fl:=true) (w:=1) (a:=a4) kr kr gE q5) <| hbd fun a6 q7=>hop 6 (fun _=>Qp (enc:=eI) (l:=p0.cards) (n:=a4) (fl:=true) (w:=1) (a:=a6) kr kr gE q7) <| hnx 5 (wz [0,1,2])
  refine hdx 1 (wz [0,1,2])
 refine hop 2 (fun _=>Qu (enc:=z1) (l:=p1.Rows) (fl:=false) kr gE) <| hbr 2 [32] (hrt 3) <| ?_
 refine hil 2 Try.func99 <| hop 0 (fun _=>sgL false [] [] false gE) <| hwk 3 (wl [2] [3]) <| hwk 1 (wl [2,3,4,34] [0,1,2,3]) <| hrg 0 Try.func104 <| hop 2 (fun _=>Qu (enc:=z1) (l:=p1.Rows) (fl:=false) kr gE) <| hlp 1 (fun s12=>⟨[(0,.yld 4),(6,z2 p1.Rows),(7,vI (zn p1.Rows)),(8,vI s12)],(l34_19 p0 p1)++[o34_17],19⟩) (fun x=>match x with | .inl v=>(.ret,⟨[],(l34_19 p0 p1)++[.loop 66 [(2,.ptr 0 0 0),(3,.ptr 1 0 0),(4,.ptr 2 0 0),(34,.fn (.func 104) [] [.ptr 3 0 0])] [35,36] (cA Try.f89 [true,true,true,true,false,true,true]) (cB Try.f89 [true,true,true,true,false,true,true]) .done (some .ret)],19⟩) | .inr v=>(.exit 0,⟨[],(l34_19 p0 p1)++[o34_17],19⟩)) (wz []) (fun s12=>?_) (hsm (fun x34=>?_) (fun x35=>?_))
 ·refine hbr 1 [9] (?_) ?_
  ·refine hbd fun a15 q16=>hop 2 (fun _=>Qp (enc:=z1) (l:=p1.Rows) (n:=s12) (fl:=false) (w:=1) (a:=a15) kr kr gE q16) <| hyl 6 <| hop 6 (fun _=>Qu (enc:=eI) (l:=a15) (fl:=true) kr gE) <| hlp 1 (fun s17=>⟨[(3,.ptr 1 0 0),(4,.ptr 2 0 0),(9,z1 a15),(10,vI s17.1),(40,z1 a15),(41,vI (zn a15)),(42,vI s17.2)],(l34_19 p0 p1)++[o34_18],66⟩) (fun x=>match x with | .inl v=>(.ret,⟨[(4,.ptr 2 0 0)],(l34_19 p0 p1)++[o34_18],66⟩) | .inr v=>(.exit 4,⟨[(3,.ptr 1 0 0),(4,.ptr 2 0 0),(9,z1 a15),(10,vI v)],(l34_19 p0 p1)++[o34_18],66⟩)) (wz []) (fun s17=>?_) (hsm (fun x27=>?_) (fun x28=>?_))
   ·refine hbr 1 [43] (?_) ?_
    ·refine hbd fun a20 q21=>hop 1 (fun _=>Qp (enc:=eI) (l:=a15) (n:=s17.2) (fl:=true) (w:=1) (a:=a20) kr kr gE q21) <| hbr 5 [47,48] (hdx 6 (wz [])) <| ?_
     refine hbr 4 [51,52] (hdx 2 (wz [])) <| ?_
     refine hnx 7 (wz [])
    refine hdx 1 (wz [])
   ·refine hdx 2 (wz [])
   refine hop 1 (fun _=>Qu (enc:=eI) (l:=a15) (fl:=true) kr gE) <| hbr 4 [61,62] (hwk 5 (wl [4] []) <| hdx 3 (wz [])) <| ?_
   refine hbr 3 [64,65] (hwk 2 (wl [4] []) <| hdx 3 (wz [])) <| ?_
   refine hnx 5 (wz [])
  refine hdx 1 (wz [])
 ·refine hrt 0
 refine hrt 2
theorem Qk0 (p0:(List Int)):Ct Try.prog 90 [eL true (AV.int .u64) p0] (Qbs p0) (fun x=>.tup [.ref 0 0 x.1.length,vB x.2]) (fun x=>[oR true 1 eI x.1]):=by
 refine hfn [] Try.func90 <| hop 3 (fun _=>Qu (enc:=(AV.int .u64)) (l:=p0) (fl:=true) kr gE) <| hoh 0 (fun _ _ h k=>mkL (enc:=eI) (z:=(0:Int)) (z0:=vI 0) (n:=0) (m:=(zn p0)) (w:=1) (bytes:=8) [] true kr kr gE kr h k) <| hlp 2 (fun s1=>⟨[(0,eL true (AV.int .u64) p0),(4,.ref 0 0 s1.2.length),(5,.int .u64 s1.1)],[oR true 1 eI s1.2],44⟩) (fun x=>match x with | .inl v=>(.ret,⟨[(2,.ref 0 0 0),(3,vB false)],[.row false false true true 1 []],44⟩) | .inr v=>(.exit 0,⟨[(4,.ref 0 0 v.length)],[oR true 1 eI v],44⟩)) (wz [0]) (fun s1=>?_) (hsm (fun x17=>?_) (fun x18=>?_))
 ·refine hop 3 (fun _=>Qu (enc:=(AV.int .u64)) (l:=p0) (fl:=true) kr gE) <| hbr 1 [15] (?_) ?_
  ·refine hop 2 (fun _=>Qu (enc:=(AV.int .u64)) (l:=p0) (fl:=true) kr gE) <| hlp 1 (fun s4=>⟨[(0,eL true (AV.int .u64) p0),(4,.ref 0 0 s1.2.length),(5,.int .u64 s1.1),(16,eL true (AV.int .u64) p0),(17,vI (zn p0)),(18,vI s4)],[oR true 1 eI s1.2],44⟩) (fun x=>match x with | .inl v=>(.exit 1,⟨[(0,eL true (AV.int .u64) p0),(4,.ref 0 0 v.2.length),(5,.int .u64 v.1)],[oR true 1 eI v.2],44⟩) | .inr v=>(.exit 2,⟨[],[],44⟩)) (wz [0]) (fun s4=>?_) (hsm (fun x14=>?_) (fun x15=>?_))
   ·refine hbr 1 [19] (?_) ?_
    ·refine hbd fun a7 q8=>hop 2 (fun _=>Qp (enc:=(AV.int .u64)) (l:=p0) (n:=s4) (fl:=true) (w:=1) (a:=a7) kr kr gE q8) <| hoh 5 (fun _ _ h k=>Q2g (k:=.u64) (k':=.i64) (a:=s1.1) (b:=s4) kr gE h k) <| hbr 3 [27,28] (?_) ?_
     ·refine hbr 5 [32,33] (?_) ?_
      ·refine hop 3 (fun _=>sgL false [] [] true gE) <| hoh 0 (fun _ _ h k=>Je (enc:=eI) (l:=s1.2) (m:=([s4]:(List Int))) (w:=1) (bytes:=8) (ob:=0) (nr:=true) (fl:=true) (nr':=true) (fl':=true) (b:=.ref 1 0 1) (rds:=[1]) false kr kr kr kr gE kr h k) <| hoh 3 (fun _ _ h k=>Q0h (k:=.u64) (k':=.i64) (a:=1) (b:=s4) kr gE h k) <| hdx 2 (wz [2])
      refine hnx 3 (wz [0])
     refine hnx 8 (wz [0])
    refine hdx 1 (wz [])
   ·refine hnx 0 (wz [0])
   refine hwk 2 (wl [2,3] []) <| hwk 0 (Zj 2 1 true true gE) <| hdn 1
  refine hdx 1 (wz [0])
 ·refine hrt 0
 refine hrt 4
noncomputable abbrev Qf2 (a34:Int):Int:=(zv (1*2^min (zt a34) (IntKind.bits .u64)))
noncomputable abbrev o36_21:AObj:=oX true false 5 (.agg [vI 0,.nils,.nils,.nils,.nils])
noncomputable abbrev o36_22 (p0:Qm):AObj:=oR true 1 (AV.int .u64) (List.replicate (zt (zn p0.Nodes)) (0:Int))
noncomputable abbrev o36_23 (a29:Qi):AObj:=oX true false 3 (.agg [vI a29.Card,z1 a29.Parents,z2 a29.Rows])
noncomputable abbrev s36_24:List (Nat×AV):=[(2,.ptr 0 0 0),(4,.ptr 1 0 0)]
noncomputable abbrev u36_25:St:=⟨[(2,.ptr 0 0 0),(3,vI 50)],[o36_21],140⟩
theorem g_net_read_ok (p0:Qm):Ct Try.prog 79 [.agg [vI p0.Grain,eL false eTapi_Node p0.Nodes]] (Ke p0) (fun x=>.tup [.agg [vI x.1.Net.Grain,eL false eTapi_Node x.1.Net.Nodes,z1 x.1.cards,eL true (AV.int .u64) x.1.sets,z1 x.1.order],vI x.2]) (fun x=>[]):=by
 refine hfn [[.keep,.lst false,.lst true,.lst true,.lst true],[.keep]] Try.func79 <| hop 0 (fun _=>sgL false [] [] false gE) <| hop 0 (fun _=>sgL false [] [] false gE) <| hbr 5 [17,18] (hrt 21) <| ?_
 refine hbr 5 [21,22,23] (hrt 16) <| ?_
 refine hop 2 (fun _=>Qu (enc:=eTapi_Node) (l:=p0.Nodes) (fl:=false) kr gE) <| hbr 3 [27,28,29] (hrt 10) <| ?_
 refine hop 2 (fun _=>Qu (enc:=eTapi_Node) (l:=p0.Nodes) (fl:=false) kr gE) <| hbr 2 [33,34] (hrt 5) <| ?_
 refine hop 5 (fun _=>Qu (enc:=eTapi_Node) (l:=p0.Nodes) (fl:=false) kr gE) <| hoh 0 (fun _ _ h k=>mkL (enc:=eI) (z:=(0:Int)) (z0:=vI 0) (n:=(zn p0.Nodes)) (m:=(zn p0.Nodes)) (w:=1) (bytes:=8) [] true kr kr gE kr h k) <| hop 2 (fun _=>Qu (enc:=eTapi_Node) (l:=p0.Nodes) (fl:=false) kr gE) <| hoh 0 (fun _ _ h k=>mkL (enc:=(AV.int .u64)) (z:=(0:Int)) (z0:=.int .u64 0) (n:=(zn p0.Nodes)) (m:=(zn p0.Nodes)) (w:=1) (bytes:=8) [] true kr kr gE kr h k) <| hop 1 (fun _=>sgL false [] [] false gE) <| hop 5 (fun _=>Qu (enc:=eTapi_Node) (l:=p0.Nodes) (fl:=false) kr gE) <| hlp 1 (fun s9=>⟨s36_24++[(5,vI s9.1),(48,eL false eTapi_Node p0.Nodes),(49,vI (zn p0.Nodes)),(50,vI s9.2.1)],[o36_21,oX false false 5 (.agg [vI p0.Grain,eL false eTapi_Node p0.Nodes,.ref 2 0 s9.2.2.length,.ref 3 0 ((List.replicate (zt (zn p0.Nodes)) (0:Int)).length),.nils]),oR true 1 eI s9.2.2,(o36_22 p0)],140⟩) (fun x=>match x with | .inl v=>(.ret,u36_25) | .inr v=>(.exit 0,⟨s36_24++[(5,vI v.1)],[o36_21,oX false false 5 (.agg [vI p0.Grain,eL false eTapi_Node p0.Nodes,.ref 2 0 v.2.length,.ref 3 0 ((List.replicate (zt (zn p0.Nodes)) (0:Int)).length),.nils]),oR true 1 eI v.2,(o36_22 p0)],140⟩)) (wz [1,4,2,3]) (fun s9=>?_) (hsm (fun x22=>?_) (fun x23=>?_))
 ·refine hbr 1 [51] (?_) ?_
  ·refine hbd fun a12 q13=>hop 2 (fun _=>Qp (enc:=eTapi_Node) (l:=p0.Nodes) (n:=s9.2.1) (fl:=false) (w:=3) (a:=a12) kr kr gE q13) <| hop 1 (fun _=>sgL false [] [] false gE) <| hbr 6 [57,58] (hdx 8 (wz [0])) <| ?_
   refine hbr 4 [61,62] (hdx 4 (wz [0])) <| ?_
   refine hbd fun a18 q19=>hop 6 (fun _=>Qy (enc:=eI) (l:=s9.2.2) (n:=s9.2.1) (w:=1) (ob:=2) (ro:=false) (nr:=true) (fl:=true) (a:=a18) kr kr gE q19) <| hop 0 (fun _=>Zf (enc:=eI) (l:=s9.2.2) (n:=s9.2.1) (ob:=2) (w:=1) (bx:=false) (nr:=true) (fl:=true) (c:=0) (a:=a18) (a':=a12.Card) (v:=vI a12.Card) false kr kr q19 kr kr kr gE kr) <| hkn 0 (fun n20=>⟨s36_24++[(5,vI s9.1),(48,eL false eTapi_Node p0.Nodes),(49,vI (zn p0.Nodes)),(50,vI s9.2.1),(51,vB true),(52,vI s9.2.1),(53,.fz [vI a12.Card,z1 a12.Parents,z2 a12.Rows]),(54,.agg [vI a12.Card,z1 a12.Parents,z2 a12.Rows]),(7,.ptr 4 0 0),(6,vI s9.2.1),(55,.ptr 4 0 0),(56,vI a12.Card),(57,vB false),(58,vB false),(59,.ptr 4 0 0),(60,vI a12.Card),(61,vB false),(62,vB false),(64,.ptr 1 0 2),(65,.ref 2 0 n20),(66,vI s9.2.1),(67,.ptr 4 0 0),(68,vI a12.Card),(69,.ptr 2 (zt s9.2.1) 0)],[o36_21,oX false false 5 (.agg [vI p0.Grain,eL false eTapi_Node p0.Nodes,.ref 2 0 n20,.ref 3 0 ((List.replicate (zt (zn p0.Nodes)) (0:Int)).length),.nils]),oR true 1 eI (List.set s9.2.2 (zt s9.2.1) a12.Card),(o36_22 p0),oX true false 3 (.agg [vI a12.Card,z1 a12.Parents,z2 a12.Rows])],140⟩) (ls s9.2.2 (zt s9.2.1) a12.Card) <| hnx 7 (wz [0,1,2,3])
  refine hdx 1 (wz [0,1,2,3])
 ·refine hrt 0
 refine hbr 2 [76] (hrt 5) <| ?_
 refine hop 4 (fun _=>Qu (enc:=eTapi_Node) (l:=p0.Nodes) (fl:=false) kr gE) <| hlp 1 (fun s26=>⟨s36_24++[(80,eL false eTapi_Node p0.Nodes),(81,vI (zn p0.Nodes)),(82,vI s26.1)],[o36_21,oX false false 5 (.agg [vI p0.Grain,eL false eTapi_Node p0.Nodes,.ref 2 0 x23.2.length,.ref 3 0 s26.2.length,.nils]),oR true 1 eI x23.2,oR true 1 (AV.int .u64) s26.2],140⟩) (fun x=>match x with | .inl v=>(.ret,u36_25) | .inr v=>(.exit 2,⟨s36_24,[o36_21,oX false false 5 (.agg [vI p0.Grain,eL false eTapi_Node p0.Nodes,.ref 2 0 x23.2.length,.ref 3 0 v.length,.nils]),oR true 1 eI x23.2,oR true 1 (AV.int .u64) v],140⟩)) (wz [0,1,2,3]) (fun s26=>?_) (hsm (fun x53=>?_) (fun x54=>?_))
 ·refine hbr 1 [83] (?_) ?_
  ·refine hbd fun a29 q30=>hop 2 (fun _=>Qp (enc:=eTapi_Node) (l:=p0.Nodes) (n:=s26.1) (fl:=false) (w:=3) (a:=a29) kr kr gE q30) <| hop 1 (fun _=>sgL false [] [] false gE) <| hop 5 (fun _=>Qu (enc:=eI) (l:=a29.Parents) (fl:=true) kr gE) <| hlp 1 (fun s31=>⟨s36_24++[(8,vI s26.1),(9,.ptr 2 0 0),(10,vI s31.1),(80,eL false eTapi_Node p0.Nodes),(81,vI (zn p0.Nodes)),(82,vI s26.1),(88,z1 a29.Parents),(89,vI (zn a29.Parents)),(90,vI s31.2.1)],[o36_21,oX false false 5 (.agg [vI p0.Grain,eL false eTapi_Node p0.Nodes,.ref 3 0 x23.2.length,.ref 4 0 s31.2.2.length,.nils]),(o36_23 a29),oR true 1 eI x23.2,oR true 1 (AV.int .u64) s31.2.2],140⟩) (fun x=>match x with | .inl v=>(.ret,u36_25) | .inr v=>(.exit 4,⟨s36_24++[(9,.ptr 2 0 0),(80,eL false eTapi_Node p0.Nodes),(81,vI (zn p0.Nodes)),(82,vI s26.1)],[o36_21,oX false false 5 (.agg [vI p0.Grain,eL false eTapi_Node p0.Nodes,.ref 3 0 x23.2.length,.ref 4 0 v.length,.nils]),(o36_23 a29),oR true 1 eI x23.2,oR true 1 (AV.int .u64) v],140⟩)) (wz [0,1,4,2,3]) (fun s31=>?_) (hsm (fun x46=>?_) (fun x47=>?_))
   ·refine hbr 1 [91] (?_) ?_
    ·refine hbd fun a34 q35=>hop 1 (fun _=>Qp (enc:=eI) (l:=a29.Parents) (n:=s31.2.1) (fl:=true) (w:=1) (a:=a34) kr kr gE q35) <| hbr 6 [96,97] (hdx 16 (wz [0])) <| ?_
     refine hop 4 (fun _=>Qu (enc:=eTapi_Node) (l:=p0.Nodes) (fl:=false) kr gE) <| hbr 3 [103,104,105] (hdx 8 (wz [0])) <| ?_
     refine hbr 4 [108,109] (hdx 4 (wz [0])) <| ?_
     refine hbd fun a42 q43=>hop 7 (fun _=>Qy (enc:=(AV.int .u64)) (l:=s31.2.2) (n:=s26.1) (w:=1) (ob:=4) (ro:=false) (nr:=true) (fl:=true) (a:=a42) kr kr gE q43) <| hop 0 (fun _=>Z3 (enc:=(AV.int .u64)) (l:=s31.2.2) (n:=s26.1) (w:=1) (ob:=4) (c:=0) (bx:=false) (ro:=false) (nr:=true) (fl:=true) (a:=a42) kr kr q43 gE) <| hoh 1 (fun _ _ h k=>Q0h (k:=.u64) (k':=.i64) (a:=1) (b:=a34) kr gE h k) <| hop 1 (fun _=>Qy (enc:=(AV.int .u64)) (l:=s31.2.2) (n:=s26.1) (w:=1) (ob:=4) (ro:=false) (nr:=true) (fl:=true) (a:=a42) kr kr gE q43) <| hop 0 (fun _=>Zf (enc:=(AV.int .u64)) (l:=s31.2.2) (n:=s26.1) (ob:=4) (w:=1) (bx:=false) (nr:=true) (fl:=true) (c:=0) (a:=a42) (a':=zv (zb a42 ||| zb (Qf2 a34)).toNat) (v:=.int .u64 (zv (zb a42 ||| zb (Qf2 a34)).toNat)) false kr kr q43 kr kr kr gE kr) <| hkn 0 (fun n44=>⟨s36_24++[(8,vI s26.1),(9,.ptr 2 0 0),(10,vI a34),(80,eL false eTapi_Node p0.Nodes),(81,vI (zn p0.Nodes)),(82,vI s26.1),(88,z1 a29.Parents),(89,vI (zn a29.Parents)),(90,vI s31.2.1),(91,vB true),(92,.fz [vI a34]),(93,vI a34),(12,vI a34),(94,vI a34),(95,vI s31.1),(96,vB false),(97,vB false),(98,vI a34),(99,.ptr 1 0 0),(100,.ptr 1 0 1),(101,eL false eTapi_Node p0.Nodes),(102,vI (zn p0.Nodes)),(103,vB false),(104,vB false),(105,vB false),(106,vI a34),(107,vI s26.1),(108,vB false),(109,vB false),(111,vI a34),(112,.ptr 1 0 3),(113,.ref 4 0 n44),(114,vI s26.1),(115,.ptr 4 (zt s26.1) 0),(116,.int .u64 a42),(117,vI a34),(118,.int .u64 (Qf2 a34)),(119,.int .u64 (zv (zb a42 ||| zb (Qf2 a34)).toNat)),(120,.ptr 4 (zt s26.1) 0)],[o36_21,oX false false 5 (.agg [vI p0.Grain,eL false eTapi_Node p0.Nodes,.ref 3 0 x23.2.length,.ref 4 0 n44,.nils]),(o36_23 a29),oR true 1 eI x23.2,oR true 1 (AV.int .u64) (List.set s31.2.2 (zt s26.1) (zv (zb a42 ||| zb (Qf2 a34)).toNat))],140⟩) (ls s31.2.2 (zt s26.1) (zv (zb a42 ||| zb (Qf2 a34)).toNat)) <| hnx 2 (wz [0,1,2,3,4])
    refine hdx 1 (wz [0,1,2,3,4])
   ·refine hdn 0
   refine hcl 2 [F eI x23.2,F (AV.int .u64) x47] (us:=[.agg [vI p0.Grain,eL false eTapi_Node p0.Nodes,z1 x23.2,eL true (AV.int .u64) x47,.nils],.agg [vI a29.Card,z1 a29.Parents,z2 a29.Rows]]) (rv:=fun x48=>vB x48) (ro:=fun x48=>[]) (fun x48 q49=>Zb.args [[.keep,.keep,.keep,.keep,.lst true],[.keep,.keep,.keep]] (Qeg (Qw.mk p0 x23.2 x47 []) a29 x48 q49)) fun x48 _=>hbr 1 [125] (hdx 4 (wz [0])) <| ?_
   refine hnx 3 (wz [0,1,3,4])
  refine hdx 1 (wz [0,1,2,3])
 ·refine hrt 0
 refine hcl 2 [F (AV.int .u64) x54] (Qk0 x54) fun x55 _=>hbr 7 [135] (hrt 5) <| ?_
 refine hwk 7 (wl [2,3] [0,2,3,4]) <| hwk 0 (won 0 0 [F eI x23.2,F (AV.int .u64) x54,F eI x55.1]) <| hrt 1
theorem g_cmp_isNaN_int_ok (p0:Int):Ct Try.prog 105 [vI p0] (Jv p0) (fun x=>vB x) (fun x=>[]):=by
 refine hfn [] Try.func105 <| hrt 6
theorem g_cmp_Less_int_ok (p0:Int) (p1:Int):Ct Try.prog 100 [vI p0,vI p1] (J8 p0 p1) (fun x=>vB x) (fun x=>[]):=by
 refine hfn [] Try.func100 <| hcl 2 [] (g_cmp_isNaN_int_ok p0) fun x1 _=>hbr 1 [6,7] (?_) ?_
 ·refine hcl 1 [] (g_cmp_isNaN_int_ok p1) fun x5 _=>hbr 3 [10,11,12] (hrt 6) <| ?_
  refine hrt 6
 refine hrt 11
theorem g_slices_isNaN_int_ok (p0:Int):Ct Try.prog 101 [vI p0] (Vm p0) (fun x=>vB x) (fun x=>[]):=by
 refine hfn [] Try.func101 <| hrt 6
theorem g_slices_BinarySearch_int_int_ok (p0:(List Int)) (p1:Int):Ct Try.prog 96 [z1 p0,vI p1] (Z4 p0 p1) (fun x=>.tup [vI x.1,vB x.2]) (fun x=>[]):=by
 refine hfn [] Try.func96 <| hop 3 (fun _=>Qu (enc:=eI) (l:=p0) (fl:=true) kr gE) <| hlp 4 (fun s1=>⟨[(0,z1 p0),(1,vI p1),(6,vI (zn p0)),(7,vI s1.1),(8,vI s1.2)],[],54⟩) (fun v=>(.exit 0,⟨[(0,z1 p0),(1,vI p1),(6,vI (zn p0)),(7,vI v)],[],54⟩)) (wz []) (fun s1=>?_) fun x11=>?_
 ·refine hbr 3 [15] (?_) ?_
  ·refine hbd fun a4 q5=>hop 10 (fun _=>Qp (enc:=eI) (l:=p0) (n:=zw (Int.fdiv (zv (zw (s1.1+s1.2))) (2^min (zt 1) (IntKind.bits .u64)))) (fl:=true) (w:=1) (a:=a4) kr kr gE q5) <| hcl 2 [] (g_cmp_Less_int_ok a4 p1) fun x6 _=>hbr 0 [27] (hnx 4 (wz [])) <| ?_
   refine hnx 3 (wz [])
  refine hdx 1 (wz [])
 refine hbr 5 [34,35] (?_) ?_
 ·refine hbd fun a14 q15=>hop 2 (fun _=>Qp (enc:=eI) (l:=p0) (n:=x11) (fl:=true) (w:=1) (a:=a14) kr kr gE q15) <| hbr 4 [41,42] (hrt 14) <| ?_
  refine hop 2 (fun _=>Qp (enc:=eI) (l:=p0) (n:=x11) (fl:=true) (w:=1) (a:=a14) kr kr gE q15) <| hcl 1 [] (g_slices_isNaN_int_ok a14) fun x18 _=>hbr 1 [47,48] (hcl 1 [] (g_slices_isNaN_int_ok p1) fun x22 _=>hrt 6) <| ?_
  refine hrt 8
 refine hrt 21
theorem Qcr (c0:Int) (d0:(List Int)):Ct Try.prog 98 [z1 (c0::d0)] (X8 c0 d0) (fun x=>.ref 0 0 x.length) (fun x=>[oR true 1 eI x]):=by
 refine hfn [] Try.func98 <| hoh 6 (fun _ _ h k=>Qs2 (enc:=eI) (m:=(c0::d0)) (w:=1) (bytes:=8) (nr':=true) (fl':=true) (a:=.emp) (b:=z1 (c0::d0)) (rds:=[]) false kr (.inr rfl) (Qco (fun _=>rfl)) kr gE kr h k) <| hrt 2
theorem Qct  : Ct Try.prog 98 [.emn] (Vc) (fun x=>.ref 0 0 x.length) (fun x=>[oR true 1 eI x]):=by
 refine hfn [] Try.func98 <| hrt 9
theorem Qcm  : Ct Try.prog 98 [.nils] (Y7) (fun x=>.ref 0 0 x.length) (fun x=>[oR true 1 eI x]):=by
 refine hfn [] Try.func98 <| hwk 5 (wl [2] []) <| hwk 0 (Zj 2 1 true true gE) <| hrt 1
theorem Qdf (p0:(List Int)) (x:(List Int)) (h:Zm p0=some x):Zb Try.prog 98 [z1 p0] (.ret (.ref 0 0 x.length) [oR true 1 eI x]):=by
 cases p0 with
 | cons c0 d0=>exact Qcr c0 d0 x h
 | nil =>
  cases h1:Y7 with
  | none=>simp [Zm,h1] at h
  | some y =>
   cases h2:Vc with
   | none=>simp [Zm,h1,h2] at h
   | some z =>
    by_cases e:y=z
    ·subst e
     simp [Zm,h1,h2] at h
     subst h
     exact Zb.nil (l1:=[]) (l2:=[]) (Qcm y h1) (Qct y h2)
    ·simp [Zm,h1,h2,e] at h
noncomputable abbrev Quv (p0:Qw):AObj:=oX true false 5 (.agg [vI p0.Net.Grain,eL false eTapi_Node p0.Net.Nodes,z1 p0.cards,eL true (AV.int .u64) p0.sets,z1 p0.order])
noncomputable abbrev Qkq:AObj:=oX true false 3 (.agg [.nils,.nils,.nils])
noncomputable abbrev Qie (a1:Qi):AObj:=oX true false 3 (.agg [vI a1.Card,z1 a1.Parents,z2 a1.Rows])
noncomputable abbrev Qvu:AObj:=.loop 105 [(4,.ptr 0 0 0),(5,.ptr 1 0 0),(8,.ptr 2 0 0),(9,.ptr 3 0 0),(75,.fn (.func 104) [] [.ptr 4 0 0])] [76,77] (cA Try.f88 [true,true,true,true,true,true,true,false,true,true]) (cB Try.f88 [true,true,true,true,true,true,true,false,true,true]) .ready none
noncomputable abbrev Qoj:AObj:=.loop 105 [(4,.ptr 0 0 0),(5,.ptr 1 0 0),(8,.ptr 2 0 0),(9,.ptr 3 0 0),(75,.fn (.func 104) [] [.ptr 4 0 0])] [76,77] (cA Try.f88 [true,true,true,true,true,true,true,false,true,true]) (cB Try.f88 [true,true,true,true,true,true,true,false,true,true]) .busy none
noncomputable abbrev Qin (a0:AObj) (a1:Qi) (x18:(Int × (List Int))) (x7:(List Int)):List AObj:=[Qkq,(Qie a1),a0,oX true true 1 (vI x18.1),(Qie a1),oR true 1 eI x7,oR true 1 eI x18.2]
theorem Qeh (p0:Qw) (p1:Int):Ct Try.prog 88 [.agg [vI p0.Net.Grain,eL false eTapi_Node p0.Net.Nodes,z1 p0.cards,eL true (AV.int .u64) p0.sets,z1 p0.order],vI p1] (X5 p0 p1) (fun x=>.agg [.ref 0 0 x.Vars.length,.ref 1 0 x.Cards.length,.ref 2 0 x.W.length]) (fun x=>[oR true 1 eI x.Vars,oR true 1 eI x.Cards,oR true 1 eI x.W]):=by
 refine hfn [] Try.func88 <| hop 0 (fun _=>sgL false [] [] false gE) <| hop 0 (fun _=>sgL false [] [] false gE) <| hbd fun a1 q2=>hop 4 (fun _=>Qp (enc:=eTapi_Node) (l:=p0.Net.Nodes) (n:=p1) (fl:=false) (w:=3) (a:=a1) kr kr gE q2) <| hop 1 (fun _=>sgL false [] [] false gE) <| hcl 4 [] (g_slices_BinarySearch_int_int_ok a1.Parents p1) fun x3 _=>hcl 7 [] (Qdf a1.Parents) fun x5 _=>hop 2 (fun _=>sgL false [] [] true gE) <| ?_
 refine Q2q 0 (nr:=true) (fl:=true) (bx2:=false) (nr2:=true) (fl2:=true) (o:=3) (o2:=4) (fun x7=>⟨[(0,.agg [vI p0.Net.Grain,eL false eTapi_Node p0.Net.Nodes,z1 p0.cards,eL true (AV.int .u64) p0.sets,z1 p0.order]),(1,vI p1),(2,.ptr 0 0 0),(4,.ptr 1 0 0),(16,.ptr 0 0 0),(17,.ptr 0 0 1),(18,eL false eTapi_Node p0.Net.Nodes),(19,vI p1),(20,.fz [vI a1.Card,z1 a1.Parents,z2 a1.Rows]),(21,.agg [vI a1.Card,z1 a1.Parents,z2 a1.Rows]),(5,.ptr 2 0 0),(23,.ptr 2 0 1),(24,z1 a1.Parents),(25,vI p1),(26,.tup [vI x3.1,vB x3.2]),(22,.tup [vI x3.1,vB x3.2]),(27,vI x3.1),(28,vB x3.2),(6,vI x3.1),(7,vB x3.2),(29,.ptr 2 0 1),(30,z1 a1.Parents),(31,.ref 3 0 x5.length),(32,vI x3.1),(33,vI p1),(34,.ref 4 0 1),(35,.ref 5 0 x7.length)],[(Quv p0),Qkq,(Qie a1),.dead,.row false false true true 1 [vI p1],oR true 1 eI x7],105⟩) Q1z Try.func97 fun x7=>hop 1 (fun _=>sgL false [] [] false gE) <| hlp 7 (fun s8=>⟨[(2,.ptr 0 0 0),(4,.ptr 1 0 0),(5,.ptr 2 0 0),(6,vI x3.1),(8,.ptr 3 0 0),(9,.ptr 4 0 0),(38,.ref 5 0 x7.length),(39,vI (zn x7)),(40,vI s8.1)],[(Quv p0),Qkq,(Qie a1),oX false false 3 (.agg [.ref 5 0 x7.length,.ref 6 0 s8.2.2.length,.nils]),oX true true 1 (vI s8.2.1),oR true 1 eI x7,oR true 1 eI s8.2.2],105⟩) (fun v=>(.exit 0,⟨[(4,.ptr 0 0 0),(5,.ptr 1 0 0),(8,.ptr 2 0 0),(9,.ptr 3 0 0)],[Qkq,(Qie a1),oX false false 3 (.agg [.ref 4 0 x7.length,.ref 5 0 v.2.length,.nils]),oX true true 1 (vI v.1),oR true 1 eI x7,oR true 1 eI v.2],105⟩)) (Q9 (Z5 (live:=[2,4,5,6,8,9,38,39,40]) (keep:=[0,1,2,6,7,5]) gE) (Q9 (Qax 3 0 1 1 true true gE) (Z5 (live:=[2,4,5,6,8,9,38,39,40]) (keep:=[0,1,2,3,4,5,6]) kr))) (fun s8=>?_) fun x18=>?_
 ·refine hbr 1 [41] (?_) ?_
  ·refine hbd fun a11 q12=>hop 2 (fun _=>Qy (enc:=eI) (l:=x7) (n:=s8.1) (w:=1) (ob:=5) (ro:=false) (nr:=true) (fl:=true) (a:=a11) kr kr gE q12) <| hop 0 (fun _=>Z3 (enc:=eI) (l:=x7) (n:=s8.1) (w:=1) (ob:=5) (c:=0) (bx:=false) (ro:=false) (nr:=true) (fl:=true) (a:=a11) kr kr q12 gE) <| hbd fun a13 q14=>hop 8 (fun _=>Qp (enc:=eI) (l:=p0.cards) (n:=a11) (fl:=true) (w:=1) (a:=a13) kr kr gE q14) <| hop 1 (fun _=>sgL false [] [] true gE) <| hoh 0 (fun _ _ h k=>Je (enc:=eI) (l:=s8.2.2) (m:=([a13]:(List Int))) (w:=1) (bytes:=8) (ob:=6) (nr:=true) (fl:=true) (nr':=true) (fl':=true) (b:=.ref 7 0 1) (rds:=[7]) false kr kr kr kr gE kr h k) <| hbr 5 [57] (hop 6 (fun _=>Qp (enc:=eI) (l:=p0.cards) (n:=a11) (fl:=true) (w:=1) (a:=a13) kr kr gE q14) <| hnx 5 (wz [0,1,2,3,4,5,8])) <| ?_
   refine hnx 3 (wz [0,1,2,3,4,5,8])
  refine hdx 1 (wz [1,2,3,4,5,6])
 refine hop 2 (fun _=>Qu (enc:=z1) (l:=a1.Rows) (fl:=false) kr gE) <| hoh 3 (fun _ _ h k=>mkL (enc:=eI) (z:=(0:Int)) (z0:=vI 0) (n:=zw ((zn a1.Rows)*a1.Card)) (m:=zw ((zn a1.Rows)*a1.Card)) (w:=1) (bytes:=8) [] true kr kr gE kr h k) <| hil 3 Try.func99 <| hop 0 (fun _=>sgL false [] [] false gE) <| hwk 3 (wl [2] [7]) <| hwk 1 (wl [4,5,8,9,75] [0,1,2,3,7,4,5,6]) <| hrg 0 Try.func104 <| hop 2 (fun _=>Qu (enc:=z1) (l:=a1.Rows) (fl:=false) kr gE) <| hlp 1 (fun s19=>⟨[(0,.yld 8),(6,z2 a1.Rows),(7,vI (zn a1.Rows)),(8,vI s19.1)],(Qin (oX false false 3 (.agg [.ref 5 0 x7.length,.ref 6 0 x18.2.length,.ref 7 0 s19.2.length])) a1 x18 x7)++[oR true 1 eI s19.2,Qvu],19⟩) (fun v=>(.exit 0,⟨[],(Qin (oX false false 3 (.agg [.ref 5 0 x7.length,.ref 6 0 x18.2.length,.ref 7 0 v.length])) a1 x18 x7)++[oR true 1 eI v,Qvu],19⟩)) (wz []) (fun s19=>?_) fun x37=>?_
 ·refine hbr 1 [9] (?_) ?_
  ·refine hbd fun a22 q23=>hop 2 (fun _=>Qp (enc:=z1) (l:=a1.Rows) (n:=s19.1) (fl:=false) (w:=1) (a:=a22) kr kr gE q23) <| hyl 6 <| hop 3 (fun _=>Qu (enc:=eI) (l:=a22) (fl:=true) kr gE) <| hlp 1 (fun s24=>⟨[(5,.ptr 1 0 0),(8,.ptr 2 0 0),(9,.ptr 3 0 0),(12,vI s19.1),(78,z1 a22),(79,vI (zn a22)),(80,vI s24.1)],(Qin (oX false false 3 (.agg [.ref 5 0 x7.length,.ref 6 0 x18.2.length,.ref 7 0 s24.2.length])) a1 x18 x7)++[oR true 1 eI s24.2,Qoj],105⟩) (fun v=>(.exit 4,⟨[],(Qin (oX false false 3 (.agg [.ref 5 0 x7.length,.ref 6 0 x18.2.length,.ref 7 0 v.length])) a1 x18 x7)++[oR true 1 eI v,Qoj],105⟩)) (wz []) (fun s24=>?_) fun x35=>?_
   ·refine hbr 1 [81] (?_) ?_
    ·refine hbd fun a27 q28=>hop 2 (fun _=>Qp (enc:=eI) (l:=a22) (n:=s24.1) (fl:=true) (w:=1) (a:=a27) kr kr gE q28) <| hoh 8 (fun _ _ h k=>Qkh (k:=.i64) (a:=s19.1) (b:=x18.1) kr gE h k) <| hoh 9 (fun _ _ h k=>Qdv (k:=.i64) (a:=s19.1) (b:=x18.1) kr gE h k) <| hbd fun a29 q30=>hop 2 (fun _=>Qy (enc:=eI) (l:=s24.2) (n:=zw ((zw ((zw ((zw ((zw (Int.tdiv s19.1 x18.1))*a1.Card))+s24.1))*x18.1))+(Int.tmod s19.1 x18.1))) (w:=1) (ob:=7) (ro:=false) (nr:=true) (fl:=true) (a:=a29) kr kr gE q30) <| hbd fun a31 q32=>hop 0 (fun _ k=>Zf (enc:=eI) (l:=s24.2) (n:=(zw ((zw ((zw ((zw ((zw (Int.tdiv s19.1 x18.1))*a1.Card))+s24.1))*x18.1))+(Int.tmod s19.1 x18.1)))) (ob:=7) (w:=1) (bx:=false) (nr:=true) (fl:=true) (c:=0) (a:=a31) (a':=a27) (v:=vI a27) false kr kr q32 kr kr kr gE kr (Q2j (S:=fun n33=>⟨[(5,.ptr 1 0 0),(8,.ptr 2 0 0),(9,.ptr 3 0 0),(12,vI s19.1),(78,z1 a22),(79,vI (zn a22)),(80,vI s24.1),(81,vB true),(82,vI s24.1),(83,.fz [vI a27]),(84,vI a27),(14,vI s24.1),(15,vI a27),(85,.ptr 2 0 2),(86,.ref 7 0 n33),(87,vI s19.1),(88,vI x18.1),(89,vI (zw (Int.tdiv s19.1 x18.1))),(90,.ptr 1 0 0),(91,vI a1.Card),(92,vI (zw ((zw (Int.tdiv s19.1 x18.1))*a1.Card))),(93,vI s24.1),(94,vI (zw ((zw ((zw (Int.tdiv s19.1 x18.1))*a1.Card))+s24.1))),(95,vI x18.1),(96,vI (zw ((zw ((zw ((zw (Int.tdiv s19.1 x18.1))*a1.Card))+s24.1))*x18.1))),(97,vI s19.1),(98,vI x18.1),(99,vI (Int.tmod s19.1 x18.1)),(100,vI (zw ((zw ((zw ((zw ((zw (Int.tdiv s19.1 x18.1))*a1.Card))+s24.1))*x18.1))+(Int.tmod s19.1 x18.1)))),(101,vI a27),(102,.ptr 7 (zt (zw ((zw ((zw ((zw ((zw (Int.tdiv s19.1 x18.1))*a1.Card))+s24.1))*x18.1))+(Int.tmod s19.1 x18.1)))) 0)],(Qin (oX false false 3 (.agg [.ref 5 0 x7.length,.ref 6 0 x18.2.length,.ref 7 0 n33])) a1 x18 x7)++[oR true 1 eI (List.set s24.2 (zt (zw ((zw ((zw ((zw ((zw (Int.tdiv s19.1 x18.1))*a1.Card))+s24.1))*x18.1))+(Int.tmod s19.1 x18.1)))) a27),Qoj],105⟩) (ls s24.2 (zt (zw ((zw ((zw ((zw ((zw (Int.tdiv s19.1 x18.1))*a1.Card))+s24.1))*x18.1))+(Int.tmod s19.1 x18.1)))) a27) k)) <| hnx 2 (wz [])
    refine hdx 1 (wz [])
   refine hnx 4 (wz [])
  refine hdx 1 (wz [])
 refine hrt 3
theorem g_net_Factors_ok (p0:Qm):Ct Try.prog 77 [.agg [vI p0.Grain,eL false eTapi_Node p0.Nodes]] (Qaa p0) (fun x=>.tup [.ref 0 0 x.1.length,vI x.2]) (fun x=>[oR false 3 Q2 x.1]):=by
 refine hfn [] Try.func77 <| hop 0 (fun _=>sgL false [] [] false gE) <| hcl 3 [] (g_net_read_ok p0) fun x1 _=>hop 3 (fun _=>sgL false [] [] false gE) <| hbr 4 [14] (hwk 4 (wl [2,3] []) <| hwk 0 (Zj 2 3 true false gE) <| hrt 1) <| ?_
 refine hop 4 (fun _=>Qu (enc:=eTapi_Node) (l:=x1.1.Net.Nodes) (fl:=false) kr gE) <| hoh 0 (fun _ _ h k=>mkL (enc:=Q2) (z:=((Qs.mk [] [] []):Qs)) (z0:=.agg [.nils,.nils,.nils]) (n:=(zn x1.1.Net.Nodes)) (m:=(zn x1.1.Net.Nodes)) (w:=3) (bytes:=72) [.lst true,.lst true,.lst true] false kr kr gE kr h k) <| hlp 4 (fun s5=>⟨[(4,.ptr 0 0 0),(6,.ref 1 0 s5.2.length),(22,vI (((List.replicate (zt (zn x1.1.Net.Nodes)) ((Qs.mk [] [] []):Qs)).length):Int)),(23,vI s5.1)],[oX true false 5 (.agg [vI x1.1.Net.Grain,eL false eTapi_Node x1.1.Net.Nodes,z1 x1.1.cards,eL true (AV.int .u64) x1.1.sets,z1 x1.1.order]),oR false 3 Q2 s5.2],34⟩) (fun v=>(.exit 0,⟨[(6,.ref 0 0 v.length)],[oR false 3 Q2 v],34⟩)) (wz [1,2]) (fun s5=>?_) fun x14=>?_
 ·refine hbr 1 [24] (?_) ?_
  ·refine hcl 7 [] (Qeh x1.1 s5.1) fun x8 _=>hbd fun a10 q11=>hop 0 (fun _=>Qy (enc:=Q2) (l:=s5.2) (n:=s5.1) (w:=3) (ob:=1) (ro:=false) (nr:=true) (fl:=false) (a:=a10) kr kr gE q11) <| hop 0 (fun _=>Q1g (enc:=Q2) (l:=s5.2) (n:=s5.1) (ob:=1) (w:=3) (nr:=true) (fl:=false) (c:=0) (a:=a10) (a':=x8) (v0:=.agg [.ref 2 0 x8.Vars.length,.ref 3 0 x8.Cards.length,.ref 4 0 x8.W.length]) (v:=.agg [z1 x8.Vars,z1 x8.Cards,z1 x8.W]) (ids:=[2,3,4]) (es:=[(2,.row false true true true 1 (List.map eI x8.Vars)),(3,.row false true true true 1 (List.map eI x8.Cards)),(4,.row false true true true 1 (List.map eI x8.W))]) kr kr q11 kr kr (Qwg (Qgn (Qar (w:=1) (bx:=false) (ro:=false) (enc:=eI) (l:=x8.Vars) (fl:=true) kr) (Qgn (Qar (w:=1) (bx:=false) (ro:=false) (enc:=eI) (l:=x8.Cards) (fl:=true) kr) (Qgn (Qar (w:=1) (bx:=false) (ro:=false) (enc:=eI) (l:=x8.W) (fl:=true) kr) Quk (by rfl)) (by rfl)) (by rfl))) kr kr kr gE kr) <| hkl 0 [6,26] (ls s5.2 (zt s5.1) x8) <| hnx 2 (wz [0,1])
  refine hdx 1 (wz [1])
 refine hrt 4
theorem g_net_CheckEvidence_ok (p0:Qm) (p1:(List Int)):Ct Try.prog 78 [.agg [vI p0.Grain,eL false eTapi_Node p0.Nodes],z1 p1] (Xm p0 p1) (fun x=>vI x) (fun x=>[]):=by
 refine hfn [] Try.func78 <| hop 0 (fun _=>sgL false [] [] false gE) <| hcl 2 [] (g_net_read_ok p0) fun x1 _=>hop 3 (fun _=>sgL false [] [] false gE) <| hbr 4 [15] (hrt 4) <| ?_
 refine hop 2 (fun _=>Qu (enc:=eI) (l:=p1) (fl:=true) kr gE) <| hop 3 (fun _=>Qu (enc:=eTapi_Node) (l:=x1.1.Net.Nodes) (fl:=false) kr gE) <| hbr 1 [23] (hrt 3) <| ?_
 refine hop 2 (fun _=>Qu (enc:=eI) (l:=p1) (fl:=true) kr gE) <| hlp 1 (fun s7=>⟨[(5,.ptr 0 0 0),(24,z1 p1),(25,vI (zn p1)),(26,vI s7)],[oX true false 5 (.agg [vI x1.1.Net.Grain,eL false eTapi_Node x1.1.Net.Nodes,z1 x1.1.cards,eL true (AV.int .u64) x1.1.sets,z1 x1.1.order])],43⟩) (fun x=>match x with | .inl v=>(.ret,⟨[(4,vI 2)],[],43⟩) | .inr v=>(.exit 0,⟨[],[],43⟩)) (wz [1]) (fun s7=>?_) (hsm (fun x19=>?_) (fun x20=>?_))
 ·refine hbr 1 [27] (?_) ?_
  ·refine hbd fun a10 q11=>hop 2 (fun _=>Qp (enc:=eI) (l:=p1) (n:=s7) (fl:=true) (w:=1) (a:=a10) kr kr gE q11) <| hbr 6 [32,33] (hdx 10 (wz [])) <| ?_
   refine hbd fun a14 q15=>hop 4 (fun _=>Qp (enc:=eI) (l:=x1.1.cards) (n:=s7) (fl:=true) (w:=1) (a:=a14) kr kr gE q15) <| hbr 3 [40,41] (hdx 2 (wz [])) <| ?_
   refine hnx 3 (wz [0])
  refine hdx 1 (wz [])
 ·refine hrt 0
 refine hrt 2
end
end Go.Ab
