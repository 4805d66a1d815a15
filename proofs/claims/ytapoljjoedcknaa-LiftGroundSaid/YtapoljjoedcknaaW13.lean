/- Functions. No conditions. -/
import Derived.Test.YtapoljjoedcknaaProg
import Derived.Test.YtapoljjoedcknaaW10
import Derived.KernelRfl
import Derived.Test.YtapoljjoedcknaaW12
import Derived.Test.YtapoljjoedcknaaW11
import Derived.Test.YtapoljjoedcknaaEng7
import Derived.IntWalk
set_option linter.all false
namespace Go.Ab
open Go Go.Proofs
set_option maxRecDepth 100000
set_option maxHeartbeats 4000000
section
attribute [local irreducible] RW WP
noncomputable abbrev o48_32 (p0:Qm):AObj:=oX true false 2 (.agg [vI p0.Grain,eL false eTapi_Node p0.Nodes])
noncomputable abbrev o48_33:AObj:=oX true false 4 (.agg [vI 0,.nils,.nils,.nils])
noncomputable abbrev o48_34 (x1:((List Qs) × Int)):AObj:=oR false 3 Q2 x1.1
noncomputable abbrev s48_35:List (Nat×AV):=[(2,.ptr 0 0 0),(4,.ptr 1 0 0),(11,.ptr 2 0 0)]
theorem g_joint_ask_ok (p0:Qm) (p1:(List (List Int))):Ct Try.prog 63 [.agg [vI p0.Grain,eL false eTapi_Node p0.Nodes],z2 p1] (Ku p0 p1) (fun x=>.tup [.agg [vI x.1.Net.Grain,eL false eTapi_Node x.1.Net.Nodes,eL false Q2 x.1.factors,z2 x.1.steps],vI x.2]) (fun x=>[]):=by
 refine hfn [[.keep,.lst false,.lst false,.lst false],[.keep]] Try.func63 <| hop 0 (fun _=>sgL false [] [] false gE) <| hop 0 (fun _=>sgL false [] [] false gE) <| hcl 2 [] (g_net_Factors_ok p0) fun x1 _=>hbr 7 [22] (hrt 6) <| ?_
 refine hop 2 (fun _=>Qu (enc:=z1) (l:=p1) (fl:=false) kr gE) <| hlp 1 (fun s5=>⟨[(2,.ptr 0 0 0),(4,.ptr 1 0 0),(6,.ref 2 0 x1.1.length),(25,z2 p1),(26,vI (zn p1)),(27,vI s5)],[(o48_32 p0),o48_33,(o48_34 x1)],89⟩) (fun x=>match x with | .inl v=>(.ret,⟨[(4,.ptr 0 0 0),(5,vI v)],[o48_33],89⟩) | .inr v=>(.exit 0,⟨[(2,.ptr 0 0 0),(4,.ptr 1 0 0),(6,.ref 2 0 x1.1.length)],[(o48_32 p0),o48_33,(o48_34 x1)],89⟩)) (wz [0,1,2]) (fun s5=>?_) (hsm (fun x15=>?_) (fun x16=>?_))
 ·refine hbr 1 [28] (?_) ?_
  ·refine hbd fun a8 q9=>hop 1 (fun _=>Qp (enc:=z1) (l:=p1) (n:=s5) (fl:=false) (w:=1) (a:=a8) kr kr gE q9) <| hcl 4 [] (g_net_CheckEvidence_ok p0 a8) fun x10 _=>hbr 3 [35] (hdx 5 (wz [1])) <| ?_
   refine hnx 3 (wz [0,1,2])
  refine hdx 1 (wz [0,1,2])
 ·refine hrt 0
 refine hoh 5 (fun _ _ h k=>mkL (enc:=fun _=>AV.nils) (z:=([]:(List Int))) (z0:=AV.nils) (n:=(zn x1.1)) (m:=(zn x1.1)) (w:=1) (bytes:=24) [] false kr kr gE kr h k) <| hop 1 (fun _=>sgL false [] [] false gE) <| hwk 1 (wfam 3 1 true (zt (zn x1.1)) eI (nr0:=true) (fl0:=false) (x0:=([]:List Int)) (enc1:=fun _=>AV.nils)) <| hlp 3 (fun s17=>⟨s48_35++[(45,.ref 3 0 x1.1.length),(46,vI (zn x1.1)),(47,vI s17.1)],[(o48_32 p0),o48_33,oX false false 4 (.agg [vI p0.Grain,eL false eTapi_Node p0.Nodes,.ref 3 0 x1.1.length,.ref 4 0 s17.2.length]),(o48_34 x1),.refs 5 (eF eI s17.2),.fam 1 true (eF eI s17.2)],89⟩) (fun v=>(.exit 2,⟨[(4,.ptr 0 0 0),(11,.ptr 1 0 0)],[o48_33,oX false false 4 (.agg [vI p0.Grain,eL false eTapi_Node p0.Nodes,.ref 2 0 x1.1.length,.ref 3 0 v.length]),(o48_34 x1),.refs 4 (eF eI v),.fam 1 true (eF eI v)],89⟩)) (wz [0,1,4,2,3,5]) (fun s17=>?_) fun x40=>?_
 ·refine hbr 1 [48] (?_) ?_
  ·refine hbd fun a20 q21=>hop 2 (fun _=>Qy (enc:=Q2) (l:=x1.1) (n:=s17.1) (w:=3) (ob:=3) (ro:=false) (nr:=true) (fl:=false) (a:=a20) kr kr gE q21) <| hop 0 (fun _=>Z3 (enc:=Q2) (l:=x1.1) (n:=s17.1) (w:=3) (ob:=3) (c:=0) (bx:=false) (ro:=false) (nr:=true) (fl:=false) (a:=a20) kr kr q21 gE) <| hop 0 (fun _=>sgL false [] [] false gE) <| hop 8 (fun _=>Qu (enc:=eTapi_Node) (l:=p0.Nodes) (fl:=false) kr gE) <| hoh 0 (fun _ _ h k=>mkL (enc:=eI) (z:=(0:Int)) (z0:=vI 0) (n:=(zn p0.Nodes)) (m:=(zn p0.Nodes)) (w:=1) (bytes:=8) [] true kr kr gE kr h k) <| hbd fun a22 q23=>hop 0 (fun _=>Q1t (enc:=eI) (ls:=s17.2) (x:=a22) (n:=s17.1) (ob:=4) (j:=5) kr kr q23 gE) <| hop 0 (fun _=>Q0a (enc:=eI) (ls:=s17.2) (x:=a22) (n:=s17.1) (ob:=4) (j:=5) (m:=7) (q:=(List.replicate (zt (zn p0.Nodes)) (0:Int)).length) kr kr q23 kr gE kr) <| ?_
   refine hwk 0 (Q9 (Q2p 4 5 7 [2,4,11,45,46,47,48,49,50,51,13,12,52,53,54,55,56,57,59] q23 (w:=1) (fl:=true) (enc:=eI) (ls:=s17.2) (x:=a22) (b:=(List.replicate (zt (zn p0.Nodes)) (0:Int))) (n:=s17.1)) (wkv (fun n24=>⟨s48_35++[(45,.ref 3 0 x1.1.length),(46,vI (zn x1.1)),(47,vI s17.1),(48,vB true),(49,vI s17.1),(50,.ptr 3 (zt s17.1) 0),(51,.agg [z1 a20.Vars,z1 a20.Cards,z1 a20.W]),(13,.ptr 6 0 0),(12,vI s17.1),(52,.ptr 2 0 3),(53,.ref 4 0 n24),(54,vI s17.1),(55,.ptr 0 0 1),(56,eL false eTapi_Node p0.Nodes),(57,vI (zn p0.Nodes)),(59,.ptr 4 (zt s17.1) 0)],[(o48_32 p0),o48_33,oX false false 4 (.agg [vI p0.Grain,eL false eTapi_Node p0.Nodes,.ref 3 0 x1.1.length,.ref 4 0 n24]),(o48_34 x1),.refs 5 (eF eI (List.set s17.2 (zt s17.1) (List.replicate (zt (zn p0.Nodes)) (0:Int)))),.fam 1 true (eF eI (List.set s17.2 (zt s17.1) (List.replicate (zt (zn p0.Nodes)) (0:Int)))),oX true false 3 (.agg [z1 a20.Vars,z1 a20.Cards,z1 a20.W]),.dead],89⟩) (ls s17.2 (zt s17.1) (List.replicate (zt (zn p0.Nodes)) (0:Int))))) <| hop 3 (fun _=>Qu (enc:=eI) (l:=a20.Vars) (fl:=true) kr gE) <| hlp 2 (fun s25=>⟨s48_35++[(12,vI s17.1),(13,.ptr 3 0 0),(14,vI s25.1),(15,vI s25.2.1),(45,.ref 4 0 x1.1.length),(46,vI (zn x1.1)),(47,vI s17.1)],[(o48_32 p0),o48_33,oX false false 4 (.agg [vI p0.Grain,eL false eTapi_Node p0.Nodes,.ref 4 0 x1.1.length,.ref 5 0 s25.2.2.length]),oX true false 3 (.agg [z1 a20.Vars,z1 a20.Cards,z1 a20.W]),(o48_34 x1),.refs 6 (eF eI s25.2.2),.fam 1 true (eF eI s25.2.2)],89⟩) (fun v=>(.exit 4,⟨s48_35++[(45,.ref 3 0 x1.1.length),(46,vI (zn x1.1)),(47,vI s17.1)],[(o48_32 p0),o48_33,oX false false 4 (.agg [vI p0.Grain,eL false eTapi_Node p0.Nodes,.ref 3 0 x1.1.length,.ref 4 0 v.length]),(o48_34 x1),.refs 5 (eF eI v),.fam 1 true (eF eI v)],89⟩)) (wz [0,1,2,6,3,4,5]) (fun s25=>?_) fun x38=>?_
   ·refine hbr 2 [65] (?_) ?_
    ·refine hbd fun a28 q29=>hop 5 (fun _=>Q1t (enc:=eI) (ls:=s25.2.2) (x:=a28) (n:=s17.1) (ob:=5) (j:=6) kr kr q29 gE) <| hop 0 (fun _=>Q1v (enc:=eI) (ls:=s25.2.2) (x:=a28) (n:=s17.1) (ob:=5) (j:=6) kr kr q29 gE) <| hbd fun a30 q31=>hop 3 (fun _=>Qp (enc:=eI) (l:=a20.Vars) (n:=s25.2.1) (fl:=true) (w:=1) (a:=a30) kr kr gE q31) <| hbd fun a32 q33=>hop 2 (fun _=>Q2h (enc:=eI) (ls:=s25.2.2) (x:=a28) (y:=a32) (n:=s17.1) (c:=a30) (w:=1) (j:=6) (fl:=true) kr kr q29 q33 kr gE) <| hop 0 (fun _=>Q0z (enc:=eI) (ls:=s25.2.2) (x:=a28) (y:=a32) (y':=s25.1) (n:=s17.1) (m:=a30) (w:=1) (j:=6) (q:=5) (c:=0) (fl:=true) (v:=vI s25.1) kr kr kr q29 q33 kr kr kr kr gE) <| hkn 0 (fun n36=>⟨s48_35++[(12,vI s17.1),(13,.ptr 3 0 0),(14,vI s25.1),(15,vI s25.2.1),(45,.ref 4 0 x1.1.length),(46,vI (zn x1.1)),(47,vI s17.1),(64,vI s25.2.1),(65,vB true),(68,.ptr 2 0 3),(69,.ref 5 0 n36),(70,vI s17.1),(71,.ptr 5 (zt s17.1) 0),(72,.ref (fid 6 (zt s17.1)) 0 a28.length),(73,.ptr 3 0 0),(74,z1 a20.Vars),(75,vI s25.2.1),(76,.fz [vI a30]),(77,vI a30),(78,vI s25.1),(79,.ptr (fid 6 (zt s17.1)) (zt a30) 0)],[(o48_32 p0),o48_33,oX false false 4 (.agg [vI p0.Grain,eL false eTapi_Node p0.Nodes,.ref 4 0 x1.1.length,.ref 5 0 n36]),oX true false 3 (.agg [z1 a20.Vars,z1 a20.Cards,z1 a20.W]),(o48_34 x1),.refs 6 (eF eI (List.set s25.2.2 (zt s17.1) (List.set a28 (zt a30) s25.1))),.fam 1 true (eF eI (List.set s25.2.2 (zt s17.1) (List.set a28 (zt a30) s25.1)))],89⟩) (ls s25.2.2 (zt s17.1) (List.set a28 (zt a30) s25.1)) <| ?_
     refine hbd fun a34 q35=>hop 4 (fun _=>Qp (enc:=eI) (l:=a20.Cards) (n:=s25.2.1) (fl:=true) (w:=1) (a:=a34) kr kr gE q35) <| hnx 6 (wz [0,1,2,3,4,5,6])
    refine hdx 1 (wz [0,1,2,4,5,6])
   refine hnx 2 (wz [0,1,2,3,4,5])
  refine hdx 1 (wz [1,2,3,4,5])
 refine hwk 3 (wl [4,5] [0,2,3,4]) <| hwk 0 (Q2n 2 3 (w:=1) (fl:=true) (enc:=eI) (ls:=x40)) <| hwk 0 (won 0 0 [F Q2 x1.1,F z1 x40]) <| hrt 1
theorem Qm0 (p0:Qm):Ct Try.prog 64 [.agg [vI p0.Grain,eL false eTapi_Node p0.Nodes]] (Qb9 p0) (fun x=>.tup [vI x.1,vI x.2]) (fun x=>[]):=by
 refine hfn [] Try.func64 <| hop 0 (fun _=>sgL false [] [] false gE) <| hcl 3 [] (g_net_read_ok p0) fun x1 _=>hop 3 (fun _=>sgL false [] [] false gE) <| hbr 4 [13] (hrt 5) <| ?_
 refine hop 5 (fun _=>Qu (enc:=eTapi_Node) (l:=x1.1.Net.Nodes) (fl:=false) kr gE) <| hlp 1 (fun s5=>⟨[(4,.ptr 0 0 0),(6,vI s5.1),(18,vI (zn x1.1.Net.Nodes)),(19,vI s5.2)],[oX true false 5 (.agg [vI x1.1.Net.Grain,eL false eTapi_Node x1.1.Net.Nodes,z1 x1.1.cards,eL true (AV.int .u64) x1.1.sets,z1 x1.1.order])],28⟩) (fun v=>(.exit 0,⟨[(6,vI v)],[],28⟩)) (wz [1]) (fun s5=>?_) fun x9=>?_
 ·refine hbr 1 [20] (hnx 9 (wz [0])) <| ?_
  refine hdx 1 (wz [])
 refine hrt 4
theorem Qke (p0:Int) (p1:Int):Ct Try.prog 82 [.int .u64 p0,.int .u64 p1] (K5 p0 p1) (fun x=>.int .u64 x) (fun x=>[]):=by
 refine hfn [] Try.func82 <| hlp 1 (fun s1=>⟨[(0,.int .u64 s1.1),(1,.int .u64 s1.2)],[],12⟩) (fun v=>(.exit 0,⟨[(0,.int .u64 v)],[],12⟩)) (wz []) (fun s1=>?_) fun x5=>?_
 ·refine hbr 2 [6] (hoh 5 (fun _ _ h k=>Qdv (k:=.u64) (a:=s1.1) (b:=s1.2) kr gE h k) <| hnx 2 (wz [])) <| ?_
  refine hdx 1 (wz [])
 refine hrt 3
theorem g_frac_size_ok (p0:Int):Ct Try.prog 83 [vI p0] (Vx p0) (fun x=>.int .u64 x) (fun x=>[]):=by
 refine hfn [] Try.func83 <| hbr 3 [4] (hrt 6) <| ?_
 refine hrt 5
theorem g_frac_fit_ok (p0:Bool) (p1:(Int × Int)) (p2:(Int × Int)):Ct Try.prog 84 [vB p0,.agg [.int .u64 p1.1,.int .u64 p1.2],.agg [.int .u64 p2.1,.int .u64 p2.2]] (Qgf p0 p1 p2) (fun x=>.agg [vI x.N,vI x.D]) (fun x=>[]):=by
 refine hfn [] Try.func84 <| hbr 7 [9,10] (hnn) <| ?_
 refine hbr 5 [13,14,15] (hnn) <| ?_
 refine hbr 5 [18,19,20] (hnn) <| ?_
 refine hbr 4 [23,24] (hnn) <| ?_
 refine hbr 2 [0,27] (hrt 11) <| ?_
 refine hrt 10
theorem Qhi (c0:Int) (c1:Int):Ct Try.prog 81 [.fz [vI c0],.fz [vI c1]] (Qam c0 c1) (fun x=>.agg [vI x.N,vI x.D]) (fun x=>[]):=by
 refine hfn [] Try.func81 <| hcl 3 [] (g_frac_size_ok c0) fun x1 _=>hcl 1 [] (g_frac_size_ok c1) fun x3 _=>hcl 0 [] (Qke x1 x3) fun x5 _=>hcl 8 [] (g_frac_size_ok c0) fun x7 _=>hoh 1 (fun _ _ h k=>Qkh (k:=.u64) (a:=x7) (b:=x5) kr gE h k) <| hcl 2 [] (g_frac_size_ok c1) fun x9 _=>hoh 1 (fun _ _ h k=>Qkh (k:=.u64) (a:=x9) (b:=x5) kr gE h k) <| hcl 1 [] (g_frac_fit_ok (!((decide (c0 < 0))==(decide (c1 < 0)))) (0,zv (Int.tdiv x7 x5)) (0,zv (Int.tdiv x9 x5))) fun x11 _=>?_
 refine hrt 2
theorem g_frac_Make_ok (p0:Int) (p1:Int):Ct Try.prog 65 [vI p0,vI p1] (Kr p0 p1) (fun x=>.tup [.agg [vI x.1.N,vI x.1.D],vI x.2]) (fun x=>[]):=by
 refine hfn [] Try.func65 <| hbr 6 [7] (hrt 5) <| ?_
 refine hcl 2 [] (us:=[.fn (.func 81) [] [.fz [vI p0],.fz [vI p1]]]) (rv:=fun x3=>.tup [.agg [vI x3.N,vI x3.D],vI 0]) (ro:=fun x3=>[]) (fun x3 q4=>Qu2 Qw7 Try.func81 rfl (by decide +kernel) (Qhi p0 p1 x3 q4)) fun x3 _=>hrt 5
theorem Qck (p0:(List Int)) (p1:(List Int)):Ct Try.prog 93 [z1 p0,z1 p1] (Yo p0 p1) (fun x=>vB x) (fun x=>[]):=by
 refine hfn [] Try.func93 <| hop 3 (fun _=>Qu (enc:=eI) (l:=p1) (fl:=true) kr gE) <| hlp 1 (fun s1=>⟨[(0,z1 p0),(5,vB true),(8,z1 p1),(9,vI (zn p1)),(10,vI s1)],[],25⟩) (fun v=>(.exit 0,⟨[(5,vB v)],[],25⟩)) (wz []) (fun s1=>?_) fun x13=>?_
 ·refine hbr 1 [11] (?_) ?_
  ·refine hbd fun a4 q5=>hop 2 (fun _=>Qp (enc:=eI) (l:=p1) (n:=s1) (fl:=true) (w:=1) (a:=a4) kr kr gE q5) <| hbr 6 [17,16] (hnx 4 (wz [])) <| ?_
   refine hbd fun a8 q9=>hop 3 (fun _=>Qp (enc:=eI) (l:=p0) (n:=s1) (fl:=true) (w:=1) (a:=a8) kr kr gE q9) <| hbr 3 [16,22] (hnx 3 (wz [])) <| ?_
   refine hdx 2 (wz [])
  refine hdx 1 (wz [])
 refine hrt 3
noncomputable abbrev Qok (p0:Qo):AObj:=oX true false 4 (.agg [vI p0.Net.Grain,eL false eTapi_Node p0.Net.Nodes,eL false Q2 p0.factors,z2 p0.steps])
theorem Jm (p0:Qo) (p1:(List Int)):Ct Try.prog 94 [.agg [vI p0.Net.Grain,eL false eTapi_Node p0.Net.Nodes,eL false Q2 p0.factors,z2 p0.steps],z1 p1] (Xc p0 p1) (fun x=>vI x) (fun x=>[]):=by
 refine hfn [] Try.func94 <| hop 0 (fun _=>sgL false [] [] false gE) <| hop 4 (fun _=>Qu (enc:=Q2) (l:=p0.factors) (fl:=false) kr gE) <| hlp 1 (fun s1=>⟨[(1,z1 p1),(2,.ptr 0 0 0),(5,vI s1.1),(12,eL false Q2 p0.factors),(13,vI (zn p0.factors)),(14,vI s1.2)],[(Qok p0)],51⟩) (fun v=>(.exit 0,⟨[(5,vI v)],[],51⟩)) (wz [0]) (fun s1=>?_) fun x22=>?_
 ·refine hbr 1 [15] (?_) ?_
  ·refine hbd fun a4 q5=>hop 2 (fun _=>Qp (enc:=Q2) (l:=p0.factors) (n:=s1.2) (fl:=false) (w:=3) (a:=a4) kr kr gE q5) <| hop 1 (fun _=>sgL false [] [] false gE) <| hop 5 (fun _=>Qu (enc:=eI) (l:=a4.Vars) (fl:=true) kr gE) <| hlp 1 (fun s6=>⟨[(1,z1 p1),(2,.ptr 0 0 0),(5,vI s1.1),(6,vI s1.2),(7,.ptr 1 0 0),(8,vI s6.1),(12,eL false Q2 p0.factors),(13,vI (zn p0.factors)),(14,vI s1.2),(20,z1 a4.Vars),(21,vI (zn a4.Vars)),(22,vI s6.2)],[(Qok p0),oX true false 3 (.agg [z1 a4.Vars,z1 a4.Cards,z1 a4.W])],51⟩) (fun v=>(.exit 2,⟨[(1,z1 p1),(2,.ptr 0 0 0),(5,vI s1.1),(7,.ptr 1 0 0),(8,vI v),(12,eL false Q2 p0.factors),(13,vI (zn p0.factors)),(14,vI s1.2)],[(Qok p0),oX true false 3 (.agg [z1 a4.Vars,z1 a4.Cards,z1 a4.W])],51⟩)) (wz [0,1]) (fun s6=>?_) fun x18=>?_
   ·refine hbr 1 [23] (?_) ?_
    ·refine hbd fun a9 q10=>hop 1 (fun _=>Qp (enc:=eI) (l:=a4.Vars) (n:=s6.2) (fl:=true) (w:=1) (a:=a9) kr kr gE q10) <| hbd fun a11 q12=>hop 6 (fun _=>Qp (enc:=eI) (l:=p1) (n:=a9) (fl:=true) (w:=1) (a:=a11) kr kr gE q12) <| hbd fun a13 q14=>hop 4 (fun _=>Qp (enc:=z1) (l:=p0.steps) (n:=s1.2) (fl:=false) (w:=1) (a:=a13) kr kr gE q14) <| hbd fun a15 q16=>hop 2 (fun _=>Qp (enc:=eI) (l:=a13) (n:=a9) (fl:=true) (w:=1) (a:=a15) kr kr gE q16) <| hnx 6 (wz [0,1])
    refine hdx 1 (wz [0,1])
   refine hbd fun a19 q20=>hop 4 (fun _=>Qp (enc:=eI) (l:=a4.W) (n:=x18) (fl:=true) (w:=1) (a:=a19) kr kr gE q20) <| hnx 5 (wz [0])
  refine hdx 1 (wz [])
 refine hrt 3
noncomputable abbrev Qfq (p0:Qo):AObj:=oX true false 4 (.agg [vI p0.Net.Grain,eL false eTapi_Node p0.Net.Nodes,eL false Q2 p0.factors,z2 p0.steps])
noncomputable abbrev Qfe:AObj:=.loop 16 [(5,.ptr 0 0 0),(9,.fn (.func 92) [] [.ptr 1 0 0,.ptr 2 0 0])] [10] (cA Try.f66 [true,true,false,true,true]) (cB Try.f66 [true,true,false,true,true]) .ready none
noncomputable abbrev Qh5:List (Nat×AV):=[(0,.yld 3),(1,.ptr 1 0 0),(2,.ptr 2 0 0)]
theorem Qea (p0:Qo) (p1:(List Int)):Ct Try.prog 66 [.agg [vI p0.Net.Grain,eL false eTapi_Node p0.Net.Nodes,eL false Q2 p0.factors,z2 p0.steps],z1 p1] (Yp p0 p1) (fun x=>vI x) (fun x=>[]):=by
 refine hfn [] Try.func66 <| hop 0 (fun _=>sgL false [] [] false gE) <| hil 5 Try.func85 <| hop 0 (fun _=>sgL false [] [] false gE) <| hop 0 (fun _=>sgL false [] [] false gE) <| hwk 3 (wl [4] [2,3]) <| hwk 1 (wl [5,9] [1,2,3]) <| hrg 0 Try.func92 <| hop 3 (fun _=>Qu (enc:=eTapi_Node) (l:=p0.Net.Nodes) (fl:=false) kr gE) <| ?_
 refine hoh 0 (fun _ _ h k=>mkL (enc:=eI) (z:=(0:Int)) (z0:=vI 0) (n:=(zn p0.Net.Nodes)) (m:=(zn p0.Net.Nodes)) (w:=1) (bytes:=8) [] true kr kr gE kr h k) <| hlp 2 (fun s1=>⟨Qh5++[(4,.ref 4 0 s1.2.2.length),(5,vI s1.1)],[oX true true 1 (vI s1.2.1),(Qfq p0),oX true false 1 (z1 p1),Qfe,oR true 1 eI s1.2.2],61⟩) (fun v=>(.ret,⟨[],[oX true true 1 (vI v),(Qfq p0),oX true false 1 (z1 p1),Qfe],61⟩)) (wz [4]) (fun s1=>?_) fun x43=>?_
 ·refine hcl 2 [F eI s1.2.2] (Qck s1.2.2 p1) fun x2 _=>hbr 1 [16,17] (?_) ?_
  ·refine hcl 4 [F eI s1.2.2] (Jm p0 s1.2.2) fun x6 _=>hyl 2 <| hop 0 (fun _=>sgL false [] [] false gE) <| hlp 13 (fun s8=>⟨Qh5++[(4,.ref 4 0 s8.2.length),(5,vI s1.1),(6,vI s8.1)],[oX true true 1 (vI (zw (s1.2.1+x6))),(Qfq p0),oX true false 1 (z1 p1),Qfe,oR true 1 eI s8.2],61⟩) (fun v=>(.exit 2,⟨Qh5++[(4,.ref 4 0 v.2.length),(5,vI s1.1),(6,vI v.1)],[oX true true 1 (vI (zw (s1.2.1+x6))),(Qfq p0),oX true false 1 (z1 p1),Qfe,oR true 1 eI v.2],61⟩)) (wz [4]) (fun s8=>?_) fun x19=>?_
   ·refine hbr 4 [32,33] (?_) ?_
    ·refine hbd fun a11 q12=>hop 2 (fun _=>Qy (enc:=eI) (l:=s8.2) (n:=s8.1) (w:=1) (ob:=4) (ro:=false) (nr:=true) (fl:=true) (a:=a11) kr kr gE q12) <| hop 0 (fun _=>Z3 (enc:=eI) (l:=s8.2) (n:=s8.1) (w:=1) (ob:=4) (c:=0) (bx:=false) (ro:=false) (nr:=true) (fl:=true) (a:=a11) kr kr q12 gE) <| hbd fun a13 q14=>hop 4 (fun _=>Qp (enc:=eTapi_Node) (l:=p0.Net.Nodes) (n:=s8.1) (fl:=false) (w:=3) (a:=a13) kr kr gE q14) <| hbr 5 [46,47] (?_) ?_
     ·refine hop 3 (fun _=>Qy (enc:=eI) (l:=s8.2) (n:=s8.1) (w:=1) (ob:=4) (ro:=false) (nr:=true) (fl:=true) (a:=a11) kr kr gE q12) <| hop 0 (fun _=>Zf (enc:=eI) (l:=s8.2) (n:=s8.1) (ob:=4) (w:=1) (bx:=false) (nr:=true) (fl:=true) (c:=0) (a:=a11) (a':=0) (v:=vI 0) false kr kr q12 kr kr kr gE kr) <| hkl 0 [4,34,48] (ls s8.2 (zt s8.1) 0) <| hnx 3 (wz [4])
     refine hdx 1 (wz [4])
    refine hdx 15 (wz [4])
   refine hbr 2 [54] (hdx 1 (wz [])) <| ?_
   refine hbd fun a22 q23=>hop 3 (fun _=>Qy (enc:=eI) (l:=x19.2) (n:=x19.1) (w:=1) (ob:=4) (ro:=false) (nr:=true) (fl:=true) (a:=a22) kr kr gE q23) <| hop 0 (fun _=>Z3 (enc:=eI) (l:=x19.2) (n:=x19.1) (w:=1) (ob:=4) (c:=0) (bx:=false) (ro:=false) (nr:=true) (fl:=true) (a:=a22) kr kr q23 gE) <| hop 1 (fun _=>Qy (enc:=eI) (l:=x19.2) (n:=x19.1) (w:=1) (ob:=4) (ro:=false) (nr:=true) (fl:=true) (a:=a22) kr kr gE q23) <| hop 0 (fun _=>Zf (enc:=eI) (l:=x19.2) (n:=x19.1) (ob:=4) (w:=1) (bx:=false) (nr:=true) (fl:=true) (c:=0) (a:=a22) (a':=zw (a22+1)) (v:=vI (zw (a22+1))) false kr kr q23 kr kr kr gE kr) <| hkl 0 [4,55] (ls x19.2 (zt x19.1) (zw (a22+1))) <| hnx 3 (wz [4])
  refine hlp 15 (fun s25=>⟨Qh5++[(4,.ref 4 0 s25.2.length),(5,vI s1.1),(6,vI s25.1)],[oX true true 1 (vI s1.2.1),(Qfq p0),oX true false 1 (z1 p1),Qfe,oR true 1 eI s25.2],61⟩) (fun v=>(.exit 2,⟨Qh5++[(4,.ref 4 0 v.2.length),(5,vI s1.1),(6,vI v.1)],[oX true true 1 (vI s1.2.1),(Qfq p0),oX true false 1 (z1 p1),Qfe,oR true 1 eI v.2],61⟩)) (wz [4]) (fun s25=>?_) fun x36=>?_
  ·refine hbr 4 [32,33] (?_) ?_
   ·refine hbd fun a28 q29=>hop 2 (fun _=>Qy (enc:=eI) (l:=s25.2) (n:=s25.1) (w:=1) (ob:=4) (ro:=false) (nr:=true) (fl:=true) (a:=a28) kr kr gE q29) <| hop 0 (fun _=>Z3 (enc:=eI) (l:=s25.2) (n:=s25.1) (w:=1) (ob:=4) (c:=0) (bx:=false) (ro:=false) (nr:=true) (fl:=true) (a:=a28) kr kr q29 gE) <| hbd fun a30 q31=>hop 4 (fun _=>Qp (enc:=eTapi_Node) (l:=p0.Net.Nodes) (n:=s25.1) (fl:=false) (w:=3) (a:=a30) kr kr gE q31) <| hbr 5 [46,47] (?_) ?_
    ·refine hop 3 (fun _=>Qy (enc:=eI) (l:=s25.2) (n:=s25.1) (w:=1) (ob:=4) (ro:=false) (nr:=true) (fl:=true) (a:=a28) kr kr gE q29) <| hop 0 (fun _=>Zf (enc:=eI) (l:=s25.2) (n:=s25.1) (ob:=4) (w:=1) (bx:=false) (nr:=true) (fl:=true) (c:=0) (a:=a28) (a':=0) (v:=vI 0) false kr kr q29 kr kr kr gE kr) <| hkl 0 [4,34,48] (ls s25.2 (zt s25.1) 0) <| hnx 3 (wz [4])
    refine hdx 1 (wz [4])
   refine hdx 15 (wz [4])
  refine hbr 2 [54] (hdx 1 (wz [])) <| ?_
  refine hbd fun a39 q40=>hop 3 (fun _=>Qy (enc:=eI) (l:=x36.2) (n:=x36.1) (w:=1) (ob:=4) (ro:=false) (nr:=true) (fl:=true) (a:=a39) kr kr gE q40) <| hop 0 (fun _=>Z3 (enc:=eI) (l:=x36.2) (n:=x36.1) (w:=1) (ob:=4) (c:=0) (bx:=false) (ro:=false) (nr:=true) (fl:=true) (a:=a39) kr kr q40 gE) <| hop 1 (fun _=>Qy (enc:=eI) (l:=x36.2) (n:=x36.1) (w:=1) (ob:=4) (ro:=false) (nr:=true) (fl:=true) (a:=a39) kr kr gE q40) <| hop 0 (fun _=>Zf (enc:=eI) (l:=x36.2) (n:=x36.1) (ob:=4) (w:=1) (bx:=false) (nr:=true) (fl:=true) (c:=0) (a:=a39) (a':=zw (a39+1)) (v:=vI (zw (a39+1))) false kr kr q40 kr kr kr gE kr) <| hkl 0 [4,55] (ls x36.2 (zt x36.1) (zw (a39+1))) <| hnx 3 (wz [4])
 refine hrt 3
theorem Qlc (p0:Qm) (p1:(List Int)):Ct Try.prog 36 [.agg [vI p0.Grain,eL false eTapi_Node p0.Nodes],z1 p1] (Qba p0 p1) (fun x=>.tup [.agg [vI x.1.N,vI x.1.D],vI x.2]) (fun x=>[]):=by
 refine hfn [] Try.func36 <| hop 0 (fun _=>sgL false [] [] false gE) <| hop 4 (fun _=>sgL false [] [.lst true] false gE) <| hcl 0 [] (g_joint_ask_ok p0 [p1]) fun x1 _=>hop 3 (fun _=>sgL false [] [] false gE) <| hbr 4 [17] (hrt 6) <| ?_
 refine hcl 2 [] (Qm0 p0) fun x5 _=>hbr 7 [26] (hrt 6) <| ?_
 refine hcl 3 [] (Qea x1.1 p1) fun x9 _=>hcl 1 [] (g_frac_Make_ok x9 x5.1) fun x11 _=>hrt 5
noncomputable abbrev Qui (p0:Qm):AObj:=oX true false 2 (.agg [vI p0.Grain,eL false eTapi_Node p0.Nodes])
noncomputable abbrev Qt1 (p1:(List Int)):AObj:=.row false true true false 1 [z1 p1]
noncomputable abbrev Qh2 (x1:(Qo × Int)):AObj:=oX true false 4 (.agg [vI x1.1.Net.Grain,eL false eTapi_Node x1.1.Net.Nodes,eL false Q2 x1.1.factors,z2 x1.1.steps])
noncomputable abbrev Qz0:AObj:=oX false false 1 (.mp 8)
noncomputable abbrev Qz6 (p1:(List Int)):AObj:=oX true false 1 (z1 p1)
noncomputable abbrev Qfx:AObj:=.loop 42 [(2,.ptr 3 0 0),(6,.ptr 4 0 0),(7,.ptr 5 0 0),(14,.fn (.func 92) [] [.ptr 6 0 0,.ptr 7 0 0])] [15] (cA Try.f67 [true,true,false,true,true]) (cB Try.f67 [true,true,false,true,true]) .ready none
noncomputable abbrev Qpa:AObj:=.loop 42 [(2,.ptr 3 0 0),(6,.ptr 4 0 0),(7,.ptr 5 0 0),(14,.fn (.func 92) [] [.ptr 6 0 0,.ptr 7 0 0])] [15] (cA Try.f67 [true,true,false,true,true]) (cB Try.f67 [true,true,false,true,true]) .busy none
noncomputable abbrev Qa5 (a0:AObj) (p0:Qm) (p1:(List Int)) (x1:(Qo × Int)):List AObj:=[(Qui p0),(Qt1 p1),(Qh2 x1),(Qh2 x1),Qz0,a0,(Qh2 x1),(Qz6 p1)]
noncomputable abbrev l59_48 (p0:Qm) (p1:(List Int)) (x1:(Qo × Int)) (x58:(Int × (List (Tjoint_place × Int)))):List AObj:=[(Qui p0),(Qt1 p1),(Qh2 x1),(Qh2 x1),oX false false 1 (.mp 6),oX true true 1 (vI x58.1),Vd eTjoint_place eI x58.2]
noncomputable abbrev Qhp:List (Nat×AV):=[(0,.yld 9),(1,.ptr 6 0 0),(2,.ptr 7 0 0)]
theorem g_joint_Posterior_ok (p0:Qm) (p1:(List Int)) (p2:Int):Ct Try.prog 37 [.agg [vI p0.Grain,eL false eTapi_Node p0.Nodes],z1 p1,vI p2] (Xi p0 p1 p2) (fun x=>.tup [.ref 0 0 x.1.length,vI x.2]) (fun x=>[oR true 2 eTapi_Q x.1]):=by
 refine hfn [] Try.func37 <| hop 0 (fun _=>sgL false [] [] false gE) <| hop 4 (fun _=>sgL false [] [.lst true] false gE) <| hcl 0 [] (g_joint_ask_ok p0 [p1]) fun x1 _=>hop 3 (fun _=>sgL false [] [] false gE) <| hbr 4 [19] (hwk 4 (wl [6,7] []) <| hwk 0 (Zj 6 2 true true gE) <| hrt 1) <| ?_
 refine hbr 4 [22,23] (hwk 10 (wl [6,7] []) <| hwk 0 (Zj 6 2 true true gE) <| hrt 1) <| ?_
 refine hop 4 (fun _=>Qu (enc:=eTapi_Node) (l:=x1.1.Net.Nodes) (fl:=false) kr gE) <| hbr 2 [29,30] (hwk 3 (wl [6,7] []) <| hwk 0 (Zj 6 2 true true gE) <| hrt 1) <| ?_
 refine hil 3 Try.func67 <| hop 0 (fun _=>sgL false [] [] false gE) <| hop 3 (fun _=>sgL false [] [] false gE) <| hil 5 Try.func85 <| hop 0 (fun _=>sgL false [] [] false gE) <| hop 0 (fun _=>sgL false [] [] false gE) <| hwk 3 (wk_gcK (live:=[4]) (keep:=[7,8]) 4 eTjoint_place eI [] (fun f a=>rfl) (fun f a=>rfl) kr gE) <| hwk 1 (wk_gcK (live:=[2,6,7,14]) (keep:=[3,5,6,7,8,4]) 4 eTjoint_place eI [] (fun f a=>rfl) (fun f a=>rfl) kr gE) <| hrg 0 Try.func92 <| ?_
 refine hop 3 (fun _=>Qu (enc:=eTapi_Node) (l:=x1.1.Net.Nodes) (fl:=false) kr gE) <| hoh 0 (fun _ _ h k=>mkL (enc:=eI) (z:=(0:Int)) (z0:=vI 0) (n:=(zn x1.1.Net.Nodes)) (m:=(zn x1.1.Net.Nodes)) (w:=1) (bytes:=8) [] true kr kr gE kr h k) <| hlp 2 (fun s9=>⟨Qhp++[(4,.ref 10 0 s9.2.2.2.length),(5,vI s9.1)],(Qa5 (oX true true 1 (vI s9.2.1)) p0 p1 x1)++[Vd eTjoint_place eI s9.2.2.1,Qfx,oR true 1 eI s9.2.2.2],61⟩) (fun v=>(.ret,⟨[],(Qa5 (oX true true 1 (vI v.1)) p0 p1 x1)++[Vd eTjoint_place eI v.2,Qfx],61⟩)) (wk_gcK (live:=[0,1,2,4,5]) (keep:=[10]) 8 eTjoint_place eI [] (fun f a=>rfl) (fun f a=>rfl) kr kr) (fun s9=>?_) fun x58=>?_
 ·refine hcl 2 [F eI s9.2.2.2] (Qck s9.2.2.2 p1) fun x10 _=>hbr 1 [16,17] (?_) ?_
  ·refine hcl 4 [F eI s9.2.2.2] (Jm x1.1 s9.2.2.2) fun x14 _=>hyl 2 <| hop 0 (fun _=>sgL false [] [] false gE) <| hlp 10 (fun s16=>⟨[(6,.ptr 4 0 0),(8,.ptr 11 0 0),(21,.ref 10 0 s9.2.2.2.length),(22,vI (zn s9.2.2.2)),(23,vI s16.1)],(Qa5 (oX true true 1 (vI (zw (s9.2.1+x14)))) p0 p1 x1)++[Vd eTjoint_place eI s16.2,Qpa,oR true 1 eI s9.2.2.2,oX false false 3 (.agg [vI s9.1,vI x14,.ref 10 0 s9.2.2.2.length])],42⟩) (fun v=>(.exit 2,⟨[],(Qa5 (oX true true 1 (vI (zw (s9.2.1+x14)))) p0 p1 x1)++[Vd eTjoint_place eI v,Qpa,oR true 1 eI s9.2.2.2],42⟩)) (wk_gcK (live:=[6,8,21,22,23]) (keep:=[11]) 8 eTjoint_place eI s9.2.2.1 (fun f a=>rfl) (fun f a=>rfl) kr kr) (fun s16=>?_) fun x22=>?_
   ·refine hbr 1 [24] (?_) ?_
    ·refine hbd fun a19 q20=>hop 2 (fun _=>Qy (enc:=eI) (l:=s9.2.2.2) (n:=s16.1) (w:=1) (ob:=10) (ro:=false) (nr:=true) (fl:=true) (a:=a19) kr kr gE q20) <| hop 0 (fun _=>Z3 (enc:=eI) (l:=s9.2.2.2) (n:=s16.1) (w:=1) (ob:=10) (c:=0) (bx:=false) (ro:=false) (nr:=true) (fl:=true) (a:=a19) kr kr q20 gE) <| htw 2 4 8 [0,1,2,3,4,5,6,7,8,9,10] [0,1,2,3,5,6,8,4,7,9,10] (⟨[(6,.ptr 4 0 0),(8,.ptr 11 0 0),(21,.ref 10 0 s9.2.2.2.length),(22,vI (zn s9.2.2.2)),(23,vI s16.1)],(Qa5 (oX true true 1 (vI (zw (s9.2.1+x14)))) p0 p1 x1)++[Vd eTjoint_place eI (kput qTjoint_place s16.2 (Tjoint_place.mk s16.1 a19) (zw (((kget qTjoint_place s16.2 (Tjoint_place.mk s16.1 a19)).getD 0)+x14))),Qpa,oR true 1 eI s9.2.2.2,oX false false 3 (.agg [vI s9.1,vI x14,.ref 10 0 s9.2.2.2.length])],42⟩) ?_ ?_ ?_
     ·refine hop 4 (fun _=>Qti (ob:=8) (kt:=143) (c:=false) (ke:=eTjoint_place) (enc:=eI) (e:=qTjoint_place) (l:=s16.2) (n:=(Tjoint_place.mk s16.1 a19)) (z:=0) kr (fun _ _=>by kernel_rfl) kr (fun _=>rfl) gE) <| hop 3 (fun _=>Q1b (ob:=8) (kt:=143) (ke:=eTjoint_place) (enc:=eI) (e:=qTjoint_place) (l:=s16.2) (n:=(Tjoint_place.mk s16.1 a19)) (z:=0) kr (fun _ _=>by kernel_rfl) kr (fun _=>rfl) gE kr) <| hop 1 (fun _=>Q1k (ob:=8) (ke:=eTjoint_place) (enc:=eI) (e:=qTjoint_place) (l:=s16.2) (n:=(Tjoint_place.mk s16.1 a19)) (v:=zw (((kget qTjoint_place s16.2 (Tjoint_place.mk s16.1 a19)).getD 0)+x14)) (w:=(kget qTjoint_place s16.2 (Tjoint_place.mk s16.1 a19)).getD 0) kr kr gE kr) <| htz 0 (wk_gcK (live:=[6,8,21,22,23]) (keep:=[11]) 8 eTjoint_place eI (kput qTjoint_place s16.2 (Tjoint_place.mk s16.1 a19) (zw (((kget qTjoint_place s16.2 (Tjoint_place.mk s16.1 a19)).getD 0)+x14))) (fun f a=>rfl) (fun f a=>rfl) kr kr)
     ·refine hop 6 (fun _=>Q1b (ob:=8) (kt:=143) (ke:=eTjoint_place) (enc:=eI) (e:=qTjoint_place) (l:=s16.2) (n:=(Tjoint_place.mk s16.1 a19)) (z:=0) kr (fun _ _=>by kernel_rfl) kr (fun _=>rfl) gE kr) <| hop 0 (fun _=>Q0m (ob:=8) (kt:=143) (ke:=eTjoint_place) (enc:=eI) (e:=qTjoint_place) (l:=s16.2) (n:=(Tjoint_place.mk s16.1 a19)) (z:=0) (w:=(kget qTjoint_place s16.2 (Tjoint_place.mk s16.1 a19)).getD 0) kr (fun _ _=>by kernel_rfl) kr (fun _=>rfl) (by simp [qTjoint_place]) gE) <| hop 2 (fun _=>Q1k (ob:=8) (ke:=eTjoint_place) (enc:=eI) (e:=qTjoint_place) (l:=s16.2) (n:=(Tjoint_place.mk s16.1 a19)) (v:=zw (((kget qTjoint_place s16.2 (Tjoint_place.mk s16.1 a19)).getD 0)+x14)) (w:=(kget qTjoint_place s16.2 (Tjoint_place.mk s16.1 a19)).getD 0) kr kr gE kr) <| htz 0 (wk_gcK (live:=[6,8,21,22,23]) (keep:=[11]) 8 eTjoint_place eI (kput qTjoint_place s16.2 (Tjoint_place.mk s16.1 a19) (zw (((kget qTjoint_place s16.2 (Tjoint_place.mk s16.1 a19)).getD 0)+x14))) (fun f a=>rfl) (fun f a=>rfl) kr kr)
     refine hnx 2 (wk_gcK (live:=[6,8,21,22,23]) (keep:=[11]) 8 eTjoint_place eI (kput qTjoint_place s16.2 (Tjoint_place.mk s16.1 a19) (zw (((kget qTjoint_place s16.2 (Tjoint_place.mk s16.1 a19)).getD 0)+x14))) (fun f a=>rfl) (fun f a=>rfl) kr kr)
    refine hdx 1 (wk_gcK (live:=[]) (keep:=[]) 8 eTjoint_place eI s16.2 (fun f a=>rfl) (fun f a=>rfl) kr kr)
   refine hlp 7 (fun s23=>⟨Qhp++[(4,.ref 10 0 s23.2.length),(5,vI s9.1),(6,vI s23.1)],(Qa5 (oX true true 1 (vI (zw (s9.2.1+x14)))) p0 p1 x1)++[Vd eTjoint_place eI x22,Qfx,oR true 1 eI s23.2],61⟩) (fun v=>(.exit 2,⟨Qhp++[(4,.ref 10 0 v.2.length),(5,vI s9.1),(6,vI v.1)],(Qa5 (oX true true 1 (vI (zw (s9.2.1+x14)))) p0 p1 x1)++[Vd eTjoint_place eI x22,Qfx,oR true 1 eI v.2],61⟩)) (wk_gcK (live:=[0,1,2,4,5,6]) (keep:=[10]) 8 eTjoint_place eI x22 (fun f a=>rfl) (fun f a=>rfl) kr kr) (fun s23=>?_) fun x34=>?_
   ·refine hbr 4 [32,33] (?_) ?_
    ·refine hbd fun a26 q27=>hop 2 (fun _=>Qy (enc:=eI) (l:=s23.2) (n:=s23.1) (w:=1) (ob:=10) (ro:=false) (nr:=true) (fl:=true) (a:=a26) kr kr gE q27) <| hop 0 (fun _=>Z3 (enc:=eI) (l:=s23.2) (n:=s23.1) (w:=1) (ob:=10) (c:=0) (bx:=false) (ro:=false) (nr:=true) (fl:=true) (a:=a26) kr kr q27 gE) <| hbd fun a28 q29=>hop 4 (fun _=>Qp (enc:=eTapi_Node) (l:=x1.1.Net.Nodes) (n:=s23.1) (fl:=false) (w:=3) (a:=a28) kr kr gE q29) <| hbr 5 [46,47] (?_) ?_
     ·refine hop 3 (fun _=>Qy (enc:=eI) (l:=s23.2) (n:=s23.1) (w:=1) (ob:=10) (ro:=false) (nr:=true) (fl:=true) (a:=a26) kr kr gE q27) <| hop 0 (fun _=>Zf (enc:=eI) (l:=s23.2) (n:=s23.1) (ob:=10) (w:=1) (bx:=false) (nr:=true) (fl:=true) (c:=0) (a:=a26) (a':=0) (v:=vI 0) false kr kr q27 kr kr kr gE kr) <| hkl 0 [4,34,48] (ls s23.2 (zt s23.1) 0) <| hnx 3 (wk_gcK (live:=[0,1,2,4,5,6]) (keep:=[10]) 8 eTjoint_place eI x22 (fun f a=>rfl) (fun f a=>rfl) kr kr)
     refine hdx 1 (wk_gcK (live:=[0,1,2,4,5,6]) (keep:=[10]) 8 eTjoint_place eI x22 (fun f a=>rfl) (fun f a=>rfl) kr kr)
    refine hdx 15 (wk_gcK (live:=[0,1,2,4,5,6]) (keep:=[10]) 8 eTjoint_place eI x22 (fun f a=>rfl) (fun f a=>rfl) kr kr)
   refine hbr 2 [54] (hdx 1 (wk_gcK (live:=[]) (keep:=[]) 8 eTjoint_place eI x22 (fun f a=>rfl) (fun f a=>rfl) kr kr)) <| ?_
   refine hbd fun a37 q38=>hop 3 (fun _=>Qy (enc:=eI) (l:=x34.2) (n:=x34.1) (w:=1) (ob:=10) (ro:=false) (nr:=true) (fl:=true) (a:=a37) kr kr gE q38) <| hop 0 (fun _=>Z3 (enc:=eI) (l:=x34.2) (n:=x34.1) (w:=1) (ob:=10) (c:=0) (bx:=false) (ro:=false) (nr:=true) (fl:=true) (a:=a37) kr kr q38 gE) <| hop 1 (fun _=>Qy (enc:=eI) (l:=x34.2) (n:=x34.1) (w:=1) (ob:=10) (ro:=false) (nr:=true) (fl:=true) (a:=a37) kr kr gE q38) <| hop 0 (fun _=>Zf (enc:=eI) (l:=x34.2) (n:=x34.1) (ob:=10) (w:=1) (bx:=false) (nr:=true) (fl:=true) (c:=0) (a:=a37) (a':=zw (a37+1)) (v:=vI (zw (a37+1))) false kr kr q38 kr kr kr gE kr) <| hkl 0 [4,55] (ls x34.2 (zt x34.1) (zw (a37+1))) <| hnx 3 (wk_gcK (live:=[0,1,2,4,5]) (keep:=[10]) 8 eTjoint_place eI x22 (fun f a=>rfl) (fun f a=>rfl) kr kr)
  refine hlp 15 (fun s40=>⟨Qhp++[(4,.ref 10 0 s40.2.length),(5,vI s9.1),(6,vI s40.1)],(Qa5 (oX true true 1 (vI s9.2.1)) p0 p1 x1)++[Vd eTjoint_place eI s9.2.2.1,Qfx,oR true 1 eI s40.2],61⟩) (fun v=>(.exit 2,⟨Qhp++[(4,.ref 10 0 v.2.length),(5,vI s9.1),(6,vI v.1)],(Qa5 (oX true true 1 (vI s9.2.1)) p0 p1 x1)++[Vd eTjoint_place eI s9.2.2.1,Qfx,oR true 1 eI v.2],61⟩)) (wk_gcK (live:=[0,1,2,4,5,6]) (keep:=[10]) 8 eTjoint_place eI s9.2.2.1 (fun f a=>rfl) (fun f a=>rfl) kr kr) (fun s40=>?_) fun x51=>?_
  ·refine hbr 4 [32,33] (?_) ?_
   ·refine hbd fun a43 q44=>hop 2 (fun _=>Qy (enc:=eI) (l:=s40.2) (n:=s40.1) (w:=1) (ob:=10) (ro:=false) (nr:=true) (fl:=true) (a:=a43) kr kr gE q44) <| hop 0 (fun _=>Z3 (enc:=eI) (l:=s40.2) (n:=s40.1) (w:=1) (ob:=10) (c:=0) (bx:=false) (ro:=false) (nr:=true) (fl:=true) (a:=a43) kr kr q44 gE) <| hbd fun a45 q46=>hop 4 (fun _=>Qp (enc:=eTapi_Node) (l:=x1.1.Net.Nodes) (n:=s40.1) (fl:=false) (w:=3) (a:=a45) kr kr gE q46) <| hbr 5 [46,47] (?_) ?_
    ·refine hop 3 (fun _=>Qy (enc:=eI) (l:=s40.2) (n:=s40.1) (w:=1) (ob:=10) (ro:=false) (nr:=true) (fl:=true) (a:=a43) kr kr gE q44) <| hop 0 (fun _=>Zf (enc:=eI) (l:=s40.2) (n:=s40.1) (ob:=10) (w:=1) (bx:=false) (nr:=true) (fl:=true) (c:=0) (a:=a43) (a':=0) (v:=vI 0) false kr kr q44 kr kr kr gE kr) <| hkl 0 [4,34,48] (ls s40.2 (zt s40.1) 0) <| hnx 3 (wk_gcK (live:=[0,1,2,4,5,6]) (keep:=[10]) 8 eTjoint_place eI s9.2.2.1 (fun f a=>rfl) (fun f a=>rfl) kr kr)
    refine hdx 1 (wk_gcK (live:=[0,1,2,4,5,6]) (keep:=[10]) 8 eTjoint_place eI s9.2.2.1 (fun f a=>rfl) (fun f a=>rfl) kr kr)
   refine hdx 15 (wk_gcK (live:=[0,1,2,4,5,6]) (keep:=[10]) 8 eTjoint_place eI s9.2.2.1 (fun f a=>rfl) (fun f a=>rfl) kr kr)
  refine hbr 2 [54] (hdx 1 (wk_gcK (live:=[]) (keep:=[]) 8 eTjoint_place eI s9.2.2.1 (fun f a=>rfl) (fun f a=>rfl) kr kr)) <| ?_
  refine hbd fun a54 q55=>hop 3 (fun _=>Qy (enc:=eI) (l:=x51.2) (n:=x51.1) (w:=1) (ob:=10) (ro:=false) (nr:=true) (fl:=true) (a:=a54) kr kr gE q55) <| hop 0 (fun _=>Z3 (enc:=eI) (l:=x51.2) (n:=x51.1) (w:=1) (ob:=10) (c:=0) (bx:=false) (ro:=false) (nr:=true) (fl:=true) (a:=a54) kr kr q55 gE) <| hop 1 (fun _=>Qy (enc:=eI) (l:=x51.2) (n:=x51.1) (w:=1) (ob:=10) (ro:=false) (nr:=true) (fl:=true) (a:=a54) kr kr gE q55) <| hop 0 (fun _=>Zf (enc:=eI) (l:=x51.2) (n:=x51.1) (ob:=10) (w:=1) (bx:=false) (nr:=true) (fl:=true) (c:=0) (a:=a54) (a':=zw (a54+1)) (v:=vI (zw (a54+1))) false kr kr q55 kr kr kr gE kr) <| hkl 0 [4,55] (ls x51.2 (zt x51.1) (zw (a54+1))) <| hnx 3 (wk_gcK (live:=[0,1,2,4,5]) (keep:=[10]) 8 eTjoint_place eI s9.2.2.1 (fun f a=>rfl) (fun f a=>rfl) kr kr)
 refine hbr 2 [40] (hwk 3 (wl [4,5] []) <| hwk 12 (wl [6,7] []) <| hwk 0 (Zj 6 2 true true gE) <| hrt 1) <| ?_
 refine hwk 4 (wk_gcK (live:=[4,5]) (keep:=[3,4,5,8]) 8 eTjoint_place eI x58.2 (fun f a=>rfl) (fun f a=>rfl) kr gE) <| hil 11 Try.func86 <| hbd fun a61 q62=>hop 6 (fun _=>Qp (enc:=eTapi_Node) (l:=x1.1.Net.Nodes) (n:=p2) (fl:=false) (w:=3) (a:=a61) kr kr gE q62) <| hoh 2 (fun _ _ h k=>mkL (enc:=eTapi_Q) (z:=((Qb.mk 0 0):Qb)) (z0:=.agg [vI 0,vI 0]) (n:=a61.Card) (m:=a61.Card) (w:=2) (bytes:=16) [] true kr kr gE kr h k) <| hlp 4 (fun s63=>⟨[(0,vI p2),(2,.ptr 4 0 0),(3,.ptr 5 0 0),(7,.ref 7 0 s63.2.length),(20,vI (((List.replicate (zt a61.Card) ((Qb.mk 0 0):Qb)).length):Int)),(21,vI s63.1)],(l59_48 p0 p1 x1 x58)++[oR true 2 eTapi_Q s63.2],43⟩) (fun x=>match x with | .inl v=>(.ret,⟨[(5,.nils),(6,vI v)],(l59_48 p0 p1 x1 x58),43⟩) | .inr v=>(.exit 0,⟨[(7,.ref 7 0 v.length)],(l59_48 p0 p1 x1 x58)++[oR true 2 eTapi_Q v],43⟩)) (wk_gcK (live:=[0,2,3,7,20,21]) (keep:=[7]) 6 eTjoint_place eI x58.2 (fun f a=>rfl) (fun f a=>rfl) kr kr) (fun s63=>?_) (hsm (fun x74=>?_) (fun x75=>?_))
 ·refine hbr 1 [22] (?_) ?_
  ·refine hop 8 (fun _=>Qti (ob:=6) (kt:=143) (c:=false) (ke:=eTjoint_place) (enc:=eI) (e:=qTjoint_place) (l:=x58.2) (n:=(Tjoint_place.mk p2 s63.1)) (z:=0) kr (fun _ _=>by kernel_rfl) kr (fun _=>rfl) gE) <| hcl 1 [] (g_frac_Make_ok ((kget qTjoint_place x58.2 (Tjoint_place.mk p2 s63.1)).getD 0) x58.1) fun x66 _=>hbr 8 [35] (hdx 4 (wk_gcK (live:=[5,6]) (keep:=[]) 6 eTjoint_place eI x58.2 (fun f a=>rfl) (fun f a=>rfl) kr kr)) <| ?_
   refine hbd fun a70 q71=>hop 4 (fun _=>Qy (enc:=eTapi_Q) (l:=s63.2) (n:=s63.1) (w:=2) (ob:=7) (ro:=false) (nr:=true) (fl:=true) (a:=a70) kr kr gE q71) <| hop 0 (fun _=>Zf (enc:=eTapi_Q) (l:=s63.2) (n:=s63.1) (ob:=7) (w:=2) (bx:=false) (nr:=true) (fl:=true) (c:=0) (a:=a70) (a':=x66.1) (v:=.agg [vI x66.1.N,vI x66.1.D]) false kr kr q71 kr kr kr gE kr) <| hkl 0 [7,37] (ls s63.2 (zt s63.1) x66.1) <| hnx 2 (wk_gcK (live:=[0,2,3,7,20,21]) (keep:=[7]) 6 eTjoint_place eI x58.2 (fun f a=>rfl) (fun f a=>rfl) kr kr)
  refine hdx 1 (wk_gcK (live:=[7]) (keep:=[7]) 6 eTjoint_place eI x58.2 (fun f a=>rfl) (fun f a=>rfl) kr kr)
 ·refine hwk 4 (wl [6,7] []) <| hwk 0 (Zj 6 2 true true gE) <| hrt 1
 refine hwk 3 (wk_gcK (live:=[5,6]) (keep:=[7]) 6 eTjoint_place eI x58.2 (fun f a=>rfl) (fun f a=>rfl) kr gE) <| hrt 6
noncomputable abbrev Qvl (a0:AObj) (x5:Qd) (x7:Q0) (x9:(Qm × Int)):List AObj:=[oX false false 4 (.agg [vI x5.Grain,vI x5.Count,vI x5.One,.ref 4 0 x5.Rows.length]),oX true true 3 (.agg [vI x7.Zeros,vI x7.Ones,vI x7.Child]),oX false false 2 (.agg [vI x9.1.Grain,.ref 5 0 x9.1.Nodes.length]),a0,.row false true true false 1 (List.map z1 x5.Rows),oR false 3 eTapi_Node x9.1.Nodes]
theorem g_law14_LiftGround_ok (p0:Qq) (p1:Q0) (p2:Int):Ct Try.prog 9 [.agg [.int .u8 p0.Grain,.int .u8 p0.Count,.int .u8 p0.One,.int .u8 p0.Card,eL true (AV.int .u8) p0.L],.agg [vI p1.Zeros,vI p1.Ones,vI p1.Child],.int .u8 p2] (J0 p0 p1 p2) (fun x=>vB x) (fun x=>[]):=by
 refine hfn [] Try.func9 <| hop 0 (fun _=>sgL false [] [] false gE) <| hcl 2 [] (g_law14_wakes_ok ) fun x1 _=>hbr 1 [28] (hrt 3) <| ?_
 refine hcl 7 [] (Qfv (Qq.mk p0.Grain (Int.tmod p0.Count 5) p0.One p0.Card p0.L)) fun x5 _=>hop 0 (fun _=>sgL false [] [] false gE) <| hcl 3 [F z1 x5.Rows] (g_law14_Known_Of_ok p1 x5) fun x7 _=>hcl 3 [F z1 x5.Rows] (Qdw x5) fun x9 _=>hop 3 (fun _=>sgL false [] [] false gE) <| hbr 5 [44,45] (hrt 11) <| ?_
 refine hbr 8 [52,53] (hrt 3) <| ?_
 refine hoh 4 (fun _ _ h k=>mkL (enc:=eI) (z:=(0:Int)) (z0:=vI 0) (n:=zw (x5.Count+1)) (m:=zw (x5.Count+1)) (w:=1) (bytes:=8) [] true kr kr gE kr h k) <| hlp 4 (fun s15=>⟨[(2,.int .u8 p2),(7,.ptr 0 0 0),(8,.ptr 1 0 0),(9,.ptr 2 0 0),(11,.ref 3 0 s15.2.length),(59,vI x5.Count),(60,vI s15.1)],(Qvl (oR true 1 eI s15.2) x5 x7 x9),230⟩) (fun v=>(.exit 0,⟨[(2,.int .u8 p2),(7,.ptr 0 0 0),(8,.ptr 1 0 0),(9,.ptr 2 0 0),(11,.ref 3 0 v.length)],(Qvl (oR true 1 eI v) x5 x7 x9),230⟩)) (wz [3,4,6,7,2,5]) (fun s15=>?_) fun x38=>?_
 ·refine hbr 1 [61] (?_) ?_
  ·refine hoh 9 (fun _ _ h k=>Qdv (k:=.i64) (a:=zw (s15.1+(zw (p2)))) (b:=x5.Count) kr gE h k) <| hbr 6 [77,73] (?_) ?_
   ·refine hbd fun a20 q21=>hop 3 (fun _=>Qy (enc:=eI) (l:=s15.2) (n:=Int.tmod (zw (s15.1+(zw (p2)))) x5.Count) (w:=1) (ob:=3) (ro:=false) (nr:=true) (fl:=true) (a:=a20) kr kr gE q21) <| hbd fun a22 q23=>hop 0 (fun _=>Zf (enc:=eI) (l:=s15.2) (n:=(Int.tmod (zw (s15.1+(zw (p2)))) x5.Count)) (ob:=3) (w:=1) (bx:=false) (nr:=true) (fl:=true) (c:=0) (a:=a22) (a':=0) (v:=vI 0) false kr kr q23 kr kr kr gE kr) <| hkl 0 [11,78] (ls s15.2 (zt (Int.tmod (zw (s15.1+(zw (p2)))) x5.Count)) 0) <| hnx 2 (wz [0,1,2,3,4,5])
   refine hbr 9 [88,81] (?_) ?_
   ·refine hbd fun a27 q28=>hop 3 (fun _=>Qy (enc:=eI) (l:=s15.2) (n:=Int.tmod (zw (s15.1+(zw (p2)))) x5.Count) (w:=1) (ob:=3) (ro:=false) (nr:=true) (fl:=true) (a:=a27) kr kr gE q28) <| hbd fun a29 q30=>hop 0 (fun _=>Zf (enc:=eI) (l:=s15.2) (n:=(Int.tmod (zw (s15.1+(zw (p2)))) x5.Count)) (ob:=3) (w:=1) (bx:=false) (nr:=true) (fl:=true) (c:=0) (a:=a29) (a':=1) (v:=vI 1) false kr kr q30 kr kr kr gE kr) <| hkl 0 [11,89] (ls s15.2 (zt (Int.tmod (zw (s15.1+(zw (p2)))) x5.Count)) 1) <| hnx 2 (wz [0,1,2,3,4,5])
   refine hbd fun a32 q33=>hop 3 (fun _=>Qy (enc:=eI) (l:=s15.2) (n:=Int.tmod (zw (s15.1+(zw (p2)))) x5.Count) (w:=1) (ob:=3) (ro:=false) (nr:=true) (fl:=true) (a:=a32) kr kr gE q33) <| hbd fun a34 q35=>hop 0 (fun _=>Zf (enc:=eI) (l:=s15.2) (n:=(Int.tmod (zw (s15.1+(zw (p2)))) x5.Count)) (ob:=3) (w:=1) (bx:=false) (nr:=true) (fl:=true) (c:=0) (a:=a34) (a':=-1) (v:=vI (-1)) false kr kr q35 kr kr kr gE kr) <| hkl 0 [11,70] (ls s15.2 (zt (Int.tmod (zw (s15.1+(zw (p2)))) x5.Count)) (-1)) <| hnx 2 (wz [0,1,2,3,4,5])
  refine hdx 1 (wz [0,1,2,3,4,5])
 refine hbd fun a39 q40=>hop 5 (fun _=>Qy (enc:=eI) (l:=x38) (n:=x5.Count) (w:=1) (ob:=3) (ro:=false) (nr:=true) (fl:=true) (a:=a39) kr kr gE q40) <| hop 0 (fun _=>Zf (enc:=eI) (l:=x38) (n:=x5.Count) (ob:=3) (w:=1) (bx:=false) (nr:=true) (fl:=true) (c:=0) (a:=a39) (a':=x7.Child) (v:=vI x7.Child) false kr kr q40 kr kr kr gE kr) <| hkl 0 [11,93] (ls x38 (zt x5.Count) x7.Child) <| hcl 7 [F z1 x5.Rows] (g_lift_Prob_ok x5 x7.Zeros x7.Ones x7.Child) fun x41 _=>hcl 8 [F eTapi_Node x9.1.Nodes,F eI (List.set x38 (zt x5.Count) x7.Child)] (Qlc x9.1 (List.set x38 (zt x5.Count) x7.Child)) fun x43 _=>hbr 9 [117,118] (hrt 11) <| ?_
 refine hbr 4 [120,121,122] (hrt 7) <| ?_
 refine hbr 4 [125,126] (hrt 3) <| ?_
 refine hcl 8 [F z1 x5.Rows] (Qf4 x5 x7.Zeros x7.Ones x7.Child) fun x51 _=>hbr 14 [145] (hrt 5) <| ?_
 refine hoh 11 (fun _ _ h k=>Qdv (k:=.i64) (a:=zw ((zw (x7.Zeros+x7.Ones))+(zw (p2)))) (b:=x5.Count) kr gE h k) <| hcl 4 [F eTapi_Node x9.1.Nodes,F eI (List.set x38 (zt x5.Count) x7.Child)] (g_joint_Posterior_ok x9.1 (List.set x38 (zt x5.Count) x7.Child) (Int.tmod (zw ((zw (x7.Zeros+x7.Ones))+(zw (p2)))) x5.Count)) fun x55 _=>hbr 10 [168,169] (hrt 18) <| ?_
 refine hbr 3 [171,172] (?_) ?_
 ·refine hbr 4 [175,176] (hrt 11) <| ?_
  refine hbd fun a63 q64=>hop 2 (fun _=>Qy (enc:=eTapi_Q) (l:=x55.1) (n:=1) (w:=2) (ob:=9) (ro:=false) (nr:=true) (fl:=true) (a:=a63) kr kr gE q64) <| hop 0 (fun _=>Z3 (enc:=eTapi_Q) (l:=x55.1) (n:=1) (w:=2) (ob:=9) (c:=0) (bx:=false) (ro:=false) (nr:=true) (fl:=true) (a:=a63) kr kr q64 gE) <| hbr 4 [181,182,183,184] (hrt 3) <| ?_
  refine hop 4 (fun _=>Qy (enc:=eI) (l:=(List.set x38 (zt x5.Count) x7.Child)) (n:=x5.Count) (w:=1) (ob:=3) (ro:=false) (nr:=true) (fl:=true) (a:=x7.Child) kr kr gE (Qjc x7.Child q40)) <| hop 0 (fun _=>Zf (enc:=eI) (l:=(List.set x38 (zt x5.Count) x7.Child)) (n:=x5.Count) (ob:=3) (w:=1) (bx:=false) (nr:=true) (fl:=true) (c:=0) (a:=x7.Child) (a':=-1) (v:=vI (-1)) false kr kr (Qjc x7.Child q40) kr kr kr gE kr) <| hkl 0 [11,93,112,161,185] (ls (List.set x38 (zt x5.Count) x7.Child) (zt x5.Count) (-1)) <| hcl 5 [F z1 x5.Rows] (g_lift_Child_ok x5 x7.Zeros x7.Ones) fun x67 _=>hcl 9 [F eTapi_Node x9.1.Nodes,F eI (List.set (List.set x38 (zt x5.Count) x7.Child) (zt x5.Count) (-1))] (g_joint_Posterior_ok x9.1 (List.set (List.set x38 (zt x5.Count) x7.Child) (zt x5.Count) (-1)) x5.Count) fun x69 _=>hbr 9 [208,209] (?_) ?_
  ·refine hbr 3 [211,212] (hcl 15 [F eTapi_Q x67.1,F eTapi_Q x69.1] (g_slices_Equal_api_Q_api_Q_ok x67.1 x69.1) fun x75 _=>hrt 3) <| ?_
   refine hbd fun a77 q78=>hop 6 (fun _=>Qy (enc:=eTapi_Node) (l:=x9.1.Nodes) (n:=x5.Count) (w:=3) (ob:=5) (ro:=false) (nr:=true) (fl:=false) (a:=a77) kr kr gE q78) <| hop 1 (fun _=>Z3 (enc:=eTapi_Node) (l:=x9.1.Nodes) (n:=x5.Count) (w:=3) (ob:=5) (c:=0) (bx:=false) (ro:=false) (nr:=true) (fl:=false) (a:=a77) kr kr q78 gE) <| hbr 4 [222,223,224,225] (hcl 2 [F eTapi_Q x67.1,F eTapi_Q x69.1] (g_slices_Equal_api_Q_api_Q_ok x67.1 x69.1) fun x81 _=>hrt 3) <| ?_
   refine hrt 6
  refine hrt 22
 refine hop 16 (fun _=>Qy (enc:=eI) (l:=(List.set x38 (zt x5.Count) x7.Child)) (n:=x5.Count) (w:=1) (ob:=3) (ro:=false) (nr:=true) (fl:=true) (a:=x7.Child) kr kr gE (Qjc x7.Child q40)) <| hop 0 (fun _=>Zf (enc:=eI) (l:=(List.set x38 (zt x5.Count) x7.Child)) (n:=x5.Count) (ob:=3) (w:=1) (bx:=false) (nr:=true) (fl:=true) (c:=0) (a:=x7.Child) (a':=-1) (v:=vI (-1)) false kr kr (Qjc x7.Child q40) kr kr kr gE kr) <| hkl 0 [11,93,112,161,185] (ls (List.set x38 (zt x5.Count) x7.Child) (zt x5.Count) (-1)) <| hcl 5 [F z1 x5.Rows] (g_lift_Child_ok x5 x7.Zeros x7.Ones) fun x84 _=>hcl 9 [F eTapi_Node x9.1.Nodes,F eI (List.set (List.set x38 (zt x5.Count) x7.Child) (zt x5.Count) (-1))] (g_joint_Posterior_ok x9.1 (List.set (List.set x38 (zt x5.Count) x7.Child) (zt x5.Count) (-1)) x5.Count) fun x86 _=>hbr 9 [208,209] (?_) ?_
 ·refine hbr 3 [211,212] (hcl 15 [F eTapi_Q x84.1,F eTapi_Q x86.1] (g_slices_Equal_api_Q_api_Q_ok x84.1 x86.1) fun x92 _=>hrt 3) <| ?_
  refine hbd fun a94 q95=>hop 6 (fun _=>Qy (enc:=eTapi_Node) (l:=x9.1.Nodes) (n:=x5.Count) (w:=3) (ob:=5) (ro:=false) (nr:=true) (fl:=false) (a:=a94) kr kr gE q95) <| hop 1 (fun _=>Z3 (enc:=eTapi_Node) (l:=x9.1.Nodes) (n:=x5.Count) (w:=3) (ob:=5) (c:=0) (bx:=false) (ro:=false) (nr:=true) (fl:=false) (a:=a94) kr kr q95 gE) <| hbr 4 [222,223,224,225] (hcl 2 [F eTapi_Q x84.1,F eTapi_Q x86.1] (g_slices_Equal_api_Q_api_Q_ok x84.1 x86.1) fun x98 _=>hrt 3) <| ?_
  refine hrt 6
 refine hrt 22
end
end Go.Ab
namespace Go.Ab
open Go
theorem one5 {cs:List AV} (h:WT (.int .u8) cs):∃a:Int,cs=[(AV.int .u8) a]∧(Lit.int .u8 a).wf=true:=by
 obtain ⟨n,rfl,w⟩:=h
 exact ⟨n,rfl,w⟩
theorem el5 {x:AV} (h:WT (.int .u8) x.flat ∧ (if false then x=.agg x.flat else x.cell=true)):∃a:Int,x=(AV.int .u8) a∧(Lit.int .u8 a).wf=true:=by
 obtain ⟨a,h1,h2⟩:=one5 h.1
 rw [Qux h.2] at h1
 exact ⟨a,(List.cons.inj h1).1,h2⟩
theorem Q19 {cs:List AV} (h:WT (.slice true false 1 (.int .u8)) cs):∃a:(List Int),cs=[(eL true (AV.int .u8)) a]∧(a.length≤maxLen∧∀y0∈a,(Lit.int .u8 y0).wf=true):=by
 obtain ⟨xs,rfl,hl,hx⟩:=h
 obtain ⟨l,rfl,hr⟩:=Qw1 (enc:=(AV.int .u8)) (R:=fun a=>(Lit.int .u8 a).wf=true) (fun x hm=>el5 (hx x hm))
 exact ⟨l,rfl,by simpa using hl,hr⟩
def Yh (x:Qq):Prop:=((Lit.int .u8 x.Grain).wf=true)∧((Lit.int .u8 x.Count).wf=true)∧((Lit.int .u8 x.One).wf=true)∧((Lit.int .u8 x.Card).wf=true)∧((x.L.length≤maxLen∧∀y0∈x.L,(Lit.int .u8 y0).wf=true))
theorem rdTharuspexref14_Draft {cs:List AV} (h:WT (.cat (.int .u8) (.cat (.int .u8) (.cat (.int .u8) (.cat (.int .u8) (.cat (.slice true false 1 (.int .u8)) .unit))))) cs):∃x:Qq,AV.agg cs=eTharuspexref14_Draft x∧Yh x:=by
 obtain ⟨_,_,rfl,a0,r0⟩:=h
 obtain ⟨v0,e0,w0⟩:=one5 a0
 cases e0
 obtain ⟨_,_,rfl,a1,r1⟩:=r0
 obtain ⟨v1,e1,w1⟩:=one5 a1
 cases e1
 obtain ⟨_,_,rfl,a2,r2⟩:=r1
 obtain ⟨v2,e2,w2⟩:=one5 a2
 cases e2
 obtain ⟨_,_,rfl,a3,r3⟩:=r2
 obtain ⟨v3,e3,w3⟩:=one5 a3
 cases e3
 obtain ⟨_,_,rfl,a4,r4⟩:=r3
 obtain ⟨v4,e4,w4⟩:=Q19 a4
 cases e4
 cases r4
 exact ⟨⟨v0,v1,v2,v3,v4⟩,rfl,⟨w0,w1,w2,w3,w4⟩⟩
theorem Qwt {cs:List AV} (h:WT (.int .i64) cs):∃a:Int,cs=[eI a]∧(Lit.int .i64 a).wf=true:=by
 obtain ⟨n,rfl,w⟩:=h
 exact ⟨n,rfl,w⟩
def Kq (x:Q0):Prop:=((Lit.int .i64 x.Zeros).wf=true)∧((Lit.int .i64 x.Ones).wf=true)∧((Lit.int .i64 x.Child).wf=true)
theorem rdTharuspexlaw14_Known {cs:List AV} (h:WT (.cat (.int .i64) (.cat (.int .i64) (.cat (.int .i64) .unit))) cs):∃x:Q0,AV.agg cs=eTharuspexlaw14_Known x∧Kq x:=by
 obtain ⟨_,_,rfl,a0,r0⟩:=h
 obtain ⟨v0,e0,w0⟩:=Qwt a0
 cases e0
 obtain ⟨_,_,rfl,a1,r1⟩:=r0
 obtain ⟨v1,e1,w1⟩:=Qwt a1
 cases e1
 obtain ⟨_,_,rfl,a2,r2⟩:=r1
 obtain ⟨v2,e2,w2⟩:=Qwt a2
 cases e2
 cases r2
 exact ⟨⟨v0,v1,v2⟩,rfl,⟨w0,w1,w2⟩⟩
end Go.Ab
namespace Go.Ab
open Go
theorem Y2 {σ ρ:Type} {body:σ→Option (Qk σ ρ)} (I:σ→Prop) (m:σ→Nat) (Q:ρ→Prop)
  (step:∀s,I s→(∃s',body s=some (.next s')∧I s'∧m s' < m s)∨(∃r,body s=some (.done r)∧Q r)) :
  ∀(n:Nat) (s:σ),I s→m s < n→∃r,Qc n body s=some r∧Q r
 | 0,s,_,h=>by omega
 | n+1,s,hI,h=>by
  unfold Qc
  rcases step s hI with ⟨s',h1,h2,h3⟩ | ⟨r,h1,h2⟩
  ·rw [h1]
   exact Y2 I m Q step n s' h2 (by omega)
  ·rw [h1]
   exact ⟨r,rfl,h2⟩
theorem Qna {σ ρ:Type} {body:σ→Option (Qk σ ρ)} (I:σ→Prop) (m:σ→Nat) (r:ρ)
  (step:∀s,I s→(∃s',body s=some (.next s')∧I s'∧m s' < m s)∨body s=some (.done r)) (s:σ) (hI:I s) (hm:m s < 1152921504606846976):Qc fuel body s=some r:=by
 obtain ⟨r',h1,h2⟩:=Y2 I m (fun x=>x=r) (fun s hs=>(step s hs).imp id fun h=>⟨r,h,rfl⟩) fuel s hI hm
 rw [h1,h2]
theorem Vk {σ ρ:Type} {body:σ→Option (Qk σ ρ)} (I:σ→Prop) (m:σ→Nat) (Q:ρ→Prop)
  (step:∀s,I s→(∃s',body s=some (.next s')∧I s'∧m s' < m s)∨(∃r,body s=some (.done r)∧Q r)) (s:σ) (hI:I s) (hm:m s < 1152921504606846976):∃r,Qc fuel body s=some r∧Q r :=
 Y2 I m Q step fuel s hI hm
theorem Qpn {σ ρ:Type} {body:σ→Option (Qk σ ρ)} (f:Nat → σ) (n:Nat) (r:ρ) (step:∀k,k < n→body (f k)=some (.next (f (k+1)))) (done:body (f n)=some (.done r)) (hn:n < 1152921504606846976) :
  Qc fuel body (f 0)=some r:=by
 have key:∀(j N k:Nat),k+j=n→j < N→Qc N body (f k)=some r:=by
  intro j
  induction j with
  | zero =>
   intro N k hk hN
   obtain ⟨N,rfl⟩:∃M,N=M+1:=⟨N - 1,by omega⟩
   have:k=n:=by omega
   subst this
   simp [Qc,done]
  | succ j ih =>
   intro N k hk hN
   obtain ⟨N,rfl⟩:∃M,N=M+1:=⟨N - 1,by omega⟩
   simp only [Qc,step k (by omega)]
   exact ih N (k+1) (by omega) (by omega)
 exact key n fuel 0 (by omega) hn
theorem Xb {σ ρ:Type} {body:σ→Option (Qk σ ρ)} {s0:σ} (f:Nat → σ) (n:Nat) (r:ρ) (h0:f 0=s0) (step:∀k,k < n→body (f k)=some (.next (f (k+1)))) (done:body (f n)=some (.done r)) (hn:n < 1152921504606846976) :
  Qc fuel body s0=some r:=by rw [←h0]; exact Qpn f n r step done hn
theorem w64 {n:Int} (h:-9223372036854775808≤n∧n≤9223372036854775807):zw n=n:=by show IntKind.wrap .i64 n=n; rw [IntKind.wrap_i64]; omega
theorem Zx {α:Type} {l:List α} {k:Nat} (h:k < l.length):lkI l (k:Int)=some l[k]:=by
 unfold lkI
 rw [if_neg (by omega),Int.toNat_natCast,List.getElem?_eq_getElem h]
theorem Qge {a b:Int} (h:0≤a):Int.tdiv a b=a / b:=Int.tdiv_eq_ediv_of_nonneg h
theorem Xs {a b:Int} (h:0≤a):Int.tmod a b=a % b:=Int.tmod_eq_emod_of_nonneg h
def dgs (n:Nat):List Int:=if h:n=0 then [] else ((n % 10000:Nat):Int)::dgs (n / 10000)
termination_by n
decreasing_by omega
def Ql6:List Int→Nat
 | []=>0
 | x::l=>x.toNat + 10000*Ql6 l
def Qow (l:List Int):Prop:=∀x∈l,0≤x∧x < 10000
theorem Qf8:dgs 0=[]:=by rw [dgs]; simp
theorem Qmy {n:Nat} (h:n≠0):dgs n=((n % 10000:Nat):Int)::dgs (n / 10000):=by rw [dgs]; simp [h]
theorem Qwb (n:Nat):Ql6 (dgs n)=n:=by
 induction n using Nat.strongRecOn with
 | _ n ih =>
  by_cases h:n=0
  ·subst h; rw [Qf8]; rfl
  ·rw [Qmy h]
   simp only [Ql6]
   rw [ih (n / 10000) (by omega)]
   omega
theorem Qwn (n:Nat):Qow (dgs n):=by
 induction n using Nat.strongRecOn with
 | _ n ih =>
  by_cases h:n=0
  ·subst h; rw [Qf8]; intro x hx; cases hx
  ·rw [Qmy h]
   intro x hx
   rcases List.mem_cons.1 hx with rfl | hx
   ·omega
   ·exact ih (n / 10000) (by omega) x hx
theorem Qvx {x:Int} {l:List Int}:Qow (x::l)↔(0≤x∧x < 10000)∧Qow l:=by simp [Qow]
theorem Qzd {l:List Int} (h:Qow l):Ql6 l < 10000^l.length:=by
 induction l with
 | nil=>simp [Ql6]
 | cons x l ih =>
  rw [Qvx] at h
  have:=ih h.2
  simp only [Ql6,List.length_cons,Nat.pow_succ]
  omega
theorem K1 {n K:Nat} (h:n < 10000^K):(dgs n).length≤K:=by
 induction K generalizing n with
 | zero=>simp at h; subst h; rw [Qf8]; simp
 | succ K ih =>
  by_cases h0:n=0
  ·subst h0; rw [Qf8]; simp
  ·rw [Qmy h0]
   simp only [List.length_cons]
   have:=ih (n:=n / 10000) (by rw [Nat.pow_succ] at h; omega)
   omega
theorem Qo8 (n:Nat):n < 10000^(dgs n).length:=by
 have:=Qzd (Qwn n)
 rwa [Qwb] at this
end Go.Ab
namespace Go.Ab
open Go
set_option maxRecDepth 100000
set_option maxHeartbeats 400000
theorem Qdr {n:Nat} (h:n < 18446744073709551616):zv (n:Int)=(n:Int):=by
 simp [IntKind.wrap,IntKind.bits,IntKind.signed]; omega
theorem Qhm {a:Nat} (h:a < 18446744073709551616):(zb (a:Int)).toNat = a:=by
 show (BitVec.ofInt IntKind.u64.bits (a:Int)).toNat = a
 rw [BitVec.ofInt_natCast,BitVec.toNat_ofNat]
 exact Nat.mod_eq_of_lt h
theorem Qo9 {a k:Nat}:Int.fdiv (a:Int) ((2:Int)^k)=((a / 2^k:Nat):Int):=by
 rw [Int.fdiv_eq_ediv_of_nonneg _ (by exact_mod_cast Nat.zero_le (2^k))]
 simp
theorem Q13 {a k:Nat} (ha:a < 18446744073709551616) (hk:k < 64) :
  zv (zb (Int.fdiv (a:Int) (2^min (Int.toNat (k:Int)) (IntKind.bits .u64))) &&& zb 1).toNat = ((a.testBit k).toNat : Int):=by
 have hb:IntKind.bits .u64=64:=rfl
 have e0:min (Int.toNat (k:Int)) (IntKind.bits .u64)=k:=by rw [hb,Int.toNat_natCast]; omega
 rw [e0,Qo9]
 have h1:a / 2^k < 18446744073709551616:=Nat.lt_of_le_of_lt (Nat.div_le_self _ _) ha
 have e1:(zb ((a / 2^k:Nat):Int) &&& zb 1).toNat = (a / 2^k) % 2:=by
  rw [BitVec.toNat_and,Qhm h1,show (zb 1).toNat = 1 from rfl,Nat.and_one_is_mod]
 rw [e1,Qdr (by omega)]
 have e2:a.testBit k=((a / 2^k) % 2==1):=by rw [Nat.testBit_eq_decide_div_mod_eq]; rfl
 rw [e2]
 rcases Nat.mod_two_eq_zero_or_one (a / 2^k) with h | h <;> rw [h] <;> rfl
theorem Qbe {k:Nat} (h:k < 9223372036854775807):zw ((k:Int)+1)=((k+1:Nat):Int):=by rw [w64 (by omega)]; omega
theorem Qkk {τ ρ σ:Type} {n k0:Nat} (hk:k0≤n) (hn:n < 1152921504606846976) (mkS:Int→τ→σ) {body:σ→Option (Qk σ ρ)} (I:Nat → τ→Prop) (Q:ρ→Prop)
  (step:∀(k:Nat) (t:τ),k0≤k→k < n→I k t→(∃t',body (mkS (k:Int) t)=some (.next (mkS (zw ((k:Int)+1)) t'))∧I (k+1) t')∨(∃r,body (mkS (k:Int) t)=some (.done r)∧Q r))
  (done:∀t,I n t→∃r,body (mkS (n:Int) t)=some (.done r)∧Q r) (t0:τ) (h0:I k0 t0):∃r,Qc fuel body (mkS (k0:Int) t0)=some r∧Q r:=by
 have key:∀(j N k:Nat) (t:τ),k+j=n→k0≤k→j < N→I k t→∃r,Qc N body (mkS (k:Int) t)=some r∧Q r:=by
  intro j
  induction j with
  | zero =>
   intro N k t e hk hN hI
   obtain ⟨N,rfl⟩:∃M,N=M+1:=⟨N - 1,by omega⟩
   have:k=n:=by omega
   subst this
   obtain ⟨r,b1,b2⟩:=done t hI
   simp only [Qc,b1]
   exact ⟨r,rfl,b2⟩
  | succ j ih =>
   intro N k t e hk hN hI
   obtain ⟨N,rfl⟩:∃M,N=M+1:=⟨N - 1,by omega⟩
   rcases step k t hk (by omega) hI with ⟨t',b1,b2⟩ | ⟨r,b1,b2⟩
   ·rw [Qbe (by omega)] at b1
    simp only [Qc,b1]
    exact ih N (k+1) t' (by omega) (by omega) (by omega) b2
   ·simp only [Qc,b1]
    exact ⟨r,rfl,b2⟩
 exact key (n - k0) fuel k0 t0 (by omega) (Nat.le_refl _) (by show n - k0 < 1152921504606846976; omega) h0
theorem Vj {τ ρ σ:Type} {n k0:Nat} (hk:k0≤n) (hn:n < 1152921504606846976) (mkS:Int→τ→σ) {body:σ→Option (Qk σ ρ)} (T:Nat → τ) (r:ρ)
  (step:∀(k:Nat),k0≤k→k < n→body (mkS (k:Int) (T k))=some (.next (mkS (zw ((k:Int)+1)) (T (k+1)))))
  (done:body (mkS (n:Int) (T n))=some (.done r)):Qc fuel body (mkS (k0:Int) (T k0))=some r:=by
 obtain ⟨r',h1,h2⟩:=Qkk hk hn mkS (body:=body) (fun k t=>t=T k) (fun x=>x=r) (fun k t a b c=>.inl ⟨T (k+1),by rw [c]; exact step k a b,rfl⟩) (fun t h=>⟨r,by rw [h]; exact done,rfl⟩) (T k0) rfl
 rw [h1,h2]
theorem dlt {k n:Nat} (h:k < n):decide ((k:Int) < (n:Int))=true:=decide_eq_true (by omega)
theorem nlt (n:Nat):¬ (decide ((n:Int) < (n:Int))=true):=by simp
def nI (l:List Nat):List Int:=l.map fun (k:Nat)=>(k:Int)
theorem Qa8 (l:List Nat):(nI l).length=l.length:=by simp [nI]
theorem Qjb {l:List Nat} {k:Nat} (h:k < l.length):lkI (nI l) (k:Int)=some (l[k]:Int):=by rw [Zx (by rwa [Qa8])]; simp [nI]
end Go.Ab
namespace Go.Ab
open Go
set_option maxRecDepth 100000
set_option maxHeartbeats 400000
def Qf {α:Type} (n:Nat) (F:Nat → α):List α:=(List.range n).map F
theorem Qv {α:Type} {n:Nat} {F:Nat → α}:(Qf n F).length=n:=by simp [Qf]
theorem Zc {α:Type} {n:Nat} {F:Nat → α} {k:Nat} (h:k < n):lkI (Qf n F) (k:Int)=some (F k):=by
 rw [Zx (by rw [Qv]; exact h)]; simp [Qf]
theorem Qj {α:Type} {n:Nat} {F G:Nat → α} (h:∀k,k < n→F k=G k):Qf n F=Qf n G:=by
 unfold Qf
 apply List.map_congr_left
 intro t ht
 exact h t (by simpa using ht)
theorem Vv {α:Type} {n:Nat} {F:Nat → α} {k:Nat} {x:α}:(Qf n F).set k x=Qf n (fun s=>if s=k then x else F s):=by
 apply List.ext_getElem?
 intro s
 rw [List.getElem?_set]
 simp only [Qf,List.getElem?_map,List.length_map,List.length_range]
 by_cases e:k=s
 ·subst e
  rw [if_pos rfl]
  by_cases hk:k < n
  ·rw [if_pos hk,List.getElem?_range hk]; simp
  ·rw [if_neg hk,List.getElem?_eq_none (by simpa using hk)]; rfl
 ·rw [if_neg e]
  by_cases hs:s < n
  ·rw [List.getElem?_range hs]; simp only [Option.map_some]; rw [if_neg (Ne.symm e)]
  ·rw [List.getElem?_eq_none (by simpa using hs)]; rfl
theorem J7 {α:Type} (n:Nat) (x:α):List.replicate n x=Qf n (fun _=>x):=by
 apply List.ext_getElem?
 intro s
 rw [List.getElem?_replicate]
 by_cases hs:s < n
 ·rw [if_pos hs]; simp [Qf,List.getElem?_range hs]
 ·rw [if_neg hs,List.getElem?_eq_none (by rw [Qv]; omega)]
def Zo {α:Type} (w:Nat → α) (i:Nat) (x:α):Nat → α:=fun s=>if s=i then x else w s
theorem J5 {α:Type} {w:Nat → α} {i:Nat} {x:α}:Zo w i x i=x:=by simp [Zo]
theorem Qf1 {α:Type} {w:Nat → α} {i j:Nat} {x:α} (h:j≠i):Zo w i x j=w j:=by simp [Zo,h]
def Qz:Nat → (Nat → Int)→Int
 | 0,_=>0
 | n+1,f=>Qz n f+f n
theorem X1 {n:Nat} {f g:Nat → Int} (h:∀k,k < n→f k=g k):Qz n f=Qz n g:=by
 induction n with
 | zero=>rfl
 | succ n ih=>simp only [Qz]; rw [ih (fun k hk=>h k (by omega)),h n (by omega)]
theorem Qno {n:Nat}:Qz n (fun _=>0)=0:=by
 induction n with
 | zero=>rfl
 | succ n ih=>simp only [Qz,ih]; rfl
theorem Qfc {n:Nat} {f:Nat → Int} (h:∀k,k < n→0≤f k):0≤Qz n f:=by
 induction n with
 | zero=>exact Int.le_refl 0
 | succ n ih=>simp only [Qz]; have:=ih (fun k hk=>h k (by omega)); have:=h n (by omega); omega
theorem Qx2 {n k:Nat} {c:Int} (h:k < n):Qz n (fun x=>if k=x then c else 0)=c:=by
 induction n with
 | zero=>omega
 | succ n ih =>
  simp only [Qz]
  by_cases e:k=n
  ·subst e
   rw [if_pos rfl,X1 (g:=fun _=>0) (fun x hx=>if_neg (by omega)),Qno]; omega
  ·rw [if_neg e,ih (by omega)]; omega
theorem Qlj {a b:Nat} {f:Nat → Int}:Qz (a+b) f=Qz a f+Qz b (fun k=>f (a+k)):=by
 induction b with
 | zero=>simp [Qz]
 | succ b ih=>rw [←Nat.add_assoc]; simp only [Qz,ih]; omega
def Qh:Nat → (Nat → Nat)→Nat
 | 0,_=>1
 | n+1,f=>Qh n f*f n
theorem Qi0 {n K:Nat} {f:Nat → Nat} (h:∀k,k < n→f k≤K):Qh n f≤K^n:=by
 induction n with
 | zero=>simp [Qh]
 | succ n ih=>simp only [Qh,Nat.pow_succ]; exact Nat.mul_le_mul (ih fun k hk=>h k (by omega)) (h n (by omega))
structure NF where
 n:Nat
 g:Nat
 card:Nat → Nat
 par:Nat → List Nat
 W:Nat → Nat → Nat → Nat
def Y0 (f:Nat → Nat) (l:List Nat):Nat := l.foldl (fun r p=>r*f p) 1
def NF.rows (D:NF) (v:Nat):Nat := Y0 D.card (D.par v)
def NF.node (D:NF) (v:Nat):Qi:=⟨D.card v,(D.par v).map (fun (p:Nat)=>(p:Int)),Qf (D.rows v) fun r=>Qf (D.card v) fun x=>(D.W v r x:Int)⟩
def NF.net (D:NF):Qm:=⟨D.g,Qf D.n D.node⟩
def Qx (n:Nat) (w:Nat → Nat):List Int:=Qf n fun j=>(w j:Int)
theorem Z6 {n k:Nat} {w:Nat → Nat} (h:k < n):lkI (Qx n w) (k:Int)=some (w k:Int):=Zc h
theorem Qgh {n:Nat} {w:Nat → Nat}:(Qx n w).length=n:=Qv
structure VN (D:NF):Prop where
 n1:1≤D.n
 n8:D.n≤8
 g1:1≤D.g
 g60:D.g≤60
 card:∀v,v < D.n→1≤D.card v∧D.card v≤4
 par:∀v,v < D.n→∀p∈D.par v,p < D.n
 len:∀v,v < D.n→(D.par v).length≤8
 W:∀v r x,v < D.n→r < D.rows v→x < D.card v→D.W v r x≤D.g
 worlds:Qh D.n D.card≤1024
theorem Qd3 {f:Nat → Nat} {l:List Nat} {p:Nat}:Y0 f (l++[p])=Y0 f l*f p:=by simp [Y0]
theorem Qpu {f:Nat → Nat} {l:List Nat} (h:∀p∈l,f p≤4):Y0 f l≤4^l.length:=by
 have key:∀(l:List Nat) (R K:Nat),R≤K→(∀p∈l,f p≤4)→l.foldl (fun r p=>r*f p) R≤K*4^l.length:=by
  intro l
  induction l with
  | nil=>intro R K h _; simpa using h
  | cons p l ih =>
   intro R K hr hp
   simp only [List.foldl_cons,List.length_cons,Nat.pow_succ]
   have:=ih (R*f p) (K*4) (Nat.mul_le_mul hr (hp p (by simp))) (fun q hq=>hp q (List.mem_cons_of_mem _ hq))
   rwa [Nat.mul_assoc,Nat.mul_comm 4] at this
 have:=key l 1 1 (by omega) h
 simpa [Y0] using this
section
variable {D:NF} (V:VN D) {w:Nat → Nat}
include V
theorem VN.rows_le {v:Nat} (hv:v < D.n):D.rows v≤65536:=by
 refine Nat.le_trans (Qpu fun p hp=>(V.card p (V.par v hv p hp)).2) ?_
 exact Nat.pow_le_pow_right (by omega) (V.len v hv)
omit V in
theorem Qgx {α:Type} {l:List α} {k:Nat} (h:k < l.length):l.take (k+1)=l.take k++[l[k]]:=by rw [List.take_add_one,List.getElem?_eq_getElem h]; rfl
theorem VN.node {v:Nat} (hv:v < D.n):lkI D.net.Nodes (v:Int)=some (D.node v):=Zc hv
end
theorem Qyr {a k:Nat} (ha:a < 18446744073709551616) (hk:k < 64) :
  zv (zb (a:Int) ||| zb (zv (1*2^min (Int.toNat (k:Int)) (IntKind.bits .u64)))).toNat = ((a ||| 2^k:Nat):Int):=by
 have hb:IntKind.bits .u64=64:=rfl
 have e0:min (Int.toNat (k:Int)) (IntKind.bits .u64)=k:=by rw [hb,Int.toNat_natCast]; omega
 have hp:2^k < 18446744073709551616:=by
  have:2^k < 2^64:=Nat.pow_lt_pow_right (by omega) hk
  exact this
 rw [e0,show (1:Int)*2^k=((2^k:Nat):Int) by simp,Qdr hp]
 have e1:(zb (a:Int) ||| zb ((2^k:Nat):Int)).toNat = a ||| 2^k:=by
  rw [BitVec.toNat_or,Qhm ha,Qhm hp]
 rw [e1,Qdr]
 exact Nat.or_lt_two_pow (n:=64) ha hp
theorem or_lt {a k:Nat} (ha:a < 18446744073709551616) (hk:k < 64):a ||| 2^k < 18446744073709551616 :=
 Nat.or_lt_two_pow (n:=64) ha (Nat.pow_lt_pow_right (by omega) hk)
theorem Q0d {a k j:Nat}:(a ||| 2^k).testBit j=(a.testBit j || decide (k=j)):=by
 rw [Nat.testBit_or,Nat.testBit_two_pow]
theorem Qx9 {a b:Nat} (ha:a < 18446744073709551616) (hb:b < 18446744073709551616) :
  (zv (zb (a:Int) &&& ~~~ zb (b:Int)).toNat == 0)=true↔∀j,a.testBit j=true→b.testBit j=true:=by
 have h1:(zb (a:Int) &&& ~~~ zb (b:Int)).toNat < 18446744073709551616:=BitVec.isLt _
 rw [Qdr h1]
 generalize hx:zb (a:Int) &&& ~~~ zb (b:Int)=x
 have hbit:∀j,j < 64→x.getLsbD j=(a.testBit j && !(b.testBit j)):=fun j hj=>by
  rw [←hx,BitVec.getLsbD_and,BitVec.getLsbD_not]
  have:(IntKind.bits .u64)=64:=rfl
  have e1:(zb (a:Int)).getLsbD j=a.testBit j:=by unfold BitVec.getLsbD; rw [Qhm ha]
  have e2:(zb (b:Int)).getLsbD j=b.testBit j:=by unfold BitVec.getLsbD; rw [Qhm hb]
  rw [e1,e2]
  simp [this,hj]
 constructor
 ·intro h j hj
  have hx0:x.toNat = 0:=by simpa using h
  have h64:j < 64:=by
   rcases Nat.lt_or_ge j 64 with h' | h'
   ·exact h'
   ·have:=Nat.testBit_lt_two_pow (i:=j) (x:=a) (Nat.lt_of_lt_of_le ha (Nat.pow_le_pow_right (n:=2) (by omega) h'))
    rw [this] at hj; cases hj
  have h2:=hbit j h64
  have h3:x.getLsbD j=false:=by unfold BitVec.getLsbD; rw [hx0]; simp
  rw [h3,hj] at h2
  simpa using h2
 ·intro h
  have:x=0#_:=by
   apply BitVec.eq_of_getLsbD_eq
   intro j hj
   have hj':j < 64:=hj
   rw [hbit j hj']
   cases ha':a.testBit j with
   | false=>simp
   | true=>rw [h j ha']; simp
  rw [this]; rfl
def KK:Int:=167961600000000
def BD (m:Nat) (z:Int):Prop:=-((m:Int)*KK)≤z∧z≤(m:Int)*KK
theorem BD.add {m p:Nat} {a b:Int} (h:BD m a) (k:BD p b):BD (m+p) (a+b):=by
 unfold BD at *
 rw [Int.natCast_add,Int.add_mul]; omega
theorem BD.zero {m:Nat}:BD m 0:=by unfold BD KK; omega
theorem BD.sum {n p:Nat} {f:Nat → Int} (h:∀k,k < n→BD p (f k)):BD (n*p) (Qz n f):=by
 induction n with
 | zero=>exact BD.zero
 | succ n ih=>simp only [Qz]; rw [Nat.succ_mul]; exact (ih fun k hk=>h k (by omega)).add (h n (by omega))
section
variable {D:NF} {E:Nat → Int}
theorem X2 {α β:Type} {o:Option α} {a:α} {k:α→Option β} {r:Option β} (h:o=some a) (h2:k a=r):o.bind k=r:=by rw [h]; exact h2
end
structure VX (D:NF):Prop where
 vn:VN D
 sorted:∀v,v < D.n→(D.par v).Pairwise (· < ·)
 self:∀v,v < D.n→v ∉ D.par v
 rank:∃rk:Nat → Nat,∀v,v < D.n→∀p∈D.par v,rk p < rk v
 sum:∀v r,v < D.n→r < D.rows v→Qz (D.card v) (fun x=>(D.W v r x:Int))=D.g
theorem Qh0:∀(a b:List Nat),a.Nodup→a ⊆ b→a.length≤b.length
 | [],_,_,_=>by simp
 | x::a,b,hn,hs=>by
  have hx:x∈b:=hs (by simp)
  rw [List.nodup_cons] at hn
  have h1:a ⊆ b.erase x:=fun y hy=>by
   have hne:y≠x:=fun e=>hn.1 (e ▸ hy)
   exact (List.mem_erase_of_ne hne).2 (hs (List.mem_cons_of_mem _ hy))
  have h2:=Qh0 a (b.erase x) hn.2 h1
  have h3:=List.length_erase_of_mem hx
  have h4:0 < b.length:=List.length_pos_of_mem hx
  simp only [List.length_cons]
  omega
def bitsOf (l:List Nat) (a:Nat):Nat := l.foldl (fun a p=>a ||| 2^p) a
theorem Qbp {j:Nat}:∀(l:List Nat) (a:Nat),(bitsOf l a).testBit j=(a.testBit j || decide (j∈l))
 | [],a=>by simp [bitsOf]
 | p::l,a=>by
  have:=Qbp (j:=j) l (a ||| 2^p)
  unfold bitsOf at this ⊢
  simp only [List.foldl_cons]
  rw [this,Q0d]
  by_cases h:p=j
  ·subst h; simp
  ·have:j≠p:=Ne.symm h
   simp [h,this]
theorem Qeq:∀(l:List Nat) (a:Nat),a < 18446744073709551616→(∀p∈l,p < 64)→bitsOf l a < 18446744073709551616
 | [],a,h,_=>h
 | p::l,a,h,hl=>Qeq l (a ||| 2^p) (or_lt h (hl p (by simp))) fun q hq=>hl q (List.mem_cons_of_mem _ hq)
theorem Qhb {l:List Nat} {p a:Nat}:bitsOf (l++[p]) a=bitsOf l a ||| 2^p:=by simp [bitsOf]
section
variable {D:NF}
theorem Qwq (X:VX D) {v r k:Nat} (hv:v < D.n) (hr:r < D.rows v) (hk:k < D.card v):Qz k (fun x=>(D.W v r x:Int))+D.W v r k≤D.g:=by
 have h1:=X.sum v r hv hr
 have h2:Qz (D.card v) (fun x=>(D.W v r x:Int))=Qz (k+1) (fun x=>(D.W v r x:Int))+Qz (D.card v - (k+1)) (fun x=>(D.W v r (k+1+x):Int)):=by
  rw [←Qlj,show k+1+(D.card v - (k+1))=D.card v by omega]
 have h3:0≤Qz (D.card v - (k+1)) (fun x=>(D.W v r (k+1+x):Int)):=Qfc fun x _=>Int.natCast_nonneg _
 simp only [Qz] at h2
 omega
theorem Qvt (X:VX D) {v:Nat} (hv:v < D.n) {sets order:List Int}:Yx ⟨D.net,Qx D.n D.card,sets,order⟩ (D.node v)=some true:=by
 have V:=X.vn
 have hl:(D.node v).Parents.length=(D.par v).length:=by simp [NF.node]
 have hlen:=V.len v hv
 have hrl:(D.node v).Rows.length=D.rows v:=by simp [NF.node,Qv]
 have hrows:=V.rows_le hv
 have hcv:=V.card v hv
 unfold Yx
 refine X2 (Xb (s0:=((1:Int),(0:Int))) (r:=(D.rows v:Int)) (fun k=>((Y0 D.card ((D.par v).take k):Int),(k:Int))) (D.par v).length (by simp [Y0]) (fun k hk=>?_) ?_ (by omega)) ?_
 ·have hp:=V.par v hv (D.par v)[k] (List.getElem_mem hk)
  have b1:Y0 D.card ((D.par v).take k)≤4^8:=Nat.le_trans (Qpu fun p hp=>(V.card p (V.par v hv p (List.mem_of_mem_take hp))).2) (Nat.pow_le_pow_right (by omega) (by rw [List.length_take]; omega))
  have b2:Y0 D.card ((D.par v).take k)*D.card (D.par v)[k]≤65536*4:=Nat.mul_le_mul (by omega) (V.card _ hp).2
  unfold Vf
  simp only
  rw [if_pos (by rw [hl]; simpa using hk),Zx (by rw [hl]; exact hk)]
  have e0:(D.node v).Parents[k]'(by rw [hl]; exact hk)=(((D.par v)[k]:Nat):Int):=by simp [NF.node]
  simp only [Option.bind_some,e0]
  rw [Z6 hp]
  simp only [Option.bind_some]
  have e1:(Y0 D.card ((D.par v).take k):Int)*(D.card (D.par v)[k]:Int)=((Y0 D.card ((D.par v).take (k+1)):Nat):Int):=by rw [Qgx hk,Qd3]; simp
  have e2:Y0 D.card ((D.par v).take (k+1))≤65536*4:=by rw [Qgx hk,Qd3]; exact b2
  rw [e1,w64 (by omega),w64 (by omega)]
  rfl
 ·unfold Vf
  simp only
  rw [if_neg (by rw [hl]; simp),List.take_of_length_le (Nat.le_refl _)]
  rfl
 ·rw [if_neg (by rw [hrl]; simp)]
  refine X2 (Xb (s0:=(0:Int)) (r:=Sum.inr ()) (fun r=>(r:Int)) (D.rows v) rfl (fun r hr=>?_) ?_ (by omega)) rfl
  ·unfold Ve
   simp only
   rw [if_pos (by rw [hrl]; simpa using hr),show lkI (D.node v).Rows (r:Int)=some (Qf (D.card v) fun x=>(D.W v r x:Int)) from Zc hr]
   simp only [Option.bind_some]
   have hin:Qc fuel (Yb (Qf (D.card v) fun x=>(D.W v r x:Int))) ((D.g:Int),(0:Int))=some (Sum.inr 0):=by
    refine Xb (fun k=>((D.g:Int) - Qz k (fun x=>(D.W v r x:Int)),(k:Int))) (D.card v) _ (by simp [Qz]) (fun k hk=>?_) ?_ (by omega)
    ·have h1:=Qwq X hv hr hk
     have h2:0≤Qz k (fun x=>(D.W v r x:Int)):=Qfc fun x _=>Int.natCast_nonneg _
     have hg:=V.g60
     unfold Yb
     simp only
     rw [if_pos (by rw [Qv]; simpa using hk),Zc hk]
     simp only [Option.bind_some]
     rw [if_neg (by simp),if_neg (by simp; omega),w64 (by omega),w64 (by omega)]
     simp only [Qz]
     congr 3
     omega
    ·unfold Yb
     simp only
     rw [if_neg (by rw [Qv]; simp),X.sum v r hv hr,Int.sub_self]
   rw [show (D.net.Grain:Int)=(D.g:Int) from rfl,hin]
   simp only [Option.bind_some]
   rw [if_neg (by rw [Qv]; simp [NF.node]),if_neg (by simp),w64 (by omega)]
   rfl
  ·unfold Ve
   simp only
   rw [if_neg (by rw [hrl]; simp)]
def setN (D:NF) (v:Nat):Nat := bitsOf (D.par v) 0
theorem Qrq (V:VN D) {v:Nat} (hv:v < D.n):setN D v < 18446744073709551616:=Qeq _ _ (by omega) fun p hp=>by have:=V.par v hv p hp; have:=V.n8; omega
theorem Qp2 {v j:Nat}:(setN D v).testBit j=decide (j∈D.par v):=by unfold setN; rw [Qbp]; simp
theorem Qvy (X:VX D):∃order,Qbs (Qx D.n (setN D))=some (order,true):=by
 have V:=X.vn
 have hn:=V.n8
 obtain ⟨rk,hrk⟩:=X.rank
 have hlen:(Qx D.n (setN D)).length=D.n:=Qgh
 let I:Int × List Int→Prop:=fun s=>∃(l:List Nat),l.Nodup∧(∀p∈l,p < D.n)∧s=((bitsOf l 0:Int),l.map fun (p:Nat)=>(p:Int))
 have hw:=Vk (body:=Jw (Qx D.n (setN D))) I (fun s=>D.n - s.2.length) (fun r=>∃o,r=Sum.inr o) (fun s hs=>?_) ((0:Int),List.replicate (Int.toNat 0) (0:Int)) ⟨[],List.nodup_nil,fun p hp=>by simp at hp,rfl⟩ (by simp; omega)
 ·obtain ⟨r,h1,o,rfl⟩:=hw
  refine ⟨o,?_⟩
  unfold Qbs
  rw [if_pos (by rw [hlen]; omega),h1]
  rfl
 ·obtain ⟨l,hnd,hl,rfl⟩:=hs
  have hll:l.length≤D.n:=by
   have h1:l ⊆ List.range D.n:=fun p hp=>List.mem_range.2 (hl p hp)
   have:=Qh0 l (List.range D.n) hnd h1
   simpa using this
  have hdl:bitsOf l 0 < 18446744073709551616:=Qeq _ _ (by omega) fun p hp=>by have:=hl p hp; omega
  by_cases hc:l.length < D.n
  ·
   have hex:∃v,v < D.n∧v ∉ l:=by
    apply Classical.byContradiction
    intro hno
    have h1:List.range D.n ⊆ l:=fun p hp=>by
     apply Classical.byContradiction
     intro hp'
     exact hno ⟨p,List.mem_range.1 hp,hp'⟩
    have:=Qh0 (List.range D.n) l List.nodup_range h1
    simp at this
    omega
   have hmin:∃v,v < D.n∧v ∉ l∧∀u,u < D.n→u ∉ l→rk v≤rk u:=by
    obtain ⟨v0,h1,h2⟩:=hex
    have:∀(k:Nat) (v:Nat),rk v≤k→v < D.n→v ∉ l→∃v,v < D.n∧v ∉ l∧∀u,u < D.n→u ∉ l→rk v≤rk u:=by
     intro k
     induction k with
     | zero=>intro v hk h1 h2; exact ⟨v,h1,h2,fun u _ _=>by omega⟩
     | succ k ih =>
      intro v hk h1 h2
      by_cases hall:∀u,u < D.n→u ∉ l→rk v≤rk u
      ·exact ⟨v,h1,h2,hall⟩
      ·have:∃u,u < D.n∧u ∉ l∧rk u < rk v:=by
        apply Classical.byContradiction
        intro hno
        exact hall fun u hu hul=>by
         apply Classical.byContradiction
         intro hlt
         exact hno ⟨u,hu,hul,by omega⟩
       obtain ⟨u,hu,hul,hlt⟩:=this
       exact ih u (by omega) hu hul
    exact this (rk v0) v0 (Nat.le_refl _) h1 h2
   obtain ⟨v1,hv1,hv1l,hv1m⟩:=hmin
   have hready:∀p∈D.par v1,p∈l:=fun p hp=>by
    apply Classical.byContradiction
    intro hpl
    have h1:=hv1m p (V.par v1 hv1 p hp) hpl
    have h2:=hrk v1 hv1 p hp
    omega
   left
   have hs2:=Vk (body:=Qa1 (Qx D.n (setN D)) ((bitsOf l 0:Int),l.map fun (p:Nat)=>(p:Int))) (fun s=>∃k:Nat,k≤v1∧s=(k:Int)) (fun s=>D.n - s.toNat)
    (fun r=>∃v,v < D.n∧v ∉ l∧r=Sum.inl (((bitsOf l 0 ||| 2^v:Nat):Int),(l.map fun (p:Nat)=>(p:Int))++[(v:Int)])) (fun s hs=>?_) (0:Int) ⟨0,by omega,rfl⟩ (by simp; omega)
   ·obtain ⟨r,h1,v,hv,hvl,rfl⟩:=hs2
    refine ⟨(((bitsOf l 0 ||| 2^v:Nat):Int),(l.map fun (p:Nat)=>(p:Int))++[(v:Int)]),?_,⟨l++[v],?_,?_,?_⟩,by simp; omega⟩
    ·unfold Jw
     simp only
     rw [if_pos (by rw [hlen]; simp; omega),h1]
     rfl
    ·rw [List.nodup_append]
     exact ⟨hnd,by simp,fun a ha b hb=>by simp at hb; subst hb; exact fun e=>hvl (e ▸ ha)⟩
    ·intro p hp
     rcases List.mem_append.1 hp with h | h
     ·exact hl p h
     ·simp at h; subst h; exact hv
    ·rw [Qhb]; simp
   ·obtain ⟨k,hk,rfl⟩:=hs
    have hkn:k < D.n:=by omega
    have ek:zw ((k:Int)+1)=((k+1:Nat):Int):=by rw [w64 (by omega)]; omega
    have hbk:(bitsOf l 0).testBit k=decide (k∈l):=by rw [Qbp]; simp
    unfold Qa1
    simp only
    rw [if_pos (by rw [hlen]; simpa using hkn),Z6 hkn]
    simp only [Option.bind_some]
    rw [if_pos (by omega),Q13 hdl (by omega),hbk]
    by_cases hkl:k∈l
    ·left
     rw [if_neg (by simp [hkl]),ek]
     have hne:k≠v1:=fun e=>hv1l (e ▸ hkl)
     exact ⟨_,rfl,⟨k+1,by omega,rfl⟩,by simp; omega⟩
    ·rw [if_pos (by simp [hkl])]
     by_cases hsub:∀p∈D.par k,p∈l
     ·right
      rw [if_pos ((Qx9 (Qrq V hkn) hdl).2 fun j hj=>by
       rw [Qp2] at hj
       rw [Qbp]
       simp at hj ⊢
       exact hsub j hj),if_pos (by simp; omega),if_pos (by omega),Qyr hdl (by omega)]
      exact ⟨_,rfl,k,hkn,hkl,rfl⟩
     ·left
      have hne:k≠v1:=fun e=>by subst e; exact hsub hready
      rw [if_neg (fun hc'=>hsub fun p hp=>by
       have:=(Qx9 (Qrq V hkn) hdl).1 hc' p (by rw [Qp2]; simpa using hp)
       rw [Qbp] at this
       simpa using this),ek]
      exact ⟨_,rfl,⟨k+1,by omega,rfl⟩,by simp; omega⟩
  ·right
   refine ⟨Sum.inr (l.map fun (p:Nat)=>(p:Int)),?_,_,rfl⟩
   unfold Jw
   simp only
   rw [if_neg (by rw [hlen]; simp; omega)]
theorem Qmf (X:VX D):∃order,Ke D.net=some (⟨D.net,Qx D.n D.card,Qx D.n (setN D),order⟩,0):=by
 have V:=X.vn
 have hn:=V.n8
 have hn1:=V.n1
 have hg:=V.g60
 have hg1:=V.g1
 have hlen:D.net.Nodes.length=D.n:=Qv
 have hG:D.net.Grain=(D.g:Int):=rfl
 obtain ⟨order,hord⟩:=Qvy X
 refine ⟨order,?_⟩
 unfold Ke
 rw [hlen,hG,if_neg (by simp; omega),if_neg (by simp; omega),if_neg (by simp; omega),if_neg (by simp; omega),if_pos (by omega),if_pos (by omega),Int.toNat_natCast,J7]
 have h0:Qc fuel (Kz D.net) ((1:Int),(0:Int),Qf D.n fun _=>(0:Int))=some (Sum.inr ((Qh D.n D.card:Int),Qx D.n D.card)):=by
  refine Xb (fun k=>((Qh k D.card:Int),(k:Int),Qf D.n fun j=>if j < k then (D.card j:Int) else 0)) D.n _ (by simp [Qh]) (fun k hk=>?_) ?_ (by omega)
  ·have b1:Qh k D.card≤4^k:=Qi0 fun j hj=>(V.card j (by omega)).2
   have b2:(4:Nat)^k≤4^8:=Nat.pow_le_pow_right (by omega) (by omega)
   have b3:Qh k D.card*D.card k≤65536*4:=Nat.mul_le_mul (by omega) (V.card k hk).2
   have hc:=V.card k hk
   have e1:(Qh k D.card:Int)*(D.node k).Card=((Qh (k+1) D.card:Nat):Int):=by simp [Qh,NF.node]
   unfold Kz
   simp only
   rw [if_pos (by rw [hlen]; simpa using hk),V.node hk]
   simp only [Option.bind_some]
   have hc1:¬ (decide ((D.node k).Card < 1)=true):=by rw [decide_eq_true_eq]; show ¬ ((D.card k:Int) < 1); omega
   have hc2:¬ (decide ((D.node k).Card > 4)=true):=by rw [decide_eq_true_eq]; show ¬ ((D.card k:Int) > 4); omega
   rw [if_neg hc1,if_neg hc2,Zc hk]
   simp only [Option.bind_some]
   have w1:zw ((Qh (k+1) D.card:Nat):Int)=((Qh (k+1) D.card:Nat):Int):=w64 (by simp only [Qh]; omega)
   rw [e1,w1,w64 (by omega),Int.toNat_natCast,Vv]
   congr 4
   refine Qj fun j hj=>?_
   by_cases e:j=k
   ·subst e; simp [NF.node]
   ·rw [if_neg e]
    by_cases e2:j < k
    ·rw [if_pos e2,if_pos (by omega)]
    ·rw [if_neg e2,if_neg (by omega)]
  ·unfold Kz
   simp only
   rw [if_neg (by rw [hlen]; simp)]
   congr 4
   exact Qj fun j hj=>if_pos hj
 rw [h0]
 simp only [Option.bind_some]
 have hwd:=V.worlds
 rw [if_neg (by simp; omega)]
 have h2:Qc fuel (K3 D.net ((Qh D.n D.card:Int),Qx D.n D.card)) ((0:Int),Qf D.n fun _=>(0:Int))=some (Sum.inr (Qx D.n (setN D))):=by
  refine Xb (fun v=>((v:Int),Qf D.n fun j=>if j < v then (setN D j:Int) else 0)) D.n _ (by simp) (fun v hv=>?_) ?_ (by omega)
  ·have hl:(D.node v).Parents.length=(D.par v).length:=by simp [NF.node]
   have hplen:=V.len v hv
   have h1:Qc fuel (K8 (D.node v) D.net ((v:Int),Qf D.n fun j=>if j < v then (setN D j:Int) else 0)) ((-1:Int),(0:Int),Qf D.n fun j=>if j < v then (setN D j:Int) else 0) =
     some (Sum.inr (Qf D.n fun j=>if j < v+1 then (setN D j:Int) else 0)):=by
    refine Xb (fun k=>((if k=0 then (-1:Int) else (((D.par v).getD (k - 1) 0:Nat):Int)),(k:Int),Qf D.n fun j=>if j < v then (setN D j:Int) else if j=v then (bitsOf ((D.par v).take k) 0:Int) else 0)) (D.par v).length _ ?_ (fun k hk=>?_) ?_ (by omega)
    ·simp only [if_true,List.take_zero]
     congr 2
     refine Qj fun j _=>?_
     by_cases e:j < v
     ·rw [if_pos e,if_pos e]
     ·rw [if_neg e,if_neg e]; simp [bitsOf]
    ·have hp:=V.par v hv (D.par v)[k] (List.getElem_mem hk)
     have hgt:(if k=0 then (-1:Int) else (((D.par v).getD (k - 1) 0:Nat):Int)) < (((D.par v)[k]:Nat):Int):=by
      by_cases h0:k=0
      ·rw [if_pos h0]; omega
      ·rw [if_neg h0]
       have hk1:k - 1 < (D.par v).length:=by omega
       have:=List.pairwise_iff_getElem.1 (X.sorted v hv) (k - 1) k hk1 hk (by omega)
       have e:(D.par v).getD (k - 1) 0=(D.par v)[k - 1]:=by simp [List.getD,hk1]
       rw [e]; omega
     have hself:(D.par v)[k]≠v:=fun e=>X.self v hv (by have:=List.getElem_mem hk; rwa [e] at this)
     have hbl:bitsOf ((D.par v).take k) 0 < 18446744073709551616:=Qeq _ _ (by omega) fun p hp=>by have:=V.par v hv p (List.mem_of_mem_take hp); omega
     unfold K8
     simp only
     rw [if_pos (by rw [hl]; simpa using hk),Zx (by rw [hl]; exact hk)]
     have e0:(D.node v).Parents[k]'(by rw [hl]; exact hk)=(((D.par v)[k]:Nat):Int):=by simp [NF.node]
     simp only [Option.bind_some,e0]
     rw [if_neg (by rw [decide_eq_true_eq]; exact Int.not_le.2 hgt),if_neg (by rw [hlen]; simp; omega),if_neg (by simp; omega),Zc hv]
     simp only [Option.bind_some,Nat.lt_irrefl,if_false,if_true]
     rw [if_pos (by omega),Qyr hbl (by omega),w64 (by omega),Int.toNat_natCast,Vv,Qgx hk,Qhb]
     have e2:(D.par v).getD (k+1 - 1) 0=(D.par v)[k]:=by simp [List.getD,hk]
     rw [if_neg (by omega),e2]
     congr 4
     refine Qj fun j _=>?_
     by_cases e:j=v
     ·subst e; simp
     ·rw [if_neg e,if_neg e,if_neg e]
    ·unfold K8
     simp only
     rw [if_neg (by rw [hl]; simp),List.take_of_length_le (Nat.le_refl _)]
     congr 3
     refine Qj fun j _=>?_
     by_cases e:j < v
     ·rw [if_pos e,if_pos (by omega)]
     ·rw [if_neg e]
      by_cases e2:j=v
      ·subst e2; rw [if_pos rfl,if_pos (by omega)]; rfl
      ·rw [if_neg e2,if_neg (by omega)]
   unfold K3
   simp only
   rw [if_pos (by rw [hlen]; simpa using hv),V.node hv]
   simp only [Option.bind_some]
   rw [h1]
   simp only [Option.bind_some]
   rw [Qvt X hv]
   simp only [Option.bind_some]
   rw [if_neg (by simp),w64 (by omega)]
   rfl
  ·unfold K3
   simp only
   rw [if_neg (by rw [hlen]; simp)]
   congr 3
   exact Qj fun j hj=>if_pos hj
 rw [h2]
 simp only [Option.bind_some]
 rw [hord]
 rfl
end
end Go.Ab
namespace Go.Ab
open Go
set_option maxRecDepth 100000
set_option maxHeartbeats 400000
theorem Qnv {τ ρ σ:Type} {n:Nat} (hn:n < 1152921504606846976) (good:Nat → Prop) (mkS:Int→τ→σ) {body:σ→Option (Qk σ ρ)} (T:Nat → τ) (r rb:ρ)
  (step:∀k,k < n→(∀j,j < k→good j)→good k→body (mkS (k:Int) (T k))=some (.next (mkS (zw ((k:Int)+1)) (T (k+1)))))
  (bad:∀k,k < n→(∀j,j < k→good j)→¬ good k→body (mkS (k:Int) (T k))=some (.done rb))
  (done:(∀j,j < n→good j)→body (mkS (n:Int) (T n))=some (.done r)) :
  ((∀j,j < n→good j)∧Qc fuel body (mkS ((0:Nat):Int) (T 0))=some r)∨((¬ ∀j,j < n→good j)∧Qc fuel body (mkS ((0:Nat):Int) (T 0))=some rb):=by
 have h:=Qkk (n:=n) (k0:=0) (by omega) hn mkS (body:=body) (fun k t=>t=T k∧∀j,j < k→good j) (fun x=>((∀j,j < n→good j)∧x=r)∨((¬ ∀j,j < n→good j)∧x=rb))
  (fun k t _ hk hI=>by
   obtain ⟨rfl,hI⟩:=hI
   by_cases hg:good k
   ·left
    exact ⟨_,step k hk hI hg,rfl,fun j hj=>by
     by_cases e:j=k
     ·rw [e]; exact hg
     ·exact hI j (by omega)⟩
   ·exact .inr ⟨_,bad k hk hI hg,.inr ⟨fun h=>hg (h k hk),rfl⟩⟩)
  (fun t hI=>by
   obtain ⟨rfl,hI⟩:=hI
   exact ⟨_,done hI,.inl ⟨hI,rfl⟩⟩) (T 0) ⟨rfl,fun j hj=>by omega⟩
 obtain ⟨x,h1,h2⟩:=h
 rcases h2 with ⟨a,rfl⟩ | ⟨a,rfl⟩
 ·exact .inl ⟨a,h1⟩
 ·exact .inr ⟨a,h1⟩
end Go.Ab
namespace Go.Ab
open Go
theorem Qwx {n:Nat} {f:Nat → Int} {c:Int}:Qz n (fun k=>f k*c)=Qz n f*c:=by
 induction n with
 | zero=>simp [Qz]
 | succ n ih=>simp only [Qz,ih]; rw [Int.add_mul]
theorem Qst {a b:Nat} {f:Nat → Int}:Qz (a*b) f=Qz a (fun x=>Qz b (fun y=>f (x*b+y))):=by
 induction a with
 | zero=>simp [Qz]
 | succ a ih=>rw [Nat.succ_mul,Qlj,ih]; simp only [Qz]
theorem Jy {n:Nat} {f g:Nat → Nat} (h:∀k,k < n→f k=g k):Qh n f=Qh n g:=by
 induction n with
 | zero=>rfl
 | succ n ih=>simp only [Qh]; rw [ih (fun k hk=>h k (by omega)),h n (by omega)]
theorem Qg3 {n:Nat} {f:Nat → Nat} (h:∀k,k < n→1≤f k):1≤Qh n f:=by
 induction n with
 | zero=>simp [Qh]
 | succ n ih=>simp only [Qh]; exact Nat.le_trans (by simp) (Nat.mul_le_mul (ih fun k hk=>h k (by omega)) (h n (by omega)))
end Go.Ab
namespace Go.Ab
open Go
def Ko (c w:Nat → Nat) (l:List Nat):Nat := l.foldl (fun r p=>r*c p+w p) 0
theorem Qn9 {c w:Nat → Nat} {l:List Nat} {p:Nat}:Ko c w (l++[p])=Ko c w l*c p+w p:=by simp [Ko]
theorem Qud {c w:Nat → Nat} {l:List Nat} (h:∀p∈l,w p < c p):Ko c w l < Y0 c l:=by
 have key:∀(l:List Nat) (r R:Nat),r < R→(∀p∈l,w p < c p)→l.foldl (fun r p=>r*c p+w p) r < l.foldl (fun r p=>r*c p) R:=by
  intro l
  induction l with
  | nil=>intro r R h _; exact h
  | cons p l ih =>
   intro r R hr hp
   simp only [List.foldl_cons]
   refine ih _ _ ?_ (fun q hq=>hp q (List.mem_cons_of_mem _ hq))
   have h1:=hp p (by simp)
   have h2:(r+1)*c p≤R*c p:=Nat.mul_le_mul_right _ hr
   rw [Nat.succ_mul] at h2
   omega
 exact key l 0 1 (by omega) h
def NF.idx (D:NF) (v:Nat) (w:Nat → Nat):Nat := Ko D.card w (D.par v)
def NF.wt (D:NF) (w:Nat → Nat) (v:Nat):Nat := D.W v (D.idx v w) (w v)
def NF.ok (D:NF) (w:Nat → Nat):Prop:=∀v,v < D.n→w v < D.card v
section
variable {D:NF} (V:VN D) {w:Nat → Nat}
include V
theorem VN.idx_lt (hw:D.ok w) {v:Nat} (hv:v < D.n):D.idx v w < D.rows v:=Qud fun p hp=>hw p (V.par v hv p hp)
theorem VN.wt_le (hw:D.ok w) {v:Nat} (hv:v < D.n):D.wt w v≤60:=Nat.le_trans (V.W v _ _ hv (V.idx_lt hw hv) (hw v hv)) V.g60
end
structure SF where
 N:Nat
 R:Nat
 F:Nat
 T:Nat
end Go.Ab
namespace Go.Ab
open Go
def TM (D:NF) (E:Nat → Int) (f:(Nat → Nat)→Int):Nat → Nat → (Nat → Nat)→Int
 | 0,_,w=>f w
 | d+1,i,w=>Qz (D.card i) fun x=>if E i=-1∨E i=(x:Int) then TM D E f d (i+1) (Zo w i x) else 0
def PC (D:NF):Nat → Nat → Nat
 | 0,_=>1
 | d+1,i=>D.card i*PC D d (i+1)
theorem Qt2 {D:NF} (V:VN D):∀(d i:Nat),i+d=D.n→1≤PC D d i
 | 0,_,_=>Nat.le_refl 1
 | d+1,i,h=>by
  have:=Qt2 V d (i+1) (by omega)
  have h2:=(V.card i (by omega)).1
  exact Nat.le_trans (by simp) (Nat.mul_le_mul h2 this)
theorem Qmv {D:NF}:∀(d i:Nat),Qh i D.card*PC D d i=Qh (i+d) D.card
 | 0,i=>by simp [PC]
 | d+1,i=>by
  have:=Qmv (D:=D) d (i+1)
  simp only [PC]
  rw [←Nat.mul_assoc]
  rw [show i+(d+1)=i+1+d by omega,←this]; rfl
def Ext (D:NF) (f:(Nat → Nat)→Int):Prop:=∀w w',(∀j,j < D.n→w j=w' j)→f w=f w'
theorem BD.mono {m p:Nat} {a:Int} (h:BD m a) (hp:m≤p):BD p a:=by
 unfold BD KK at *; omega
theorem Q1m {D:NF} {w:Nat → Nat} {i x:Nat} (h:D.ok w) (hx:x < D.card i):D.ok (Zo w i x):=fun v hv=>by
 unfold Zo
 by_cases e:v=i
 ·rw [if_pos e,e]; exact hx
 ·rw [if_neg e]; exact h v hv
theorem Qpc {D:NF} {E:Nat → Int} {f:(Nat → Nat)→Int} (hf:∀w,D.ok w→BD 1 (f w)):∀(d i:Nat) (w:Nat → Nat),i+d=D.n→D.ok w→BD (PC D d i) (TM D E f d i w)
 | 0,i,w,_,hw=>hf w hw
 | d+1,i,w,h,hw=>by
  unfold TM PC
  refine BD.sum fun x hx=>?_
  split
  ·exact Qpc hf d (i+1) _ (by omega) (Q1m hw hx)
  ·exact BD.zero
def at' (v x:Nat) (f:(Nat → Nat)→Int):(Nat → Nat)→Int:=fun w=>if w v=x then f w else 0
section
variable {D:NF} (V:VN D) {s:SF} {E:Nat → Int} {v:Nat}
theorem Qzs (V:VN D) {w w':Nat → Nat} (h:∀j,j < D.n→w j=w' j) {u:Nat} (hu:u < D.n):D.idx u w=D.idx u w':=by
 unfold NF.idx Ko
 have:∀(l:List Nat) (r:Nat),(∀p∈l,p < D.n)→l.foldl (fun r p=>r*D.card p+w p) r=l.foldl (fun r p=>r*D.card p+w' p) r:=by
  intro l
  induction l with
  | nil=>intros; rfl
  | cons p l ih =>
   intro r hp
   simp only [List.foldl_cons]
   rw [h p (hp p (by simp)),ih _ (fun q hq=>hp q (List.mem_cons_of_mem _ hq))]
 exact this _ 0 (V.par u hu)
theorem Q05 (V:VN D) {w w':Nat → Nat} (h:∀j,j < D.n→w j=w' j) {u:Nat} (hu:u < D.n):D.wt w u=D.wt w' u:=by
 unfold NF.wt; rw [Qzs V h hu,h u hu]
theorem Qv2 {f:(Nat → Nat)→Int} (hv:v < D.n) (hf:Ext D f) {x:Nat}:Ext D (at' v x f):=fun w w' h=>by
 unfold at'; rw [h v hv,hf w w' h]
theorem Q2a {f:(Nat → Nat)→Int} (hf:∀w,D.ok w→BD 1 (f w)) {x:Nat}:∀w,D.ok w→BD 1 (at' v x f w):=fun w hw=>by
 unfold at'
 split
 ·exact hf w hw
 ·exact BD.zero
end
end Go.Ab
namespace Go.Ab
open Go
def SW (D:NF) (E:Nat → Int) (f:(Nat → Nat)→Int):Int:=TM D E f D.n 0 (fun _=>0)
def Qmc (D:NF) (E:Nat → Int):Prop:=∀j,j < D.n→-1≤E j∧E j < D.card j
section
variable {D:NF} {s:SF} {E:Nat → Int} {v:Nat}
theorem ok0 (V:VN D):D.ok (fun _=>0):=fun u hu=>(V.card u hu).1
end
end Go.Ab
namespace Go.Ab
open Go
section
variable {D:NF} {E:Nat → Int}
def PS (D:NF) (k:Nat):Nat := PC D (D.n - k) k
theorem Qmu {k:Nat} (h:k < D.n):PS D k=D.card k*PS D (k+1):=by
 unfold PS
 rw [show D.n - k=(D.n - (k+1))+1 by omega]; rfl
theorem Qoz:PS D D.n=1:=by unfold PS; rw [Nat.sub_self]; rfl
theorem Qt4 (V:VN D) {k:Nat} (h:k≤D.n):1≤PS D k:=Qt2 V _ _ (by omega)
def dig (D:NF) (W k:Nat):Nat := W / PS D (k+1) % D.card k
theorem Qlt (V:VN D) (W:Nat):D.ok (dig D W):=fun v hv=>Nat.mod_lt _ (V.card v hv).1
def okE (E:Nat → Int) (j x:Nat):Prop:=E j=-1∨E j=(x:Int)
instance instokE (E:Nat → Int) (j x:Nat):Decidable (okE E j x):=by unfold okE; infer_instance
def Yu (n:Nat) (E:Nat → Int) (i:Nat) (w:Nat → Nat):Prop:=∀j,i≤j→j < n→okE E j (w j)
def ix (c w:Nat → Nat):List Nat → Nat
 | []=>0
 | p::l=>w p*lprodR c l+ix c w l
where lprodR (c:Nat → Nat):List Nat → Nat
 | []=>1
 | p::l=>c p*lprodR c l
theorem Qpi (c w:Nat → Nat):∀(l:List Nat) (r:Nat),l.foldl (fun r p=>r*c p+w p) r=r*ix.lprodR c l+ix c w l
 | [],r=>by simp [ix,ix.lprodR]
 | p::l,r=>by
  simp only [List.foldl_cons,Qpi c w l,ix,ix.lprodR]
  rw [Nat.add_mul,Nat.mul_assoc,Nat.add_assoc]
theorem Qu1 {c w:Nat → Nat} {l:List Nat}:Ko c w l=ix c w l:=by
 unfold Ko; rw [Qpi]; simp
theorem Qv5 {c:Nat → Nat} {l:List Nat} (h:∀p∈l,c p≤4):ix.lprodR c l≤4^l.length:=by
 induction l with
 | nil=>simp [ix.lprodR]
 | cons p l ih =>
  simp only [ix.lprodR,List.length_cons,Nat.pow_succ]
  rw [Nat.mul_comm]
  exact Nat.mul_le_mul (ih fun q hq=>h q (List.mem_cons_of_mem _ hq)) (h p (by simp))
def mix (D:NF) (i:Nat) (w:Nat → Nat) (W:Nat):Nat → Nat := fun j=>if j < i then w j else dig D W j
theorem Q09 (V:VN D) {i j:Nat} (hij:i≤j) (hj:j < D.n):∃M,PS D i=M*(D.card j*PS D (j+1)):=by
 obtain ⟨k,rfl⟩:=Nat.exists_eq_add_of_le hij
 induction k generalizing i with
 | zero=>exact ⟨1,by rw [Nat.add_zero,Nat.one_mul,Qmu (by omega)]⟩
 | succ k ih =>
  obtain ⟨M,hM⟩:=ih (i:=i+1) (by omega) (by omega)
  refine ⟨D.card i*M,?_⟩
  rw [Qmu (by omega),hM]
  rw [show i+1+k=i+(k+1) by omega,Nat.mul_assoc]
open Classical in
theorem Qk2 (V:VN D) {f:(Nat → Nat)→Int} (hf:Ext D f):∀(d i:Nat) (w:Nat → Nat),i+d=D.n →
  Qz (PC D d i) (fun W=>if Yu D.n E i (mix D i w W) then f (mix D i w W) else 0)=TM D E f d i w
 | 0,i,w,h=>by
  simp only [PC,Qz,TM,Int.zero_add]
  rw [if_pos (show Yu D.n E i (mix D i w 0) from fun j h1 h2=>by omega)]
  exact hf _ _ fun j hj=>by unfold mix; rw [if_pos (by omega)]
 | d+1,i,w,h=>by
  have hi:i < D.n:=by omega
  simp only [PC,TM]
  rw [Qst]
  refine X1 fun x hx=>?_
  have hP:PC D d (i+1)=PS D (i+1):=by unfold PS; rw [show D.n - (i+1)=d by omega]
  have hpos:=Qt4 V (k:=i+1) (by omega)
  have hag:∀y,y < PC D d (i+1)→∀j,j < D.n→mix D i w (x*PC D d (i+1)+y) j=mix D (i+1) (Zo w i x) y j:=fun y hy j hj=>by
   unfold mix
   by_cases h1:j < i
   ·rw [if_pos h1,if_pos (by omega),Qf1 (by omega)]
   ·rw [if_neg h1]
    by_cases h2:j=i
    ·subst h2
     rw [if_pos (by omega),J5]
     unfold dig
     rw [hP] at hy ⊢
     rw [Nat.mul_comm,Nat.mul_add_div (by omega),Nat.div_eq_of_lt hy,Nat.add_zero,Nat.mod_eq_of_lt hx]
    ·rw [if_neg (by omega)]
     unfold dig
     rw [hP]
     obtain ⟨M,hM⟩:=Q09 V (i:=i+1) (j:=j) (by omega) hj
     have hpj:=Qt4 V (k:=j+1) (by omega)
     rw [hM,show x*(M*(D.card j*PS D (j+1)))+y=PS D (j+1)*(D.card j*(x*M))+y by
      rw [Nat.mul_comm (D.card j),←Nat.mul_assoc,←Nat.mul_assoc,Nat.mul_comm (PS D (j+1)),Nat.mul_comm (D.card j),Nat.mul_right_comm (x*M)]]
     rw [Nat.mul_add_div (by omega),Nat.mul_add_mod]
  rw [X1 (g:=fun y=>if okE E i x then (if Yu D.n E (i+1) (mix D (i+1) (Zo w i x) y) then f (mix D (i+1) (Zo w i x) y) else 0) else 0) (fun y hy=>?_)]
  ·by_cases hok:okE E i x
   ·rw [X1 (g:=fun y=>if Yu D.n E (i+1) (mix D (i+1) (Zo w i x) y) then f (mix D (i+1) (Zo w i x) y) else 0) (fun y _=>if_pos hok),Qk2 V hf d (i+1) _ (by omega),if_pos (show E i=-1∨E i=(x:Int) from hok)]
   ·rw [X1 (g:=fun _=>0) (fun y _=>if_neg hok),Qno,if_neg (show ¬ (E i=-1∨E i=(x:Int)) from hok)]
  ·have e:=hag y hy
   have hiff:Yu D.n E i (mix D i w (x*PC D d (i+1)+y))↔okE E i x∧Yu D.n E (i+1) (mix D (i+1) (Zo w i x) y):=by
    constructor
    ·intro hm
     refine ⟨?_,fun j h1 h2=>?_⟩
     ·have:=hm i (by omega) hi
      rw [e i hi] at this
      unfold mix at this
      rwa [if_pos (by omega),J5] at this
     ·have:=hm j (by omega) h2
      rwa [e j h2] at this
    ·rintro ⟨h1,h2⟩ j h3 h4
     rw [e j h4]
     by_cases h5:j=i
     ·subst h5; unfold mix; rwa [if_pos (by omega),J5]
     ·exact h2 j (by omega) h4
   by_cases hok:okE E i x
   ·rw [if_pos hok]
    by_cases hm:Yu D.n E (i+1) (mix D (i+1) (Zo w i x) y)
    ·rw [if_pos (hiff.2 ⟨hok,hm⟩),if_pos hm,hf _ _ e]
    ·rw [if_neg (fun c=>hm (hiff.1 c).2),if_neg hm]
   ·rw [if_neg (fun c=>hok (hiff.1 c).1),if_neg hok]
end
end Go.Ab
namespace Go.Ab
open Go
section
variable {D:NF}
theorem Qyo {E:Nat → Int} {f:(Nat → Nat)→Int} (V:VN D) {m:Nat} (hm:Qh D.n D.card≤m) (hf:∀w,D.ok w→BD 1 (f w)):BD m (SW D E f):=by
 have h1:PC D D.n 0=Qh D.n D.card:=by have:=Qmv (D:=D) D.n 0; simpa [Qh] using this
 exact (Qpc hf D.n 0 _ (by omega) (ok0 V)).mono (by rw [h1]; exact hm)
end
end Go.Ab
namespace Go.Ab
open Go
set_option maxRecDepth 100000
theorem Q0q {i j:Nat} (h:i≤j):10000^i≤10000^j:=Nat.pow_le_pow_right (by omega) h
end Go.Ab
namespace Go.Ab
open Go
set_option maxRecDepth 100000
theorem Qt0 {p q:Nat} (h:2*(p+1)≤q+1):Nat.log2 (p+1) < Nat.log2 (q+1):=by
 have h1:2^Nat.log2 (p+1)≤p+1:=(Nat.le_log2 (by omega)).1 (Nat.le_refl _)
 have h2:Nat.log2 (p+1)+1≤Nat.log2 (q+1):=(Nat.le_log2 (by omega)).2 (by rw [Nat.pow_succ]; omega)
 omega
theorem Qw4 {x K:Nat} (h:(dgs x).length≤K):Nat.log2 (x+1)≤14*K+1:=by
 have h1:=Qo8 x
 have h2:=Q0q (i:=(dgs x).length) (j:=K) h
 have h3:(10000:Nat)^K≤(2^14)^K:=Nat.pow_le_pow_left (by omega) K
 rw [←Nat.pow_mul] at h3
 have h4:x+1 < 2^(14*K+1):=by rw [Nat.pow_succ]; omega
 have:=(Nat.log2_lt (by omega)).2 h4
 omega
def gm (x y:Nat):Nat := if y≤x then Nat.log2 (x*y+1) else Nat.log2 (x*y+1)+1
theorem Qrk {x y:Nat} (hy:0 < y):gm y (x % y) < gm x y:=by
 have hr:=Nat.mod_lt x hy
 unfold gm
 rw [if_pos (by omega)]
 by_cases h:y≤x
 ·rw [if_pos h]
  refine Qt0 ?_
  have h1:y+x % y≤x:=by
   have:=Nat.div_add_mod x y
   have h2:1≤x / y:=(Nat.one_le_div_iff hy).2 h
   have h3:y*1≤y*(x / y):=Nat.mul_le_mul_left _ h2
   omega
  have h4:(2*(x % y)+1)*y≤x*y:=Nat.mul_le_mul_right _ (by omega)
  rw [Nat.add_mul,Nat.mul_assoc,Nat.mul_comm (x % y) y] at h4
  omega
 ·rw [if_neg h,Nat.mod_eq_of_lt (by omega),Nat.mul_comm]
  omega
theorem Qqm (x y:Nat):Nat.gcd x y=Nat.gcd y (x % y):=by
 rw [Nat.gcd_comm,Nat.gcd_rec,Nat.gcd_comm]
theorem Quc {x y:Nat} (hx:(dgs x).length≤8000) (hy:(dgs y).length≤8000):gm x y < 1152921504606846976:=by
 have h1:=Qo8 x
 have h2:=Qo8 y
 have h3:(dgs (x*y)).length≤16000:=by
  have:(dgs (x*y)).length≤(dgs x).length+(dgs y).length:=K1 (by rw [Nat.pow_add]; exact Nat.mul_lt_mul'' h1 h2)
  omega
 have:=Qw4 h3
 unfold gm
 split <;> omega
def MX:Nat := 4611686018427387903
def mkQ (neg:Bool) (n d:Nat):Qb × Bool :=
 if n / Nat.gcd n d≤MX then (if d / Nat.gcd n d≤MX then (⟨if neg then -((n / Nat.gcd n d:Nat):Int) else ((n / Nat.gcd n d:Nat):Int),((d / Nat.gcd n d:Nat):Int)⟩,true) else (⟨0,0⟩,false)) else (⟨0,0⟩,false)
end Go.Ab
namespace Go.Ab
open Go
theorem Qp3 {n:Int} (h:0≤n∧n < 18446744073709551616):zv n=n:=by
 obtain ⟨m,rfl⟩:=Int.eq_ofNat_of_zero_le h.1
 exact Qdr (by omega)
theorem Qr5 {n:Int} (h:n < 0∧-18446744073709551616≤n):zv n=n+18446744073709551616:=by
 simp [IntKind.wrap,IntKind.bits,IntKind.signed]; omega
theorem Qv3 (a b:Nat) (ha:a < 18446744073709551616) (hb:b < 18446744073709551616):K5 (a:Int) (b:Int)=some ((Nat.gcd a b:Nat):Int):=by
 have l1:(dgs a).length≤5:=K1 (by omega)
 have l2:(dgs b).length≤5:=K1 (by omega)
 have lim:gm a b < 1152921504606846976:=Quc (by omega) (by omega)
 unfold K5
 rw [Qna (fun s=>∃x y:Nat,s.1=(x:Int)∧s.2=(y:Int)∧Nat.gcd x y=Nat.gcd a b) (fun s=>gm s.1.toNat s.2.toNat) ((Nat.gcd a b:Nat):Int) ?_ _ ⟨a,b,rfl,rfl,rfl⟩ (by simpa using lim)]
 ·rfl
 ·rintro ⟨x0,y0⟩ ⟨x,y,h1,h2,h3⟩
  simp only at h1 h2
  subst h1; subst h2
  unfold Qed
  simp only
  by_cases hy:y=0
  ·right
   subst hy
   rw [if_neg (by simp)]
   rw [Nat.gcd_zero_right] at h3
   rw [h3]
  ·left
   rw [if_pos (by simp; omega),if_pos (by omega),Xs (by omega)]
   refine ⟨_,rfl,⟨y,x % y,rfl,by simp,?_⟩,?_⟩
   ·rw [←h3,Qqm x y]
   ·simp only [Int.toNat_natCast]
    rw [show ((x:Int) % (y:Int)).toNat = x % y by rw [←Int.natCast_emod,Int.toNat_natCast]]
    exact Qrk (by omega)
theorem Qo3 {p:Int} (h:-9223372036854775808≤p∧p≤9223372036854775807):Vx p=some (p.natAbs:Int):=by
 unfold Vx
 by_cases h0:p < 0
 ·rw [if_pos (by simpa using h0)]
  have e:zv p=p+18446744073709551616:=Qr5 (by omega)
  rw [e,Qr5 (by omega)]
  congr 1; omega
 ·rw [if_neg (by simpa using h0),Qp3 (by omega)]
  congr 1; omega
def Rt (q:Qb):Prop:=1≤q.D∧q.D≤4611686018427387903∧-4611686018427387903≤q.N∧q.N≤4611686018427387903∧Nat.gcd q.N.natAbs q.D.natAbs=1
instance instRt (q:Qb):Decidable (Rt q):=by unfold Rt; infer_instance
def I64 (q:Qb):Prop:=(-9223372036854775808≤q.N∧q.N≤9223372036854775807)∧(-9223372036854775808≤q.D∧q.D≤9223372036854775807)
theorem Rt.i64 {q:Qb} (h:Rt q):I64 q:=by obtain ⟨h1,h2,h3,h4,_⟩:=h; unfold I64; omega
def qI (n d:Int):Qb:=(mkQ (!((decide (n < 0))==(decide (d < 0)))) n.natAbs d.natAbs).1
theorem Quq {n d:Int} (hd:d≠0) (hn:n.natAbs≤MX) (hd':d.natAbs≤MX):qI n d=⟨if (!((decide (n < 0))==(decide (d < 0))))=true then -((n.natAbs / Nat.gcd n.natAbs d.natAbs:Nat):Int) else ((n.natAbs / Nat.gcd n.natAbs d.natAbs:Nat):Int),((d.natAbs / Nat.gcd n.natAbs d.natAbs:Nat):Int)⟩:=by
 unfold qI mkQ
 have h1:=Nat.div_le_self n.natAbs (Nat.gcd n.natAbs d.natAbs)
 have h2:=Nat.div_le_self d.natAbs (Nat.gcd n.natAbs d.natAbs)
 rw [if_pos (by omega),if_pos (by omega)]
theorem Qrf {n d:Int} (hn:n.natAbs≤MX) (hd:d.natAbs≤MX) (h0:d≠0):Kr n d=some (qI n d,0):=by
 have hMX:MX=4611686018427387903:=rfl
 unfold Kr
 rw [if_neg (by simpa using h0)]
 unfold Qam
 rw [Qo3 (by omega),Qo3 (by omega)]
 simp only [Option.bind_some]
 rw [Qv3 _ _ (by omega) (by omega)]
 simp only [Option.bind_some]
 have hg:0 < Nat.gcd n.natAbs d.natAbs:=Nat.gcd_pos_of_pos_right _ (by omega)
 rw [if_pos (by omega),if_pos (by omega)]
 have h1:=Nat.div_le_self n.natAbs (Nat.gcd n.natAbs d.natAbs)
 have h2:=Nat.div_le_self d.natAbs (Nat.gcd n.natAbs d.natAbs)
 have e1:Int.tdiv (n.natAbs:Int) ((Nat.gcd n.natAbs d.natAbs:Nat):Int)=((n.natAbs / Nat.gcd n.natAbs d.natAbs:Nat):Int):=by rw [Qge (by omega)]; simp
 have e2:Int.tdiv (d.natAbs:Int) ((Nat.gcd n.natAbs d.natAbs:Nat):Int)=((d.natAbs / Nat.gcd n.natAbs d.natAbs:Nat):Int):=by rw [Qge (by omega)]; simp
 rw [e1,e2,Quq h0 hn hd]
 generalize n.natAbs / Nat.gcd n.natAbs d.natAbs=x at *
 generalize d.natAbs / Nat.gcd n.natAbs d.natAbs=y at *
 rw [Qp3 (by omega),Qp3 (by omega)]
 unfold Qgf
 simp only
 rw [if_neg (by simp),if_neg (by simp; omega),if_neg (by simp),if_neg (by simp; omega)]
 generalize (!((decide (n < 0))==(decide (d < 0))))=b
 cases b
 ·rw [if_neg (by simp),if_neg (by simp),w64 (by omega),w64 (by omega)]; rfl
 ·rw [if_pos rfl,if_pos rfl,w64 (n:=(x:Int)) (by omega),w64 (n:=(y:Int)) (by omega),w64 (by omega)]
  simp
end Go.Ab
namespace Go.Ab
open Go
set_option maxRecDepth 100000
set_option maxHeartbeats 400000
section
variable {D:NF}
def evJ (D:NF) (e:List Int) (j:Nat):Prop:=-1≤(e[j]?).getD 0∧(e[j]?).getD 0 < D.card j
def evL (D:NF) (e:List Int):Prop:=e.length=D.n∧∀j,j < D.n→evJ D e j
theorem Qyk {e:List Int} {j:Nat} (hj:j < e.length):lkI e (j:Int)=some ((e[j]?).getD 0):=by rw [Zx hj,List.getElem?_eq_getElem hj]; rfl
theorem Qzo (X:VX D) (e:List Int):(evL D e∧Xm D.net e=some 0)∨(¬ evL D e∧Xm D.net e=some 2):=by
 have V:=X.vn
 have hn:=V.n8
 have hlen:D.net.Nodes.length=D.n:=Qv
 obtain ⟨order,hr⟩:=Qmf X
 unfold Xm
 rw [hr,Option.bind_some,if_neg (by simp)]
 dsimp only
 rw [hlen]
 by_cases c:e.length=D.n
 ·rw [if_neg (by simp; omega)]
  have h:=Qnv (n:=D.n) (by omega) (evJ D e) (fun i (_:Unit)=>i) (body:=Zl e (⟨D.net,Qx D.n D.card,Qx D.n (setN D),order⟩,0)) (fun _=>()) (.inr ()) (.inl ())
   (fun j hj hI hg=>by
    obtain ⟨g1,g2⟩:=hg
    unfold Zl
    dsimp only
    rw [c,if_pos (dlt hj),Qyk (by omega),Option.bind_some,if_neg (by simp; exact g1),Z6 hj,Option.bind_some,if_neg (by simp; exact g2)])
   (fun j hj hI hg=>by
    unfold Zl
    dsimp only
    rw [c,if_pos (dlt hj),Qyk (by omega),Option.bind_some]
    by_cases c1:(e[j]?).getD 0 < -1
    ·rw [if_pos (by simpa using c1)]
    ·rw [if_neg (by simpa using c1),Z6 hj,Option.bind_some,if_pos (by
      rw [decide_eq_true_eq]
      exact Int.not_lt.1 fun hh=>hg ⟨by omega,hh⟩)])
   (fun hI=>by unfold Zl; dsimp only; rw [c,if_neg (nlt _)])
  rcases h with ⟨h,e1⟩ | ⟨h,e1⟩
  ·left; refine ⟨⟨c,h⟩,?_⟩
   have e1:Qc fuel (Zl e (⟨D.net,Qx D.n D.card,Qx D.n (setN D),order⟩,0)) 0=some (.inr ()):=e1
   rw [e1]; rfl
  ·right; refine ⟨fun hh=>h hh.2,?_⟩
   have e1:Qc fuel (Zl e (⟨D.net,Qx D.n D.card,Qx D.n (setN D),order⟩,0)) 0=some (.inl ()):=e1
   rw [e1]; rfl
 ·rw [if_pos (by simp; omega)]
  exact .inr ⟨fun hh=>c hh.1,rfl⟩
end
end Go.Ab
namespace Go.Ab
open Go
set_option maxRecDepth 100000
set_option maxHeartbeats 400000
def NF.fr (D:NF) (m:Nat) (w:Nat → Nat):Nat → Nat := fun k=>Qh k fun v=>if m.testBit v=true then 1 else D.wt w v
def NF.wh (D:NF) (m:Nat):Nat → Nat := fun k=>Qh k fun v=>if m.testBit v=true then 1 else D.g
def fS (D:NF) (m:Nat) (w:Nat → Nat):Int:=(D.fr m w D.n:Int)
section
variable {D:NF} {w:Nat → Nat} {m:Nat}
variable (V:VN D)
include V
theorem VN.fr_le (hw:D.ok w) {k:Nat} (hk:k≤D.n):D.fr m w k≤167961600000000:=by
 have h1:D.fr m w k≤60^k:=Qi0 fun v hv=>by
  split
  ·omega
  ·exact V.wt_le hw (by omega)
 exact Nat.le_trans h1 (Nat.le_trans (Nat.pow_le_pow_right (by omega) (Nat.le_trans hk V.n8)) (by decide))
theorem VN.wh_le {k:Nat} (hk:k≤D.n):D.wh m k≤167961600000000:=by
 have h1:D.wh m k≤60^k:=Qi0 fun v hv=>by
  split
  ·omega
  ·exact V.g60
 exact Nat.le_trans h1 (Nat.le_trans (Nat.pow_le_pow_right (by omega) (Nat.le_trans hk V.n8)) (by decide))
theorem VN.wh_pos {k:Nat} (hk:k≤D.n):1≤D.wh m k:=Qg3 fun v hv=>by
 split
 ·omega
 ·exact V.g1
theorem Qlb:Ext D (fS D m):=fun w w' h=>by
 unfold fS NF.fr
 congr 1
 exact Jy fun v hv=>by rw [Q05 V h hv]
theorem Qyi:∀w,D.ok w→BD 1 (fS D m w):=fun w hw=>by
 have:=V.fr_le (m:=m) hw (Nat.le_refl _)
 unfold fS BD KK; omega
theorem Qnu {w:Nat → Nat}:0≤fS D m w:=by unfold fS; omega
end
end Go.Ab
namespace Go.Ab
open Go
set_option maxRecDepth 100000
set_option maxHeartbeats 400000
theorem Q00 {D:NF}:PC D D.n 0=Qh D.n D.card:=by have:=Qmv (D:=D) D.n 0; simpa [Qh] using this
theorem Qbz {n i x:Nat} {w:Nat → Nat}:(Qx n w).set i (x:Int)=Qx n (Zo w i x):=by
 unfold Qx; rw [Vv]
 refine Qj fun j _=>?_
 unfold Zo
 split <;> rfl
theorem zeros {n:Nat}:List.replicate (Int.toNat (n:Int)) (0:Int)=Qx n fun _=>0:=by rw [Int.toNat_natCast]; exact J7 n 0
section
variable {D:NF} {S E:Nat → Int}
theorem Qif {f:(Nat → Nat)→Int} {K:Nat → Int} (hf:∀w,0≤f w):∀(d i:Nat) (w:Nat → Nat),0≤TM D K f d i w
 | 0,i,w=>hf w
 | d+1,i,w=>Qfc fun x _=>by
  split
  ·exact Qif hf d (i+1) _
  ·exact Int.le_refl _
theorem Qm9 (V:VN D) {m:Nat} {K:Nat → Int}:0≤SW D K (fS D m)∧(SW D K (fS D m)).natAbs≤MX:=by
 have h1:0≤SW D K (fS D m):=Qif (fun w=>Qnu V) _ _ _
 have h2:=Qyo V (m:=1024) (E:=K) V.worlds (Qyi V (m:=m))
 unfold BD KK at h2
 refine ⟨h1,?_⟩
 unfold MX; omega
theorem Q1j (V:VN D) {m:Nat}:((D.wh m D.n:Nat):Int)≠0∧((D.wh m D.n:Nat):Int).natAbs≤MX:=by
 have h1:=V.wh_pos (m:=m) (Nat.le_refl _)
 have h2:=V.wh_le (m:=m) (Nat.le_refl _)
 constructor
 ·omega
 ·unfold MX; omega
end
end Go.Ab
namespace Go.Ab
open Go
open Classical
set_option maxRecDepth 100000
set_option maxHeartbeats 400000
section
variable {D:NF} {S E:Nat → Int}
theorem Qky (V:VN D) {f:(Nat → Nat)→Int} (hf:Ext D f) {K:Nat → Int}:SW D K f=Qz (Qh D.n D.card) (fun W=>if Yu D.n K 0 (dig D W) then f (dig D W) else 0):=by
 have hmix:∀W,mix D 0 (fun _=>0) W=dig D W:=fun W=>by funext j; simp [mix]
 unfold SW
 rw [←Qk2 V hf D.n 0 (fun _=>0) (by omega),Q00]
 exact X1 fun W _=>by rw [hmix]
theorem Qxk (V:VN D) {m v k:Nat} {K:Nat → Int}:0≤SW D K (at' v k (fS D m))∧(SW D K (at' v k (fS D m))).natAbs≤MX:=by
 have h1:0≤SW D K (at' v k (fS D m)):=Qif (fun w=>by unfold at'; split; exact Qnu V; exact Int.le_refl _) _ _ _
 have h2:=Qyo V (m:=1024) (E:=K) V.worlds (Q2a (v:=v) (x:=k) (Qyi V (m:=m)))
 unfold BD KK at h2
 refine ⟨h1,?_⟩
 unfold MX; omega
end
end Go.Ab
namespace Go.Ab
open Go
open Classical
set_option maxRecDepth 100000
set_option maxHeartbeats 400000
def num (c w:Nat → Nat):Nat → Nat
 | 0=>0
 | n+1=>num c w n*c n+w n
def pd (c:Nat → Nat):Nat → Nat → Nat → Nat
 | 0,_,_=>0
 | n+1,k,j=>if j=n then k % c n else pd c n (k / c n) j
theorem Qnh {c w w':Nat → Nat}:∀{n:Nat},(∀j,j < n→w j=w' j)→num c w n=num c w' n
 | 0,_=>rfl
 | n+1,h=>by unfold num; rw [Qnh fun j hj=>h j (by omega),h n (by omega)]
theorem Qqh {c w:Nat → Nat}:∀{n:Nat},(∀j,j < n→w j < c j)→num c w n < Qh n c
 | 0,_=>by simp [num,Qh]
 | n+1,h=>by
  have h1:=Qqh (n:=n) fun j hj=>h j (by omega)
  have h2:=h n (by omega)
  unfold num Qh
  have:(num c w n+1)*c n≤Qh n c*c n:=Nat.mul_le_mul_right _ h1
  rw [Nat.succ_mul] at this
  omega
theorem Qlp {c w:Nat → Nat}:∀{n:Nat},(∀j,j < n→w j < c j)→∀j,j < n→pd c n (num c w n) j=w j
 | 0,_,j,hj=>by omega
 | n+1,h,j,hj=>by
  have h2:=h n (by omega)
  unfold pd num
  by_cases e:j=n
  ·subst e; rw [if_pos rfl,Nat.mul_comm,Nat.mul_add_mod,Nat.mod_eq_of_lt h2]
  ·rw [if_neg e,Nat.mul_comm,Nat.mul_add_div (by omega),Nat.div_eq_of_lt h2,Nat.add_zero]
   exact Qlp (fun j hj=>h j (by omega)) j (by omega)
end Go.Ab
namespace Go.Ab
open Go
set_option maxRecDepth 100000
set_option maxHeartbeats 400000
theorem Qxz (a b:Int):J8 a b=some (decide (a < b)):=by
 unfold J8 Jv
 rw [Option.bind_some,if_neg (by simp)]
theorem Qy8 {i j:Nat} (h:i+j < 1000):zw (Int.fdiv (zv (zw ((i:Int)+(j:Int)))) (2^min (Int.toNat 1) (IntKind.bits .u64)))=(((i+j) / 2:Nat):Int):=by
 rw [w64 (n:=(i:Int)+j) (by omega),show (i:Int)+j=((i+j:Nat):Int) by omega,Qdr (by omega),show min (Int.toNat 1) (IntKind.bits .u64)=1 from rfl,Qo9,w64 (by omega)]
theorem Q1w {l:List Nat} (hs:l.Pairwise (· < ·)) (hl:l.length≤8) {v:Nat} (hv:v ∉ l) :
  ∃pos:Nat,Z4 (nI l) (v:Int)=some ((pos:Int),false)∧pos≤l.length∧(∀(k:Nat) (p:Nat),l[k]?=some p→k < pos→p < v)∧(∀(k:Nat) (p:Nat),l[k]?=some p→pos≤k→v < p):=by
 have mono:∀(a b p r:Nat),l[a]?=some p→l[b]?=some r→a < b→p < r:=fun a b p r ha hb hab=>by
  obtain ⟨h1,e1⟩:=List.getElem?_eq_some_iff.1 ha
  obtain ⟨h2,e2⟩:=List.getElem?_eq_some_iff.1 hb
  have:=List.pairwise_iff_getElem.1 hs a b h1 h2 hab
  omega
 have hsp:=Y2 (body:=Xt (nI l) (v:Int)) (fun s=>∃i j:Nat,i≤j∧j≤l.length∧(∀(k:Nat) (p:Nat),l[k]?=some p→k < i→p < v)∧(∀(k:Nat) (p:Nat),l[k]?=some p→j≤k→v < p)∧s=((i:Int),(j:Int)))
  (fun s=>(s.2 - s.1).toNat) (fun r=>∃pos:Nat,r=((pos:Nat):Int)∧(pos≤l.length:Prop)∧(∀(k:Nat) (p:Nat),l[k]?=some p→k < pos→p < v)∧(∀(k:Nat) (p:Nat),l[k]?=some p→pos≤k→v < p))
  (fun s hs=>by
   obtain ⟨i,j,hij,hj,h1,h2,rfl⟩:=hs
   unfold Xt
   dsimp only
   by_cases c:i < j
   ·left
    have hm:(i+j) / 2 < l.length:=by omega
    rw [if_pos (by rw [decide_eq_true_eq]; omega),Qy8 (by omega),Qjb hm,Option.bind_some,Qxz,Option.bind_some]
    have hg:l[(i+j) / 2]?=some l[(i+j) / 2]:=List.getElem?_eq_getElem hm
    by_cases c2:l[(i+j) / 2] < v
    ·rw [if_pos (by rw [decide_eq_true_eq]; omega)]
     refine ⟨_,rfl,⟨(i+j) / 2+1,j,by omega,hj,fun k p hk hlt=>?_,h2,by rw [Qbe (by omega)]⟩,by dsimp only; rw [Qbe (by omega)]; omega⟩
     rcases Nat.lt_or_ge k ((i+j) / 2) with e | e
     ·have:=mono _ _ _ _ hk hg e; omega
     ·have:k=(i+j) / 2:=by omega
      subst this; rw [hg] at hk; cases hk; exact c2
    ·rw [if_neg (by rw [decide_eq_true_eq]; omega)]
     refine ⟨_,rfl,⟨i,(i+j) / 2,by omega,by omega,h1,fun k p hk hge=>?_,rfl⟩,by dsimp only; omega⟩
     have hne:l[(i+j) / 2]≠v:=fun e=>hv (e ▸ List.getElem_mem hm)
     rcases Nat.lt_or_ge ((i+j) / 2) k with e | e
     ·have:=mono _ _ _ _ hg hk e; omega
     ·have:k=(i+j) / 2:=by omega
      subst this; rw [hg] at hk; cases hk; omega
   ·right
    have:i=j:=by omega
    subst this
    rw [if_neg (by rw [decide_eq_true_eq]; omega)]
    exact ⟨_,rfl,i,rfl,hj,h1,h2⟩)
  fuel ((0:Nat),(l.length:Int)) ⟨0,l.length,by omega,by omega,fun k p _ h=>by omega,fun k p hk h=>by
   have:=(List.getElem?_eq_some_iff.1 hk).1; omega,rfl⟩ (by unfold fuel; simp; omega)
 obtain ⟨r,hr,pos,rfl,p1,p2,p3⟩:=hsp
 refine ⟨pos,?_,by exact_mod_cast p1,fun k p h1 h2=>p2 k p h1 (by exact_mod_cast h2),fun k p h1 h2=>p3 k p h1 (by exact_mod_cast h2)⟩
 unfold Z4
 rw [Qa8]
 refine X2 hr ?_
 by_cases c:pos < l.length
 ·have hg:l[pos]?=some l[pos]:=List.getElem?_eq_getElem c
  have:=p3 pos _ hg (Nat.le_refl _)
  rw [if_pos (by rw [decide_eq_true_eq]; omega),Qjb c,Option.bind_some,if_neg (by simp; omega)]
  unfold Vm
  rw [Option.bind_some,if_neg (by simp)]
 ·rw [if_neg (by rw [decide_eq_true_eq]; omega)]
theorem Q1o {l:List Nat} (hl:l.length≤8) {v pos:Nat} (hp:pos≤l.length):Qm1 (nI l) (pos:Int) (v:Int)=some (nI (l.take pos++v::l.drop pos)):=by
 unfold Qm1
 rw [Qa8,if_pos ⟨by omega,by omega,by omega⟩,Int.toNat_natCast]
 simp [nI]
end Go.Ab
namespace Go.Ab
open Go
set_option maxRecDepth 100000
set_option maxHeartbeats 400000
def plc (I c r x:Nat):Nat := (r / I*c+x)*I+r % I
def rwO (I c j:Nat):Nat := j / (I*c)*I+j % I
def vlO (I c j:Nat):Nat := j / I % c
section
variable {I c:Nat} (hI:0 < I) (hc:0 < c)
include hI hc
theorem Qrg {r x:Nat}:plc I c r x / I=r / I*c+x:=by
 unfold plc
 rw [Nat.mul_comm,Nat.mul_add_div hI,Nat.div_eq_of_lt (Nat.mod_lt _ hI),Nat.add_zero]
theorem Qy0 {r x:Nat}:plc I c r x % I=r % I:=by
 unfold plc
 rw [Nat.mul_comm,Nat.mul_add_mod,Nat.mod_mod]
theorem Qv0 {r x:Nat} (hx:x < c):vlO I c (plc I c r x)=x:=by
 unfold vlO
 rw [Qrg hI hc,Nat.mul_comm,Nat.mul_add_mod,Nat.mod_eq_of_lt hx]
theorem Qvr {r x:Nat} (hx:x < c):rwO I c (plc I c r x)=r:=by
 unfold rwO
 rw [Qy0 hI hc,←Nat.div_div_eq_div_mul,Qrg hI hc,Nat.mul_comm (r / I) c,Nat.mul_add_div hc,Nat.div_eq_of_lt hx,Nat.add_zero,Nat.mul_comm]
 exact Nat.div_add_mod r I
theorem Q0c {j:Nat}:plc I c (rwO I c j) (vlO I c j)=j:=by
 have h1:rwO I c j / I=j / (I*c):=by
  unfold rwO
  rw [Nat.mul_comm,Nat.mul_add_div hI,Nat.div_eq_of_lt (Nat.mod_lt _ hI),Nat.add_zero]
 have h2:rwO I c j % I=j % I:=by
  unfold rwO
  rw [Nat.mul_comm,Nat.mul_add_mod,Nat.mod_mod]
 unfold plc
 rw [h1,h2,←Nat.div_div_eq_div_mul]
 unfold vlO
 rw [Nat.mul_comm (j / I / c) c,Nat.div_add_mod,Nat.mul_comm]
 exact Nat.div_add_mod j I
theorem Q12 {H j:Nat} (hj:j < H*I*c):rwO I c j < H*I:=by
 have h1:j / (I*c) < H:=(Nat.div_lt_iff_lt_mul (Nat.mul_pos hI hc)).2 (by rw [←Nat.mul_assoc]; exact hj)
 have h2:=Nat.mod_lt j hI
 unfold rwO
 have:(j / (I*c)+1)*I≤H*I:=Nat.mul_le_mul_right _ h1
 rw [Nat.succ_mul] at this
 omega
theorem Q0x {H r x:Nat} (hr:r < H*I) (hx:x < c):plc I c r x < H*I*c:=by
 have h1:r / I < H:=(Nat.div_lt_iff_lt_mul hI).2 hr
 have h2:=Nat.mod_lt r hI
 unfold plc
 have h3:(r / I+1)*c≤H*c:=Nat.mul_le_mul_right _ h1
 rw [Nat.succ_mul] at h3
 have h4:(r / I*c+x+1)*I≤H*c*I:=Nat.mul_le_mul_right _ (by omega)
 rw [Nat.succ_mul] at h4
 have h5:H*c*I=H*I*c:=Nat.mul_right_comm _ _ _
 omega
end
theorem Qze {f:Nat → Nat} {l:List Nat}:Y0 f l=ix.lprodR f l:=by
 have:∀(l:List Nat) (r:Nat),l.foldl (fun r p=>r*f p) r=r*ix.lprodR f l:=fun l=>by
  induction l with
  | nil=>intro r; simp [ix.lprodR]
  | cons p l ih=>intro r; simp only [List.foldl_cons,ih,ix.lprodR,Nat.mul_assoc]
 unfold Y0
 rw [this,Nat.one_mul]
theorem Vh {f:Nat → Nat}:∀{a b:List Nat},ix.lprodR f (a++b)=ix.lprodR f a*ix.lprodR f b
 | [],b=>by simp [ix.lprodR]
 | p::a,b=>by simp only [List.cons_append,ix.lprodR,Vh (a:=a),Nat.mul_assoc]
theorem Qgl {f:Nat → Nat}:∀{l:List Nat},(∀p∈l,1≤f p)→1≤ix.lprodR f l
 | [],_=>Nat.le_refl _
 | p::l,h=>Nat.mul_pos (h p (by simp)) (Qgl fun q hq=>h q (by simp [hq]))
theorem Qhz {c w:Nat → Nat}:∀{a b:List Nat},ix c w (a++b)=ix c w a*ix.lprodR c b+ix c w b
 | [],b=>by simp [ix]
 | p::a,b=>by
  simp only [List.cons_append,ix,Qhz (a:=a),Vh]
  rw [Nat.add_mul,Nat.mul_assoc,Nat.add_assoc]
theorem Qod {c w:Nat → Nat}:∀{l:List Nat},(∀p∈l,w p < c p)→ix c w l < ix.lprodR c l
 | [],_=>by simp [ix,ix.lprodR]
 | p::l,h=>by
  have h1:=h p (by simp)
  have h2:=Qod (l:=l) fun q hq=>h q (by simp [hq])
  simp only [ix,ix.lprodR]
  have:(w p+1)*ix.lprodR c l≤c p*ix.lprodR c l:=Nat.mul_le_mul_right _ h1
  rw [Nat.succ_mul] at this
  omega
theorem Q0y {c w:Nat → Nat} {hi lo:List Nat} {v:Nat} (hlo:∀p∈lo,w p < c p) (hpos:∀p∈lo,1≤c p) (hv:w v < c v) :
  rwO (ix.lprodR c lo) (c v) (ix c w (hi++v::lo))=ix c w (hi++lo)∧vlO (ix.lprodR c lo) (c v) (ix c w (hi++v::lo))=w v:=by
 have hI:=Qgl hpos
 have hc:0 < c v:=by omega
 have h1:=Qod hlo
 have e:ix c w (hi++v::lo)=plc (ix.lprodR c lo) (c v) (ix c w (hi++lo)) (w v):=by
  unfold plc
  rw [Qhz,Qhz]
  have d1:(ix c w hi*ix.lprodR c lo+ix c w lo) / ix.lprodR c lo=ix c w hi:=by rw [Nat.mul_comm,Nat.mul_add_div hI,Nat.div_eq_of_lt h1,Nat.add_zero]
  have d2:(ix c w hi*ix.lprodR c lo+ix c w lo) % ix.lprodR c lo=ix c w lo:=by rw [Nat.mul_comm,Nat.mul_add_mod,Nat.mod_eq_of_lt h1]
  rw [d1,d2]
  simp only [ix,ix.lprodR]
  rw [Nat.add_mul,Nat.mul_assoc,Nat.add_assoc]
 rw [e]
 exact ⟨Qvr hI hc hv,Qv0 hI hc hv⟩
end Go.Ab
