/- Functions. No conditions. -/
import Derived.Test.YtiadakgfblkelaaProg
import Derived.Shelf.Lays2
import Derived.Test.YtiadakgfblkelaaW11
import Derived.KernelRfl
import Derived.Test.YtiadakgfblkelaaW12
set_option linter.all false
namespace Go.Ab
open Go Go.Shelf Go.Proofs
def Qyg:Go.Shelf.Ren:=⟨fun | 21=>131 | 27=>135 | 28=>136 | 35=>139 | 39=>140 | n=>n,fun | 22=>27 | 3=>3 | 4=>4 | 0=>0 | n=>n,fun | n=>n⟩
theorem Q49:Go.Proofs.Lays2.n21 Try.prog Qyg:={
 mixed:=by kernel_rfl,
 f21:=Try.func131.trans (congrArg some (by kernel_rfl)),
 f27:=Try.func135.trans (congrArg some (by kernel_rfl)),
 f28:=Try.func136.trans (congrArg some (by kernel_rfl)),
 f35:=Try.func139.trans (congrArg some (by kernel_rfl)),
 f39:=Try.func140.trans (congrArg some (by kernel_rfl)),
 t0:=Try.underlying0,
 a0:=Try.isAgg0,
 z0:=Try.sizeOf0,
 v0:=Try.zeroValue0,
 t3:=Try.underlying3,
 a3:=Try.isAgg3,
 z3:=Try.sizeOf3,
 v3:=Try.zeroValue3,
 t4:=Try.underlying4,
 a4:=Try.isAgg4,
 z4:=Try.sizeOf4,
 v4:=Try.zeroValue4,
 t22:=Try.underlying27,
 a22:=Try.isAgg27,
 z22:=Try.sizeOf27,
 v22:=Try.zeroValue27,
 i3:=by kernel_rfl }
end Go.Ab
namespace Go.Ab
open Go Go.Proofs
set_option maxRecDepth 100000
set_option maxHeartbeats 4000000
theorem Qsk:(Try.prog.follows .mixedOrders)=true:=by kernel_rfl
theorem Q1f:Qd5 Try.prog 60=true:=by kernel_rfl
theorem Q1j:Qd5 Try.prog 72=true:=by kernel_rfl
theorem Q1i:Qd5 Try.prog 73=true:=by kernel_rfl
theorem Qti:Qd5 Try.prog 93=true:=by kernel_rfl
section
attribute [local irreducible] RW WP
theorem Qe8 (p0:Int) (p1:(List Int)):Ct Try.prog 57 [vI p0,z1 p1] (Kc p0 p1) (fun x=>vB x) (fun x=>[]):=by
 refine hfn [] Try.func57 <| hop 2 (fun _=>Qj (enc:=eI) (l:=p1) (fl:=true) kr gE) <| hlp 1 (fun s1=>⟨[(0,vI s1.1),(7,z1 p1),(8,vI (zn p1)),(9,vI s1.2)],[],26⟩) (fun x=>match x with | .inl v=>(.ret,⟨[(4,vB false)],[],26⟩) | .inr v=>(.exit 0,⟨[(0,vI v)],[],26⟩)) (wz []) (fun s1=>?_) (hsm (fun x11=>?_) (fun x12=>?_))
 ·refine hbr 1 [10] (?_) ?_
  ·refine hbd fun a4 q5=>hop 1 (fun _=>Ql (enc:=eI) (l:=p1) (n:=s1.2) (fl:=true) (w:=1) (a:=a4) kr kr gE q5) <| hbr 5 [14,15] (hdx 6 (wz [])) <| ?_
   refine hbr 4 [18,19] (hdx 2 (wz [])) <| ?_
   refine hnx 7 (wz [])
  refine hdx 1 (wz [])
 ·refine hrt 0
 refine hrt 4
theorem Qdl (p0:Int) (p1:Int) (p2:Int) (p3:(List (List Int))):Ct Try.prog 58 [vI p0,vI p1,vI p2,z2 p3] (V5 p0 p1 p2 p3) (fun x=>vB x) (fun x=>[]):=by
 refine hfn [] Try.func58 <| hop 2 (fun _=>Qj (enc:=z1) (l:=p3) (fl:=false) kr gE) <| hbr 2 [14] (hrt 3) <| ?_
 refine hop 2 (fun _=>Qj (enc:=z1) (l:=p3) (fl:=false) kr gE) <| hlp 1 (fun s3=>⟨[(0,vI p0),(2,vI p2),(15,z2 p3),(16,vI (zn p3)),(17,vI s3)],[],32⟩) (fun x=>match x with | .inl v=>(.ret,⟨[(8,vB false)],[],32⟩) | .inr v=>(.exit 0,⟨[],[],32⟩)) (wz []) (fun s3=>?_) (hsm (fun x15=>?_) (fun x16=>?_))
 ·refine hbr 1 [18] (?_) ?_
  ·refine hbd fun a6 q7=>hop 1 (fun _=>Ql (enc:=z1) (l:=p3) (n:=s3) (fl:=false) (w:=1) (a:=a6) kr kr gE q7) <| hop 3 (fun _=>Qj (enc:=eI) (l:=a6) (fl:=true) kr gE) <| hbr 3 [24,25] (hdx 7 (wz [])) <| ?_
   refine hcl 2 [] (Qe8 p0 a6) fun x10 _=>hbr 2 [29,30] (hdx 2 (wz [])) <| ?_
   refine hnx 3 (wz [])
  refine hdx 1 (wz [])
 ·refine hrt 0
 refine hrt 2
theorem g_hidden_Check_ok (p0:Qb):Ct Try.prog 13 [.agg [vI p0.Grain,z1 p0.First,z2 p0.Step,z2 p0.Show]] (Y8 p0) (fun x=>vI x) (fun x=>[]):=by
 refine hfn [] Try.func13 <| hop 0 (fun _=>sgL false [] [] false gE) <| hop 3 (fun _=>Qj (enc:=eI) (l:=p0.First) (fl:=true) kr gE) <| hbr 5 [10,11] (hrt 22) <| ?_
 refine hbr 5 [14,15,16] (hrt 17) <| ?_
 refine hbr 4 [18,19,20] (hrt 13) <| ?_
 refine hbr 4 [22,23,24] (hrt 9) <| ?_
 refine hop 2 (fun _=>Qj (enc:=z1) (l:=p0.Show) (fl:=false) kr gE) <| hbr 3 [29,30] (hrt 3) <| ?_
 refine hbd fun a11 q12=>hop 3 (fun _=>Ql (enc:=z1) (l:=p0.Show) (n:=0) (fl:=false) (w:=1) (a:=a11) kr kr gE q12) <| hop 1 (fun _=>Qj (enc:=eI) (l:=a11) (fl:=true) kr gE) <| hbr 4 [37,38] (hrt 14) <| ?_
 refine hbr 4 [40,41,42] (hrt 10) <| ?_
 refine hcl 4 [] (Qe8 p0.Grain p0.First) fun x17 _=>hbr 2 [48,49] (hrt 3) <| ?_
 refine hcl 7 [] (Qdl p0.Grain (zn p0.First) (zn p0.First) p0.Step) fun x21 _=>hbr 2 [57,58] (hrt 12) <| ?_
 refine hcl 6 [] (Qdl p0.Grain (zn p0.First) (zn a11) p0.Show) fun x25 _=>hbr 2 [66,67] (hrt 3) <| ?_
 refine hrt 3
noncomputable abbrev o4_1:AObj:=oX true false 5 (.agg [vI 0,.nils,.nils,.nils,.nils])
theorem g_hidden_newWatcher_ok (p0:Qb) (p1:(List Int)):Ct Try.prog 60 [.agg [vI p0.Grain,z1 p0.First,z2 p0.Step,z2 p0.Show],z1 p1] (Zm p0 p1) (fun x=>.tup [.agg [vI x.1.Hidden.Grain,z1 x.1.Hidden.First,z2 x.1.Hidden.Step,z2 x.1.Hidden.Show,z1 x.1.seen],vI x.2]) (fun x=>[]):=by
 refine hfn [[.keep,.lst true,.lst false,.lst false,.lst true],[.keep]] Try.func60 <| hop 0 (fun _=>sgL false [] [] false gE) <| hop 0 (fun _=>sgL false [] [] false gE) <| hcl 2 [] (g_hidden_Check_ok p0) fun x1 _=>hbr 3 [12] (hrt 6) <| ?_
 refine hop 2 (fun _=>Qj (enc:=eI) (l:=p1) (fl:=true) kr gE) <| hbr 2 [17,18] (hrt 9) <| ?_
 refine hop 1 (fun _=>Qj (enc:=eI) (l:=p1) (fl:=true) kr gE) <| hbr 2 [21,22] (hrt 5) <| ?_
 refine hop 2 (fun _=>Qj (enc:=eI) (l:=p1) (fl:=true) kr gE) <| hlp 1 (fun s9=>⟨[(1,z1 p1),(2,.ptr 0 0 0),(4,.ptr 1 0 0),(24,z1 p1),(25,vI (zn p1)),(26,vI s9)],[oX true false 4 (.agg [vI p0.Grain,z1 p0.First,z2 p0.Step,z2 p0.Show]),o4_1],46⟩) (fun x=>match x with | .inl v=>(.ret,⟨[(4,.ptr 0 0 0),(5,vI 2)],[o4_1],46⟩) | .inr v=>(.exit 0,⟨[(1,z1 p1),(2,.ptr 0 0 0),(4,.ptr 1 0 0)],[oX true false 4 (.agg [vI p0.Grain,z1 p0.First,z2 p0.Step,z2 p0.Show]),o4_1],46⟩)) (wz [0,1]) (fun s9=>?_) (hsm (fun x21=>?_) (fun x22=>?_))
 ·refine hbr 1 [27] (?_) ?_
  ·refine hbd fun a12 q13=>hop 1 (fun _=>Ql (enc:=eI) (l:=p1) (n:=s9) (fl:=true) (w:=1) (a:=a12) kr kr gE q13) <| hbr 5 [31,32] (hdx 12 (wz [1])) <| ?_
   refine hbd fun a16 q17=>hop 3 (fun _=>Ql (enc:=z1) (l:=p0.Show) (n:=0) (fl:=false) (w:=1) (a:=a16) kr kr gE q17) <| hop 1 (fun _=>Qj (enc:=eI) (l:=a16) (fl:=true) kr gE) <| hbr 2 [39,40] (hdx 4 (wz [1])) <| ?_
   refine hnx 3 (wz [0,1])
  refine hdx 1 (wz [0,1])
 ·refine hrt 0
 refine hrt 6
theorem g_hidden_watcher_shown_ok (p0:Qc) (p1:Int) (p2:Int):Ct Try.prog 93 [.agg [vI p0.Hidden.Grain,z1 p0.Hidden.First,z2 p0.Hidden.Step,z2 p0.Hidden.Show,z1 p0.seen],vI p1,vI p2] (Z2 p0 p1 p2) (fun x=>vI x) (fun x=>[]):=by
 refine hfn [] Try.func93 <| hop 0 (fun _=>sgL false [] [] false gE) <| hbd fun a1 q2=>hop 4 (fun _=>Ql (enc:=eI) (l:=p0.seen) (n:=p1) (fl:=true) (w:=1) (a:=a1) kr kr gE q2) <| hbr 2 [12] (hrt 6) <| ?_
 refine hbd fun a5 q6=>hop 6 (fun _=>Ql (enc:=z1) (l:=p0.Hidden.Show) (n:=p2) (fl:=false) (w:=1) (a:=a5) kr kr gE q6) <| hop 4 (fun _=>Ql (enc:=eI) (l:=p0.seen) (n:=p1) (fl:=true) (w:=1) (a:=a1) kr kr gE q2) <| hbd fun a7 q8=>hop 1 (fun _=>Ql (enc:=eI) (l:=a5) (n:=a1) (fl:=true) (w:=1) (a:=a7) kr kr gE q8) <| hrt 3
noncomputable abbrev Kn (p0:Qc):AObj:=oX true false 5 (.agg [vI p0.Hidden.Grain,z1 p0.Hidden.First,z2 p0.Hidden.Step,z2 p0.Hidden.Show,z1 p0.seen])
noncomputable abbrev Q3n:AObj:=.loop 66 [(1,.ptr 0 0 0),(3,.ptr 1 0 0),(13,.fn (.func 124) [] [.ptr 2 0 0])] [14] (cA Try.f61 [true,true,false,true,true]) (cB Try.f61 [true,true,false,true,true]) .ready none
noncomputable abbrev Qqc:AObj:=.loop 66 [(1,.ptr 0 0 0),(3,.ptr 1 0 0),(13,.fn (.func 124) [] [.ptr 2 0 0])] [14] (cA Try.f61 [true,true,false,true,true]) (cB Try.f61 [true,true,false,true,true]) .busy none
theorem g_hidden_watcher_forward_ok (p0:Qc):Ct Try.prog 61 [.agg [vI p0.Hidden.Grain,z1 p0.Hidden.First,z2 p0.Hidden.Step,z2 p0.Hidden.Show,z1 p0.seen]] (Z8 p0) (fun x=>.ref 0 0 x.length) (fun x=>[oR false 1 z1 x]):=by
 refine hfn [] Try.func61 <| hop 0 (fun _=>sgL false [] [] false gE) <| hil 2 Try.func91 <| hop 0 (fun _=>sgL false [] [] false gE) <| hop 3 (fun _=>Qj (enc:=eI) (l:=p0.seen) (fl:=true) kr gE) <| hoh 0 (fun _ _ h k=>mkL (enc:=fun _=>AV.nils) (z:=([]:(List Int))) (z0:=AV.nils) (n:=(zn p0.seen)) (m:=(zn p0.seen)) (w:=1) (bytes:=24) [] false kr kr gE kr h k) <| hwk 1 (wfam 2 1 true (zt (zn p0.seen)) eI (nr0:=true) (fl0:=false) (x0:=([]:List Int)) (enc1:=fun _=>AV.nils)) <| hlp 3 (fun s1=>⟨[(1,.ptr 1 0 0),(3,.ref 2 0 s1.2.length),(10,vI (((List.replicate (zt (zn p0.seen)) ([]:(List Int))).length):Int)),(11,vI s1.1)],[(Kn p0),(Kn p0),.refs 3 (eF eI s1.2),.fam 1 true (eF eI s1.2)],24⟩) (fun v=>(.exit 0,⟨[(3,.ref 1 0 v.length)],[(Kn p0),.refs 2 (eF eI v),.fam 1 true (eF eI v)],24⟩)) (wz [1,2,3]) (fun s1=>?_) fun x8=>?_
 ·refine hbr 1 [12] (?_) ?_
  ·refine hop 8 (fun _=>Qj (enc:=eI) (l:=p0.Hidden.First) (fl:=true) kr gE) <| hoh 0 (fun _ _ h k=>mkL (enc:=eI) (z:=(0:Int)) (z0:=vI 0) (n:=(zn p0.Hidden.First)) (m:=(zn p0.Hidden.First)) (w:=1) (bytes:=8) [] true kr kr gE kr h k) <| hbd fun a4 q5=>hop 0 (fun _=>Qb6 (enc:=eI) (ls:=s1.2) (x:=a4) (n:=s1.1) (ob:=2) (j:=3) kr kr q5 gE) <| hop 0 (fun _=>Qoa (enc:=eI) (ls:=s1.2) (x:=a4) (n:=s1.1) (ob:=2) (j:=3) (m:=4) (q:=(List.replicate (zt (zn p0.Hidden.First)) (0:Int)).length) kr kr q5 kr gE kr) <| hwk 0 (Q3 (Q32 2 3 4 [1,3,10,11,12,13,4,14,15,16,17,18,19,21] q5 (w:=1) (fl:=true) (enc:=eI) (ls:=s1.2) (x:=a4) (b:=(List.replicate (zt (zn p0.Hidden.First)) (0:Int))) (n:=s1.1)) (wkw [3,14] (ls s1.2 (zt s1.1) (List.replicate (zt (zn p0.Hidden.First)) (0:Int))))) <| hnx 2 (wz [1,2,3])
  refine hdx 1 (wz [2,3])
 refine hwk 2 (wl [2] [1,2]) <| hop 1 (fun _=>sgL false [] [] false gE) <| hil 2 Try.func92 <| hop 0 (fun _=>sgL false [] [] false gE) <| hop 2 (fun _=>sgL false [] [] false gE) <| hiN 6 Try.func110 <| hop 0 (fun _=>sgL false [] [] false gE) <| hwk 3 (wl [2] [6]) <| hwk 2 (wl [4] [6]) <| ?_
 refine hwk 1 (wl [1,3,13] [0,3,4,1,2]) <| hrg 0 Try.func124 <| hop 2 (fun _=>Qj (enc:=eI) (l:=p0.seen) (fl:=true) kr gE) <| hlp 1 (fun s9=>⟨[(0,.yld 5),(6,vI (zn p0.seen)),(7,vI s9.1)],[(Kn p0),oX false false 1 (.ref 3 0 s9.2.length),(Kn p0),.refs 4 (eF eI s9.2),.fam 1 true (eF eI s9.2),Q3n],15⟩) (fun v=>(.exit 0,⟨[],[(Kn p0),oX false false 1 (.ref 3 0 v.length),(Kn p0),.refs 4 (eF eI v),.fam 1 true (eF eI v),Q3n],15⟩)) (wz []) (fun s9=>?_) fun x49=>?_
 ·refine hbr 1 [8] (?_) ?_
  ·refine hyl 5 <| hop 4 (fun _=>Qj (enc:=eI) (l:=p0.Hidden.First) (fl:=true) kr gE) <| hlp 1 (fun s12=>⟨[(1,.ptr 0 0 0),(3,.ptr 1 0 0),(4,vI s9.1),(17,z1 p0.Hidden.First),(18,vI (zn p0.Hidden.First)),(19,vI s12.1)],[(Kn p0),oX false false 1 (.ref 3 0 s12.2.length),(Kn p0),.refs 4 (eF eI s12.2),.fam 1 true (eF eI s12.2),Qqc],66⟩) (fun v=>(.exit 2,⟨[],[(Kn p0),oX false false 1 (.ref 3 0 v.length),(Kn p0),.refs 4 (eF eI v),.fam 1 true (eF eI v),Qqc],66⟩)) (wz []) (fun s12=>?_) fun x47=>?_
   ·refine hbr 1 [20] (?_) ?_
    ·refine hbd fun a15 q16=>hop 2 (fun _=>Ql (enc:=eI) (l:=p0.Hidden.First) (n:=s12.1) (fl:=true) (w:=1) (a:=a15) kr kr gE q16) <| hbr 7 [26] (?_) ?_
     ·refine hbd fun a19 q20=>hop 5 (fun _=>Qb6 (enc:=eI) (ls:=s12.2) (x:=a19) (n:=zw (s9.1 - 1)) (ob:=3) (j:=4) kr kr q20 gE) <| hop 0 (fun _=>Qdh (enc:=eI) (ls:=s12.2) (x:=a19) (n:=zw (s9.1 - 1)) (ob:=3) (j:=4) kr kr q20 gE) <| hwk 2 (Qcm 31 (o:=4) (i:=zt (zw (s9.1 - 1))) (n:=a19.length) kr rfl) <| hlp 0 (fun s21=>⟨[(1,.ptr 0 0 0),(3,.ptr 1 0 0),(4,vI s9.1),(5,vI s12.1),(7,vI s21.1),(17,z1 p0.Hidden.First),(18,vI (zn p0.Hidden.First)),(19,vI s12.1),(31,.lin 4 (zt (zw (s9.1 - 1))) a19.length),(32,vI (zn a19)),(33,vI s21.2)],[(Kn p0),oX false false 1 (.ref 3 0 s12.2.length),(Kn p0),.refs 4 (eF eI s12.2),.fam 1 true (eF eI s12.2),Qqc],66⟩) (fun v=>(.exit 4,⟨[(1,.ptr 0 0 0),(3,.ptr 1 0 0),(4,vI s9.1),(5,vI s12.1),(7,vI v),(17,z1 p0.Hidden.First),(18,vI (zn p0.Hidden.First)),(19,vI s12.1)],[(Kn p0),oX false false 1 (.ref 3 0 s12.2.length),(Kn p0),.refs 4 (eF eI s12.2),.fam 1 true (eF eI s12.2),Qqc],66⟩)) (wz []) (fun s21=>?_) fun x31=>?_
      ·refine hbr 1 [34] (?_) ?_
       ·refine hwk 1 (Qdv 31 (o:=4) (i:=zt (zw (s9.1 - 1))) (n:=a19.length) kr rfl) <| hbd fun a24 q25=>hop 1 (fun _=>Qhh (enc:=eI) (ls:=s12.2) (x:=a19) (y:=a24) (n:=zw (s9.1 - 1)) (c:=s21.2) (w:=1) (j:=4) (fl:=true) kr kr q20 q25 kr gE) <| hop 0 (fun _=>Ql3 (enc:=eI) (ls:=s12.2) (x:=a19) (y:=a24) (n:=zw (s9.1 - 1)) (m:=s21.2) (w:=1) (j:=4) (c:=0) (fl:=true) kr kr q20 q25 kr gE) <| hwk 2 (Qcm 31 (o:=4) (i:=zt (zw (s9.1 - 1))) (n:=a19.length) kr rfl) <| hbd fun a26 q27=>hop 6 (fun _=>Ql (enc:=z1) (l:=p0.Hidden.Step) (n:=s21.2) (fl:=false) (w:=1) (a:=a26) kr kr gE q27) <| hbd fun a28 q29=>hop 2 (fun _=>Ql (enc:=eI) (l:=a26) (n:=s12.1) (fl:=true) (w:=1) (a:=a28) kr kr gE q29) <| ?_
        refine hnx 6 (wz [])
       refine hdx 1 (wz [])
      refine hbd fun a32 q33=>hop 3 (fun _=>Qb6 (enc:=eI) (ls:=s12.2) (x:=a32) (n:=s9.1) (ob:=3) (j:=4) kr kr q33 gE) <| hop 0 (fun _=>Qdh (enc:=eI) (ls:=s12.2) (x:=a32) (n:=s9.1) (ob:=3) (j:=4) kr kr q33 gE) <| hcl 5 [] (g_hidden_watcher_shown_ok p0 s9.1 s12.1) fun x34 _=>hbd fun a36 q37=>hop 1 (fun _=>Qhh (enc:=eI) (ls:=s12.2) (x:=a32) (y:=a36) (n:=s9.1) (c:=s12.1) (w:=1) (j:=4) (fl:=true) kr kr q33 q37 kr gE) <| hop 0 (fun _=>Qea (enc:=eI) (ls:=s12.2) (x:=a32) (y:=a36) (y':=zw (x31*x34)) (n:=s9.1) (m:=s12.1) (w:=1) (j:=4) (q:=3) (c:=0) (fl:=true) (v:=vI (zw (x31*x34))) kr kr kr q33 q37 kr kr kr kr gE) <| hkn 0 (fun n38=>⟨[(1,.ptr 0 0 0),(3,.ptr 1 0 0),(4,vI s9.1),(5,vI s12.1),(7,vI x31),(17,z1 p0.Hidden.First),(18,vI (zn p0.Hidden.First)),(19,vI s12.1),(52,.ref 3 0 n38),(53,vI s9.1),(54,.ptr 3 (zt s9.1) 0),(55,.ref (fid 4 (zt s9.1)) 0 a32.length),(56,vI s12.1),(57,vI x31),(58,.agg [vI p0.Hidden.Grain,z1 p0.Hidden.First,z2 p0.Hidden.Step,z2 p0.Hidden.Show,z1 p0.seen]),(59,vI s9.1),(60,vI s12.1),(61,vI x34),(62,vI (zw (x31*x34))),(63,.ptr (fid 4 (zt s9.1)) (zt s12.1) 0)],[(Kn p0),oX false false 1 (.ref 3 0 n38),(Kn p0),.refs 4 (eF eI (List.set s12.2 (zt s9.1) (List.set a32 (zt s12.1) (zw (x31*x34))))),.fam 1 true (eF eI (List.set s12.2 (zt s9.1) (List.set a32 (zt s12.1) (zw (x31*x34))))),Qqc],66⟩) (ls s12.2 (zt s9.1) (List.set a32 (zt s12.1) (zw (x31*x34)))) <| hnx 2 (wz [])
     refine hbd fun a39 q40=>hop 4 (fun _=>Qb6 (enc:=eI) (ls:=s12.2) (x:=a39) (n:=s9.1) (ob:=3) (j:=4) kr kr q40 gE) <| hop 0 (fun _=>Qdh (enc:=eI) (ls:=s12.2) (x:=a39) (n:=s9.1) (ob:=3) (j:=4) kr kr q40 gE) <| hcl 5 [] (g_hidden_watcher_shown_ok p0 s9.1 s12.1) fun x41 _=>hbd fun a43 q44=>hop 1 (fun _=>Qhh (enc:=eI) (ls:=s12.2) (x:=a39) (y:=a43) (n:=s9.1) (c:=s12.1) (w:=1) (j:=4) (fl:=true) kr kr q40 q44 kr gE) <| hop 0 (fun _=>Qea (enc:=eI) (ls:=s12.2) (x:=a39) (y:=a43) (y':=zw (a15*x41)) (n:=s9.1) (m:=s12.1) (w:=1) (j:=4) (q:=3) (c:=0) (fl:=true) (v:=vI (zw (a15*x41))) kr kr kr q40 q44 kr kr kr kr gE) <| hkn 0 (fun n45=>⟨[(1,.ptr 0 0 0),(3,.ptr 1 0 0),(4,vI s9.1),(17,z1 p0.Hidden.First),(18,vI (zn p0.Hidden.First)),(19,vI s12.1),(20,vB true),(21,vI s12.1),(22,.fz [vI a15]),(23,vI a15),(5,vI s12.1),(6,vI a15),(24,vI a15),(7,vI a15),(25,vI s9.1),(26,vB false),(52,.ref 3 0 n45),(53,vI s9.1),(54,.ptr 3 (zt s9.1) 0),(55,.ref (fid 4 (zt s9.1)) 0 a39.length),(56,vI s12.1),(57,vI a15),(58,.agg [vI p0.Hidden.Grain,z1 p0.Hidden.First,z2 p0.Hidden.Step,z2 p0.Hidden.Show,z1 p0.seen]),(59,vI s9.1),(60,vI s12.1),(61,vI x41),(62,vI (zw (a15*x41))),(63,.ptr (fid 4 (zt s9.1)) (zt s12.1) 0)],[(Kn p0),oX false false 1 (.ref 3 0 n45),(Kn p0),.refs 4 (eF eI (List.set s12.2 (zt s9.1) (List.set a39 (zt s12.1) (zw (a15*x41))))),.fam 1 true (eF eI (List.set s12.2 (zt s9.1) (List.set a39 (zt s12.1) (zw (a15*x41))))),Qqc],66⟩) (ls s12.2 (zt s9.1) (List.set a39 (zt s12.1) (zw (a15*x41)))) <| hnx 2 (wz [])
    refine hdx 1 (wz [])
   refine hnx 4 (wz [])
  refine hdx 1 (wz [])
 refine hwk 2 (wl [2] [3,4]) <| hwk 0 (Q4n 0 1 (w:=1) (fl:=true) (enc:=eI) (ls:=x49)) <| hrt 1
theorem g_hidden_Forward_ok (p0:Qb) (p1:(List Int)):Ct Try.prog 16 [.agg [vI p0.Grain,z1 p0.First,z2 p0.Step,z2 p0.Show],z1 p1] (Qf2 p0 p1) (fun x=>.tup [.ref 0 0 x.1.length,vI x.2]) (fun x=>[oR false 1 z1 x.1]):=by
 refine hfn [] Try.func16 <| hop 0 (fun _=>sgL false [] [] false gE) <| hcl 4 [] (g_hidden_newWatcher_ok p0 p1) fun x1 _=>hop 3 (fun _=>sgL false [] [] false gE) <| hbr 4 [15] (hwk 4 (wl [4,5] []) <| hwk 0 (Zv 4 1 true false gE) <| hrt 1) <| ?_
 refine hcl 2 [] (g_hidden_watcher_forward_ok x1.1) fun x5 _=>hrt 3
end
noncomputable abbrev o8_5 (p0:Qc):AObj:=oX true false 5 (.agg [vI p0.Hidden.Grain,z1 p0.Hidden.First,z2 p0.Hidden.Step,z2 p0.Hidden.Show,z1 p0.seen])
noncomputable abbrev o8_6 (s1:(Int × (List (List Int)))) (p0:Qc):AObj:=.refs 3 (eF eI (List.set s1.2 (zt s1.1) (List.replicate (zt (zn p0.Hidden.First)) (0:Int))))
noncomputable abbrev o8_7 (s1:(Int × (List (List Int)))) (p0:Qc):AObj:=.fam 1 true (eF eI (List.set s1.2 (zt s1.1) (List.replicate (zt (zn p0.Hidden.First)) (0:Int))))
noncomputable abbrev Qud:AObj:=.loop 72 [(1,.ptr 0 0 0),(3,.ptr 1 0 0),(11,.fn (.func 125) [] [.ptr 2 0 0])] [12] (cA Try.f62 [true,true,false,true,true]) (cB Try.f62 [true,true,false,true,true]) .ready none
noncomputable abbrev o8_9:AObj:=.loop 72 [(1,.ptr 0 0 0),(3,.ptr 1 0 0),(11,.fn (.func 125) [] [.ptr 2 0 0])] [12] (cA Try.f62 [true,true,false,true,true]) (cB Try.f62 [true,true,false,true,true]) .busy none
noncomputable abbrev Qgy (p0:Qc):Nat×AV:=(0,.agg [vI p0.Hidden.Grain,z1 p0.Hidden.First,z2 p0.Hidden.Step,z2 p0.Hidden.Show,z1 p0.seen])
noncomputable abbrev Q10 (p0:Qc):Nat×AV:=(10,vI (((List.replicate (zt (zn p0.seen)) ([]:(List Int))).length):Int))
noncomputable abbrev e8_12:Nat×AV:=(1,.ptr 0 0 0)
noncomputable abbrev e8_13:Nat×AV:=(3,.ptr 1 0 0)
noncomputable abbrev Qrw:Nat×AV:=(11,.fn (.func 125) [] [.ptr 2 0 0])
noncomputable abbrev e8_15 (p0:Qc):Nat×AV:=(16,vI (zn p0.Hidden.First))
noncomputable abbrev Qog (p0:Qc) (s12:(Int × (List (List Int)))):List AObj:=[(o8_5 p0),oX false false 1 (.ref 3 0 s12.2.length),(o8_5 p0),.refs 4 (eF eI s12.2),.fam 1 true (eF eI s12.2),o8_9]
noncomputable abbrev Qxo (p0:Qc) (s9:(Int × (List (List Int)))):List AObj:=[(o8_5 p0),oX false false 1 (.ref 3 0 s9.2.length),(o8_5 p0),.refs 4 (eF eI s9.2),.fam 1 true (eF eI s9.2)]
noncomputable abbrev Qwm (p0:Qc) (x8:(List (List Int))):List AObj:=[(o8_5 p0),.refs 2 (eF eI x8),.fam 1 true (eF eI x8),oX false false 1 (.ref 1 0 x8.length)]
noncomputable abbrev s8_19 (a0 a1:Nat×AV) (p0:Qc) (s1:(Int × (List (List Int)))):List (Nat×AV):=[(1,.ptr 1 0 0),a0,(Q10 p0),(11,vI s1.1),(12,vB true),(13,vI s1.1),(4,vI s1.1),a1,(15,vI s1.1),(16,.ptr 1 0 0),(17,.ptr 1 0 1),(18,z1 p0.Hidden.First),(19,vI (zn p0.Hidden.First))]
noncomputable abbrev Q18 (p0:Qc):List (Nat×AV):=[(Qgy p0),(1,.ptr 1 0 0),(2,.nils),(5,.ptr 1 0 4),(6,z1 p0.seen),(7,vI (zn p0.seen)),(8,.ref 2 0 ((List.replicate (zt (zn p0.seen)) ([]:(List Int))).length)),(3,.ref 2 0 ((List.replicate (zt (zn p0.seen)) ([]:(List Int))).length))]
noncomputable abbrev s8_21 (s9 s12:(Int × (List (List Int)))) (p0:Qc) (a22:(List Int)):List (Nat×AV):=[e8_12,e8_13,(4,vI s9.1),(5,vI s12.1),(e8_15 p0),(17,vI s12.1),(36,.lin 4 (zt (zw (s9.1+1))) a22.length),(37,vI (zn a22))]
noncomputable abbrev Q1v (p0:Qc):St:=⟨(Q18 p0),[(o8_5 p0),(o8_5 p0),.refs 3 (eF eI (List.replicate (zt (zn p0.seen)) ([]:(List Int)))),.fam 1 true (eF eI (List.replicate (zt (zn p0.seen)) ([]:(List Int))))],24⟩
noncomputable abbrev Q2b (s9:(Int × (List (List Int)))) (p0:Qc) (s12:(Int × (List (List Int)))) (a22:(List Int)):St:=⟨[e8_12,e8_13,(4,vI s9.1),(e8_15 p0),(17,vI s12.1),(5,vI s12.1),(32,.ref 3 0 s12.2.length),(33,vI s9.1),(34,vI (zw (s9.1+1))),(35,.ptr 3 (zt (zw (s9.1+1))) 0),(36,.lin 4 (zt (zw (s9.1+1))) a22.length),(37,vI (zn a22)),(38,vI 0)],(Qog p0 s12),72⟩
theorem Qdq (p0:Qc) (x:(List (List Int))) (h:Z3 p0=some x):Zd Try.prog 62 [.agg [vI p0.Hidden.Grain,z1 p0.Hidden.First,z2 p0.Hidden.Step,z2 p0.Hidden.Show,z1 p0.seen]] (.ret (.ref 0 0 x.length) [oR false 1 z1 x]):=by
 refine Qw2 [] Try.func62 rfl (by decide +kernel) rfl ?_
 unfold Z3 at h
 refine Ka (base':=0) (st':=⟨[(Qgy p0)],[],72⟩) kr kr ?_
 refine Qk (Zb ?_)
 refine sgL false [] [] false gE ?_
 refine sz 1 2 (Q1 rfl (Qk ?_))
 refine Q5 ?_
 refine Zb (sz 1 1 ?_)
 refine Qp4 (f:=91) (fn:=Try.f91) (as0:=[.agg [vI p0.Hidden.Grain,z1 p0.Hidden.First,z2 p0.Hidden.Step,z2 p0.Hidden.Show,z1 p0.seen]]) kr Try.func91 rfl (by decide +kernel) rfl ?_
 refine Ka (base':=1) (st':=⟨[(Qgy p0)],[(o8_5 p0)],24⟩) kr kr ?_
 refine Qk (Zb ?_)
 refine sgL false [] [] false gE ?_
 refine sz 1 2 (Q1 rfl (Qk ?_))
 refine Q5 ?_
 refine Zb (sz 2 2 ?_)
 refine Qj (enc:=eI) (l:=p0.seen) (fl:=true) kr gE ?_
 refine mkL (enc:=fun _=>AV.nils) (z:=([]:(List Int))) (z0:=AV.nils) (n:=(zn p0.seen)) (m:=(zn p0.seen)) (w:=1) (bytes:=24) [] false kr rfl gE kr h (fun h=>?_)
 refine sgz 1 5 (S:=⟨(Q18 p0),[(o8_5 p0),(o8_5 p0),.row false false true false 1 (List.map (fun _=>AV.nils) (List.replicate (zt (zn p0.seen)) ([]:(List Int))))],24⟩) ?_
 refine Q1 rfl ?_
 refine ⟨(Q1v p0),(Qr3 2 1 true eI (n:=(zt (zn p0.seen))) (nr0:=true) (fl0:=false) (x0:=([]:List Int)) (enc1:=fun _=>AV.nils) (st':=(Q1v p0)) rfl rfl rfl (by kernel_rfl)),?_⟩
 refine Qk (Qk (wg [1,3] [1,2,3] (rn (Zn ?_))))
 refine wwh h (fun s1=>⟨[(1,.ptr 1 0 0),(3,.ref 2 0 s1.2.length),(Q10 p0),(11,vI s1.1)],[(o8_5 p0),(o8_5 p0),.refs 3 (eF eI s1.2),.fam 1 true (eF eI s1.2)],24⟩) (fun v out=>out=.go (.exit 0) ⟨[(3,.ref 1 0 v.length)],[(o8_5 p0),.refs 2 (eF eI v),.fam 1 true (eF eI v)],24⟩) (Q4 (live:=[1,3,10,11]) (keep:=[1,2,3]) kr) ?_ ?_
 ·intro s1 o h
  unfold Z9 at h
  refine sq (Qk ?_)
  refine wb [12] h (fun q3 h=>?_) (fun q3 h=>?_)
  ·refine wcT (wp_skip (Qk (Zn (sq ?_))))
   refine Q5 ?_
   refine Zb (sz 5 5 ?_)
   refine Qj (enc:=eI) (l:=p0.Hidden.First) (fl:=true) kr gE ?_
   refine mkL (enc:=eI) (z:=(0:Int)) (z0:=vI 0) (n:=(zn p0.Hidden.First)) (m:=(zn p0.Hidden.First)) (w:=1) (bytes:=8) [] true kr rfl gE kr h (fun h=>?_)
   refine Q8 h (fun a4 q5 h=>?_)
   refine Qb6 (enc:=eI) (ls:=s1.2) (x:=a4) (n:=s1.1) (ob:=2) (j:=3) kr kr q5 gE ?_
   refine Qoa (enc:=eI) (ls:=s1.2) (x:=a4) (n:=s1.1) (ob:=2) (j:=3) (m:=4) (q:=(List.replicate (zt (zn p0.Hidden.First)) (0:Int)).length) (S:=⟨(s8_19 (3,.ref 2 0 s1.2.length) (14,.ref 2 0 s1.2.length) p0 s1)++[(20,.ref 4 0 ((List.replicate (zt (zn p0.Hidden.First)) (0:Int)).length)),(21,.ptr 2 (zt s1.1) 0)],[(o8_5 p0),(o8_5 p0),.row false false false false 1 ((Zk 3 0 (eF eI s1.2)).set (zt s1.1) (.ref 4 0 ((List.replicate (zt (zn p0.Hidden.First)) (0:Int)).length))),.fam 1 true (eF eI s1.2),oR true 1 eI (List.replicate (zt (zn p0.Hidden.First)) (0:Int))],24⟩) kr kr q5 kr kr kr ?_
   refine Q1 rfl ?_
   refine ⟨⟨(s8_19 (3,.ref 2 0 ((List.set s1.2 (zt s1.1) (List.replicate (zt (zn p0.Hidden.First)) (0:Int))).length)) (14,.ref 2 0 ((List.set s1.2 (zt s1.1) (List.replicate (zt (zn p0.Hidden.First)) (0:Int))).length)) p0 s1)++[(21,.ptr 2 (zt s1.1) 0)],[(o8_5 p0),(o8_5 p0),(o8_6 s1 p0),(o8_7 s1 p0),.dead],24⟩,(Q3 (Qm8 2 3 4 (w:=1) (fl:=true) (enc:=eI) (ls:=s1.2) (x:=a4) (b:=(List.replicate (zt (zn p0.Hidden.First)) (0:Int))) (n:=s1.1) [1,3,10,11,12,13,4,14,15,16,17,18,19,21] (st':=⟨(s8_19 (3,.ref 2 0 s1.2.length) (14,.ref 2 0 s1.2.length) p0 s1)++[(21,.ptr 2 (zt s1.1) 0)],[(o8_5 p0),(o8_5 p0),(o8_6 s1 p0),(o8_7 s1 p0),.dead],24⟩) rfl rfl rfl q5 (by kernel_rfl) (by kernel_rfl)) (Q16 (congrArg (fun n6=>(⟨(s8_19 (3,.ref 2 0 n6) (14,.ref 2 0 n6) p0 s1)++[(21,.ptr 2 (zt s1.1) 0)],[(o8_5 p0),(o8_5 p0),(o8_6 s1 p0),(o8_7 s1 p0),.dead],24⟩:St)) (show s1.2.length=(List.set s1.2 (zt s1.1) (List.replicate (zt (zn p0.Hidden.First)) (0:Int))).length by simp only [List.length_set])))),?_⟩
   refine wg [1,3,10,11] [1,2,3] (rn ?_)
   cases h
   exact ⟨_,rfl,(Q4 (live:=[1,3,10,11]) (keep:=[1,2,3]) kr)⟩
  refine wcF (wg [3] [2,3] ?_)
  refine Vx ?_
  cases h
  exact ⟨kr,rfl⟩
 intro x8 h out hx
 subst hx
 refine sq (wg [2] [1,2] ?_)
 refine Ks ?_
 refine ⟨⟨[(Qgy p0),e8_12,(2,.nils),(8,.agg [vI p0.Hidden.Grain,z1 p0.Hidden.First,z2 p0.Hidden.Step,z2 p0.Hidden.Show,z1 p0.seen]),(9,.ref 1 0 x8.length)],[(o8_5 p0),.refs 2 (eF eI x8),.fam 1 true (eF eI x8)],72⟩,by kernel_rfl,?_⟩
 refine sgL false [] [] false gE ?_
 refine sz 1 4 (Q1 rfl ?_)
 refine ⟨_,Zq,?_⟩
 refine Qk (Qk ?_)
 refine Q5 ?_
 refine Zb (sz 1 1 ?_)
 refine Qp4 (f:=92) (fn:=Try.f92) (as0:=[.agg [vI p0.Hidden.Grain,z1 p0.Hidden.First,z2 p0.Hidden.Step,z2 p0.Hidden.Show,z1 p0.seen],vI 1]) kr Try.func92 rfl (by decide +kernel) rfl ?_
 refine Ka (base':=4) (st':=⟨[(Qgy p0),(1,vI 1)],(Qwm p0 x8),12⟩) kr kr ?_
 refine Qk (Zb ?_)
 refine sgL false [] [] false gE ?_
 refine sz 1 2 (Q1 rfl (Qk ?_))
 refine Q5 ?_
 refine Zb (sz 1 1 ?_)
 refine sgL false [] [] false gE ?_
 refine sz 1 3 (Q1 rfl ?_)
 refine ⟨_,Zq,?_⟩
 refine Qk ?_
 refine Q5 ?_
 refine rga Qsk (sy 4 4 ?_)
 refine Qz7 (f:=111) (fn:=Try.f111) (as0:=[.agg [vI p0.Hidden.Grain,z1 p0.Hidden.First,z2 p0.Hidden.Step,z2 p0.Hidden.Show,z1 p0.seen]]) kr kr Try.func111 rfl (by decide +kernel) rfl ?_
 refine Ka (base':=6) (st':=⟨[(Qgy p0)],[.dead,.dead,.dead,.dead,.dead,.dead],4⟩) kr kr ?_
 refine Qk (Zb ?_)
 refine sgL false [] [] false gE ?_
 refine sz 1 2 (Q1 rfl (sq (wg [2] [6] ?_)))
 refine Ks ?_
 refine ⟨⟨[(Qgy p0),(1,vI 1),(2,.ptr 4 0 0),(4,.nilf),(6,.agg [.fn (.func 110) [] [],.fn (.func 111) [] []]),(5,.ptr 5 0 0),(7,vI 1),(8,.ptr 5 0 1),(9,.fn (.func 111) [] []),(10,.agg [vI p0.Hidden.Grain,z1 p0.Hidden.First,z2 p0.Hidden.Step,z2 p0.Hidden.Show,z1 p0.seen]),(11,.fn (.func 125) [] [.ptr 6 0 0])],(Qwm p0 x8)++[(o8_5 p0),oX true false 2 (.agg [.fn (.func 110) [] [],.fn (.func 111) [] []]),(o8_5 p0)],12⟩,by kernel_rfl,?_⟩
 refine sy 1 6 (rgd ?_)
 refine ⟨_,Zq,?_⟩
 refine wg [4] [6] ?_
 refine Ks ?_
 refine ⟨⟨[(Qgy p0),e8_12,(2,.nils),(8,.agg [vI p0.Hidden.Grain,z1 p0.Hidden.First,z2 p0.Hidden.Step,z2 p0.Hidden.Show,z1 p0.seen]),(9,.ref 1 0 x8.length),(3,.ptr 3 0 0),(10,.agg [vI p0.Hidden.Grain,z1 p0.Hidden.First,z2 p0.Hidden.Step,z2 p0.Hidden.Show,z1 p0.seen]),(11,.fn (.func 125) [] [.ptr 4 0 0])],(Qwm p0 x8)++[(o8_5 p0)],72⟩,by kernel_rfl,?_⟩
 refine Q1 rfl ?_
 refine ⟨_,Zq,?_⟩
 refine Zn ?_
 refine wgc [1,3,11] [0,3,4,1,2] ⟨[e8_12,e8_13,Qrw],[(o8_5 p0),oX false false 1 (.ref 3 0 x8.length),(o8_5 p0),.refs 4 (eF eI x8),.fam 1 true (eF eI x8)],72⟩ ?_
 refine Qmv (f:=125) (fn:=Try.f125) (first:=[]) (caps:=[.ptr 2 0 0]) rfl Try.func125 rfl (by decide +kernel) rfl rfl ?_
 refine Ka (base':=6) (st':=⟨[(0,.yld 5),(1,.ptr 2 0 0)],[(o8_5 p0),oX false false 1 (.ref 3 0 x8.length),(o8_5 p0),.refs 4 (eF eI x8),.fam 1 true (eF eI x8),Qud],16⟩) kr kr ?_
 refine Qk ?_
 refine Q5 ?_
 refine Zb (sz 2 2 ?_)
 refine Qj (enc:=eI) (l:=p0.seen) (fl:=true) kr gE ?_
 refine sz 2 5 (Q1 rfl ?_)
 refine ⟨_,Zq,?_⟩
 refine Zn ?_
 refine wwh h (fun s9=>⟨[(0,.yld 5),(3,vI s9.1)],(Qxo p0 s9)++[Qud],16⟩) (fun v out=>out=.go (.exit 0) ⟨[],[(o8_5 p0),oX false false 1 (.ref 3 0 v.length),(o8_5 p0),.refs 4 (eF eI v),.fam 1 true (eF eI v),Qud],16⟩) (Q4 (live:=[0,3]) (keep:=[]) kr) ?_ ?_
 ·intro s9 o h
  unfold Zh at h
  refine Qk (sq ?_)
  refine wb [9] h (fun q11 h=>?_) (fun q11 h=>?_)
  ·refine wcT (wp_skip (Qk (Zn (Qk ?_))))
   refine Q5 ?_
   refine Zb (sz 2 2 ?_)
   refine Q01 (l:=5) (nt:=72) (us:=[vI s9.1]) (sl:=[(1,.ptr 0 0 0),(3,.ptr 1 0 0),(11,.fn (.func 125) [] [.ptr 2 0 0])]) (ps:=[12]) (assign:=cA Try.f62 [true,true,false,true,true]) (body:=cB Try.f62 [true,true,false,true,true]) (pe:=none) kr kr rfl ?_
   refine Ka (base':=6) (st':=⟨[e8_12,e8_13,Qrw,(12,vI s9.1)],(Qxo p0 s9)++[Qud],72⟩) kr kr ?_
   refine rn ?_
   refine ⟨⟨[e8_12,e8_13,Qrw,(12,vI s9.1),(4,vI s9.1)],(Qxo p0 s9)++[o8_9],72⟩,by kernel_rfl,?_⟩
   refine Zn (Qk ?_)
   refine Q5 ?_
   refine Zb (sz 3 3 ?_)
   refine Qj (enc:=eI) (l:=p0.Hidden.First) (fl:=true) kr gE ?_
   refine sz 1 5 (Q1 rfl ?_)
   refine ⟨_,Zq,?_⟩
   refine Zn ?_
   refine wwh h (fun s12=>⟨[e8_12,e8_13,(4,vI s9.1),(e8_15 p0),(17,vI s12.1)],(Qog p0 s12),72⟩) (fun v out=>out=.go (.exit 2) ⟨[],[(o8_5 p0),oX false false 1 (.ref 3 0 v.length),(o8_5 p0),.refs 4 (eF eI v),.fam 1 true (eF eI v),o8_9],72⟩) (Q4 (live:=[1,3,4,16,17]) (keep:=[]) kr) ?_ ?_
   ·intro s12 o h
    unfold Zi at h
    refine sq (Qk ?_)
    refine wb [18] h (fun q14 h=>?_) (fun q14 h=>?_)
    ·refine wcT (wp_skip (Qk (Zn (sq (Qk (Qk ?_))))))
     refine Q5 ?_
     refine Zb (sz 3 3 ?_)
     refine Qj (enc:=eI) (l:=p0.seen) (fl:=true) kr gE ?_
     refine sz 2 6 (Q1 rfl ?_)
     refine ⟨_,Zq,?_⟩
     refine wbz h (fun q16 h=>?_) (fun q16 h=>?_)
     ·refine Qk ?_
      refine wgc [1,3,4,16,17,5] [] ⟨[e8_12,e8_13,(4,vI s9.1),(e8_15 p0),(17,vI s12.1),(5,vI s12.1)],(Qog p0 s12),72⟩ ?_
      refine Q5 ?_
      refine Zb (sz 2 2 ?_)
      refine Q8 h (fun a17 q18 h=>?_)
      refine Qb6 (enc:=eI) (ls:=s12.2) (x:=a17) (n:=s9.1) (ob:=3) (j:=4) kr kr q18 gE ?_
      refine Qdh (enc:=eI) (ls:=s12.2) (x:=a17) (n:=s9.1) (ob:=3) (j:=4) kr kr q18 gE ?_
      refine sz 1 5 ?_
      refine Q8 h (fun a19 q20 h=>?_)
      refine Qhh (enc:=eI) (ls:=s12.2) (x:=a17) (y:=a19) (n:=s9.1) (c:=s12.1) (w:=1) (j:=4) (fl:=true) kr kr q18 q20 rfl gE ?_
      refine Qea (enc:=eI) (ls:=s12.2) (x:=a17) (y:=a19) (y':=1) (n:=s9.1) (m:=s12.1) (w:=1) (j:=4) (q:=3) (c:=0) (fl:=true) (v:=vI 1) kr kr kr q18 q20 rfl kr kr kr gE ?_
      refine Qp0 (n:=s12.2.length) (m:=(List.set s12.2 (zt s9.1) (List.set a17 (zt s12.1) 1)).length) (S:=fun n21=>⟨[e8_12,e8_13,(4,vI s9.1),(e8_15 p0),(17,vI s12.1),(5,vI s12.1),(26,.ref 3 0 n21),(27,vI s9.1),(28,.ptr 3 (zt s9.1) 0),(29,.ref (fid 4 (zt s9.1)) 0 a17.length),(30,vI s12.1),(31,.ptr (fid 4 (zt s9.1)) (zt s12.1) 0)],[(o8_5 p0),oX false false 1 (.ref 3 0 n21),(o8_5 p0),.refs 4 (eF eI (List.set s12.2 (zt s9.1) (List.set a17 (zt s12.1) 1))),.fam 1 true (eF eI (List.set s12.2 (zt s9.1) (List.set a17 (zt s12.1) 1))),o8_9],72⟩) (by simp only [List.length_set]) ?_
      refine Q1 rfl ?_
      refine ⟨_,Zq,?_⟩
      refine wg [1,3,4,16,17] [] ?_
      refine Vx ?_
      refine rn ?_
      cases h
      exact ⟨_,rfl,(Q4 (live:=[1,3,4,16,17]) (keep:=[]) kr)⟩
     refine wp_skip (Qk ?_)
     refine wgc [1,3,4,16,17,5] [] ⟨[e8_12,e8_13,(4,vI s9.1),(e8_15 p0),(17,vI s12.1),(5,vI s12.1)],(Qog p0 s12),72⟩ ?_
     refine Q5 ?_
     refine Zb (sz 3 3 ?_)
     refine Q8 h (fun a22 q23 h=>?_)
     refine Qb6 (enc:=eI) (ls:=s12.2) (x:=a22) (n:=zw (s9.1+1)) (ob:=3) (j:=4) kr kr q23 gE ?_
     refine Qdh (enc:=eI) (ls:=s12.2) (x:=a22) (n:=zw (s9.1+1)) (ob:=3) (j:=4) kr kr q23 gE ?_
     refine sgz 2 7 (S:=⟨[e8_12,e8_13,(4,vI s9.1),(e8_15 p0),(17,vI s12.1),(5,vI s12.1),(32,.ref 3 0 s12.2.length),(33,vI s9.1),(34,vI (zw (s9.1+1))),(35,.ptr 3 (zt (zw (s9.1+1))) 0),(36,.ref (fid 4 (zt (zw (s9.1+1)))) 0 a22.length),(37,vI (zn a22)),(38,vI 0)],(Qog p0 s12),72⟩) ?_
     refine Q1 rfl ?_
     refine ⟨(Q2b s9 p0 s12 a22),(Qcm 36 (o:=4) (i:=zt (zw (s9.1+1))) (n:=a22.length) (st':=(Q2b s9 p0 s12 a22)) rfl (by kernel_rfl)),?_⟩
     refine Zn ?_
     refine wwh h (fun s24=>⟨(s8_21 s9 s12 p0 a22)++[(38,vI s24.1)],[(o8_5 p0),oX false false 1 (.ref 3 0 s24.2.length),(o8_5 p0),.refs 4 (eF eI s24.2),.fam 1 true (eF eI s24.2),o8_9],72⟩) (fun v out=>out=.go (.exit 4) ⟨[e8_12,e8_13,(4,vI s9.1),(e8_15 p0),(17,vI s12.1)],[(o8_5 p0),oX false false 1 (.ref 3 0 v.length),(o8_5 p0),.refs 4 (eF eI v),.fam 1 true (eF eI v),o8_9],72⟩) (Q4 (live:=[1,3,4,5,16,17,36,37,38]) (keep:=[]) kr) ?_ ?_
     ·intro s24 o h
      unfold Zs at h
      refine sq (Qk ?_)
      refine wbr (S:=fun b25=>⟨(s8_21 s9 s12 p0 a22)++[(38,vI s24.1),(39,vB b25)],[(o8_5 p0),oX false false 1 (.ref 3 0 s24.2.length),(o8_5 p0),.refs 4 (eF eI s24.2),.fam 1 true (eF eI s24.2),o8_9],72⟩) h (fun q26 h=>?_) (fun q26 h=>?_)
      ·refine wcT (wp_skip (Qk (Zn (Qk ?_))))
       refine Qdz (Qdv 36 (o:=4) (i:=zt (zw (s9.1+1))) (n:=a22.length) (st':=⟨[e8_12,e8_13,(4,vI s9.1),(5,vI s12.1),(e8_15 p0),(17,vI s12.1),(36,.ref (fid 4 (zt (zw (s9.1+1)))) 0 a22.length),(37,vI (zn a22)),(38,vI s24.1),(39,vB true)],[(o8_5 p0),oX false false 1 (.ref 3 0 s24.2.length),(o8_5 p0),.refs 4 (eF eI s24.2),.fam 1 true (eF eI s24.2),o8_9],72⟩) rfl kr) ?_
       refine Q5 ?_
       refine Zb (sz 1 1 ?_)
       refine Q8 h (fun a27 q28 h=>?_)
       refine Q8 h (fun a29 q30 h=>?_)
       refine Qrr (enc:=eI) (ls:=s24.2) (x:=a27) (y:=a29) (n:=zw (s9.1+1)) (c:=s24.1) (w:=1) (j:=4) (m:=a22.length) (fl:=true) kr kr q28 q30 rfl gE h (fun h=>?_)
       refine Ql3 (enc:=eI) (ls:=s24.2) (x:=a27) (y:=a29) (n:=zw (s9.1+1)) (m:=s24.1) (w:=1) (j:=4) (c:=0) (fl:=true) kr kr q28 q30 rfl gE ?_
       refine sgz 2 5 (S:=⟨[e8_12,e8_13,(4,vI s9.1),(5,vI s12.1),(e8_15 p0),(17,vI s12.1),(36,.ref (fid 4 (zt (zw (s9.1+1)))) 0 a22.length),(37,vI (zn a22)),(38,vI s24.1),(39,vB true),(40,vI s24.1),(41,.ptr (fid 4 (zt (zw (s9.1+1)))) (zt s24.1) 0),(42,vI a29),(6,vI s24.1),(7,vI a29)],[(o8_5 p0),oX false false 1 (.ref 3 0 s24.2.length),(o8_5 p0),.refs 4 (eF eI s24.2),.fam 1 true (eF eI s24.2),o8_9],72⟩) ?_
       refine Q1 rfl ?_
       refine ⟨⟨(s8_21 s9 s12 p0 a22)++[(38,vI s24.1),(39,vB true),(40,vI s24.1),(41,.ptr (fid 4 (zt (zw (s9.1+1)))) (zt s24.1) 0),(42,vI a29),(6,vI s24.1),(7,vI a29)],[(o8_5 p0),oX false false 1 (.ref 3 0 s24.2.length),(o8_5 p0),.refs 4 (eF eI s24.2),.fam 1 true (eF eI s24.2),o8_9],72⟩,(Qcm 36 (o:=4) (i:=zt (zw (s9.1+1))) (n:=a22.length) (st':=⟨(s8_21 s9 s12 p0 a22)++[(38,vI s24.1),(39,vB true),(40,vI s24.1),(41,.ptr (fid 4 (zt (zw (s9.1+1)))) (zt s24.1) 0),(42,vI a29),(6,vI s24.1),(7,vI a29)],[(o8_5 p0),oX false false 1 (.ref 3 0 s24.2.length),(o8_5 p0),.refs 4 (eF eI s24.2),.fam 1 true (eF eI s24.2),o8_9],72⟩) rfl (by kernel_rfl)),?_⟩
       refine Q5 ?_
       refine rga Qsk (sy 2 2 ?_)
       refine Q8 h (fun a31 q32 h=>?_)
       refine Qb6 (enc:=eI) (ls:=s24.2) (x:=a31) (n:=s9.1) (ob:=3) (j:=4) kr kr q32 gE ?_
       refine Qdh (enc:=eI) (ls:=s24.2) (x:=a31) (n:=s9.1) (ob:=3) (j:=4) kr kr q32 gE ?_
       refine sy 1 5 ?_
       refine Q8 h (fun a33 q34 h=>?_)
       refine Qhh (enc:=eI) (ls:=s24.2) (x:=a31) (y:=a33) (n:=s9.1) (c:=s12.1) (w:=1) (j:=4) (fl:=true) kr kr q32 q34 rfl gE ?_
       refine Ql3 (enc:=eI) (ls:=s24.2) (x:=a31) (y:=a33) (n:=s9.1) (m:=s12.1) (w:=1) (j:=4) (c:=0) (fl:=true) kr kr q32 q34 rfl gE ?_
       refine sy 4 11 ?_
       refine Q8 h (fun a35 q36 h=>?_)
       refine Ql (enc:=z1) (l:=p0.Hidden.Step) (n:=s12.1) (fl:=false) (w:=1) (a:=a35) kr rfl gE q36 ?_
       refine sy 2 14 ?_
       refine Q8 h (fun a37 q38 h=>?_)
       refine Ql (enc:=eI) (l:=a35) (n:=s24.1) (fl:=true) (w:=1) (a:=a37) kr rfl gE q38 ?_
       refine sy 5 20 ?_
       refine Qrz Qti (g_hidden_watcher_shown_ok p0 (zw (s9.1+1)) s24.1) h (fun x39 _ h=>?_)
       refine sy 4 25 ?_
       refine Qhh (enc:=eI) (ls:=s24.2) (x:=a31) (y:=a33) (n:=s9.1) (c:=s12.1) (w:=1) (j:=4) (fl:=true) kr kr q32 q34 rfl gE ?_
       refine Qea (enc:=eI) (ls:=s24.2) (x:=a31) (y:=a33) (y':=zw (a33+(zw ((zw (a37*x39))*a29)))) (n:=s9.1) (m:=s12.1) (w:=1) (j:=4) (q:=3) (c:=0) (fl:=true) (v:=vI (zw (a33+(zw ((zw (a37*x39))*a29))))) kr kr kr q32 q34 rfl kr kr kr gE ?_
       refine Qp0 (n:=s24.2.length) (m:=(List.set s24.2 (zt s9.1) (List.set a31 (zt s12.1) (zw (a33+(zw ((zw (a37*x39))*a29)))))).length) (S:=fun n41=>⟨(s8_21 s9 s12 p0 a22)++[(38,vI s24.1),(39,vB true),(40,vI s24.1),(41,.ptr (fid 4 (zt (zw (s9.1+1)))) (zt s24.1) 0),(42,vI a29),(6,vI s24.1),(7,vI a29),(43,.ref 3 0 n41),(44,vI s9.1),(45,.ptr 3 (zt s9.1) 0),(46,.ref (fid 4 (zt s9.1)) 0 a31.length),(47,vI s12.1),(48,.ptr (fid 4 (zt s9.1)) (zt s12.1) 0),(49,vI a33),(50,.ptr 0 0 0),(51,.ptr 0 0 2),(52,z2 p0.Hidden.Step),(53,vI s12.1),(54,.fz [z1 a35]),(55,z1 a35),(56,vI s24.1),(57,.fz [vI a37]),(58,vI a37),(59,.agg [vI p0.Hidden.Grain,z1 p0.Hidden.First,z2 p0.Hidden.Step,z2 p0.Hidden.Show,z1 p0.seen]),(60,vI s9.1),(61,vI (zw (s9.1+1))),(62,vI s24.1),(63,vI x39),(64,vI (zw (a37*x39))),(65,vI a29),(66,vI (zw ((zw (a37*x39))*a29))),(67,vI (zw (a33+(zw ((zw (a37*x39))*a29))))),(68,.ptr (fid 4 (zt s9.1)) (zt s12.1) 0)],[(o8_5 p0),oX false false 1 (.ref 3 0 n41),(o8_5 p0),.refs 4 (eF eI (List.set s24.2 (zt s9.1) (List.set a31 (zt s12.1) (zw (a33+(zw ((zw (a37*x39))*a29))))))),.fam 1 true (eF eI (List.set s24.2 (zt s9.1) (List.set a31 (zt s12.1) (zw (a33+(zw ((zw (a37*x39))*a29))))))),o8_9],72⟩) (by simp only [List.length_set]) ?_
       refine rgd ?_
       refine ⟨_,Zq,?_⟩
       refine wg [1,3,4,5,16,17,36,37,38] [] (rn ?_)
       cases h
       exact ⟨_,rfl,(Q4 (live:=[1,3,4,5,16,17,36,37,38]) (keep:=[]) kr)⟩
      refine wcF (wg [1,3,4,16,17] [] ?_)
      refine Vx ?_
      cases h
      exact ⟨kr,rfl⟩
     intro x43 h out hx
     subst hx
     refine rn ?_
     cases h
     exact ⟨_,rfl,(Q4 (live:=[1,3,4,16,17]) (keep:=[]) kr)⟩
    refine wcF (wg [] [] ?_)
    refine Vx ?_
    cases h
    exact ⟨kr,rfl⟩
   intro x45 h out hx
   subst hx
   refine ⟨⟨[(0,.yld 5),(3,vI s9.1),(8,vI s9.1),(9,vB true),(12,.yld 5),(13,vI s9.1),(14,vB true)],[(o8_5 p0),oX false false 1 (.ref 3 0 x45.length),(o8_5 p0),.refs 4 (eF eI x45),.fam 1 true (eF eI x45),Qud],16⟩,by kernel_rfl,?_⟩
   refine sz 1 4 (Q1 rfl ?_)
   refine ⟨_,Zq,?_⟩
   refine wcF (wp_skip (wg [0,3] [] (rn ?_)))
   cases h
   exact ⟨_,rfl,(Q4 (live:=[0,3]) (keep:=[]) kr)⟩
  refine wcF (wg [] [] ?_)
  refine Vx ?_
  cases h
  exact ⟨kr,rfl⟩
 intro x47 h out hx
 subst hx
 refine ⟨.go .normal ⟨[e8_12,e8_13,Qrw],[(o8_5 p0),oX false false 1 (.ref 3 0 x47.length),(o8_5 p0),.refs 4 (eF eI x47),.fam 1 true (eF eI x47),.dead],72⟩,by kernel_rfl,?_⟩
 refine Qk ?_
 refine Q5 ?_
 refine rn ?_
 refine ⟨_,Zq,?_⟩
 refine wgc [2] [3,4] ⟨[(2,.ref 0 0 x47.length)],[.refs 1 (eF eI x47),.fam 1 true (eF eI x47)],72⟩ ?_
 refine Qdz (Qvl 0 1 (w:=1) (fl:=true) (enc:=eI) (ls:=x47) (st':=⟨[(2,.ref 0 0 x47.length)],[oR false 1 z1 x47,.dead],72⟩) rfl rfl kr) ?_
 cases h
 exact Ks (show Qff _ _ _ _=_ from by kernel_rfl)
section
attribute [local irreducible] RW WP
theorem g_hidden_Backward_ok (p0:Qb) (p1:(List Int)):Ct Try.prog 17 [.agg [vI p0.Grain,z1 p0.First,z2 p0.Step,z2 p0.Show],z1 p1] (Qe9 p0 p1) (fun x=>.tup [.ref 0 0 x.1.length,vI x.2]) (fun x=>[oR false 1 z1 x.1]):=by
 refine hfn [] Try.func17 <| hop 0 (fun _=>sgL false [] [] false gE) <| hcl 4 [] (g_hidden_newWatcher_ok p0 p1) fun x1 _=>hop 3 (fun _=>sgL false [] [] false gE) <| hbr 4 [15] (hwk 4 (wl [4,5] []) <| hwk 0 (Zv 4 1 true false gE) <| hrt 1) <| ?_
 refine hcl 2 [] (Qdq x1.1) fun x5 _=>hrt 3
theorem g_ref02_Same_ok (p0:(List Int)) (p1:(List Int)):Ct Try.prog 64 [z1 p0,z1 p1] (Qj9 p0 p1) (fun x=>vB x) (fun x=>[]):=by
 refine hfn [] Try.func64 <| hop 2 (fun _=>Qj (enc:=eI) (l:=p0) (fl:=true) kr gE) <| hop 1 (fun _=>Qj (enc:=eI) (l:=p1) (fl:=true) kr gE) <| hbr 1 [10] (hrt 3) <| ?_
 refine hlp 2 (fun s3=>⟨[(0,z1 p0),(1,z1 p1),(5,vI s3)],[],26⟩) (fun x=>match x with | .inl v=>(.ret,⟨[(4,vB false)],[],26⟩) | .inr v=>(.exit 0,⟨[],[],26⟩)) (wz []) (fun s3=>?_) (hsm (fun x13=>?_) (fun x14=>?_))
 ·refine hop 2 (fun _=>Qj (enc:=eI) (l:=p0) (fl:=true) kr gE) <| hbr 1 [14] (?_) ?_
  ·refine hbd fun a6 q7=>hop 4 (fun _=>Ql (enc:=eI) (l:=p0) (n:=s3) (fl:=true) (w:=1) (a:=a6) kr kr gE q7) <| hbd fun a8 q9=>hop 3 (fun _=>Ql (enc:=eI) (l:=p1) (n:=s3) (fl:=true) (w:=1) (a:=a8) kr kr gE q9) <| hbr 2 [25] (hdx 2 (wz [])) <| ?_
   refine hnx 4 (wz [])
  refine hdx 1 (wz [])
 ·refine hrt 0
 refine hrt 2
theorem g_ref17_SameTable_ok (p0:(List (List Int))) (p1:(List (List Int))):Ct Try.prog 19 [z2 p0,z2 p1] (Qa6 p0 p1) (fun x=>vB x) (fun x=>[]):=by
 refine hfn [] Try.func19 <| hop 2 (fun _=>Qj (enc:=z1) (l:=p0) (fl:=false) kr gE) <| hop 1 (fun _=>Qj (enc:=z1) (l:=p1) (fl:=false) kr gE) <| hbr 1 [10] (hrt 3) <| ?_
 refine hlp 2 (fun s3=>⟨[(0,z2 p0),(1,z2 p1),(5,vI s3)],[],27⟩) (fun x=>match x with | .inl v=>(.ret,⟨[(4,vB false)],[],27⟩) | .inr v=>(.exit 0,⟨[],[],27⟩)) (wz []) (fun s3=>?_) (hsm (fun x15=>?_) (fun x16=>?_))
 ·refine hop 2 (fun _=>Qj (enc:=z1) (l:=p0) (fl:=false) kr gE) <| hbr 1 [14] (?_) ?_
  ·refine hbd fun a6 q7=>hop 4 (fun _=>Ql (enc:=z1) (l:=p0) (n:=s3) (fl:=false) (w:=1) (a:=a6) kr kr gE q7) <| hbd fun a8 q9=>hop 3 (fun _=>Ql (enc:=z1) (l:=p1) (n:=s3) (fl:=false) (w:=1) (a:=a8) kr kr gE q9) <| hcl 1 [] (g_ref02_Same_ok a6 a8) fun x10 _=>hbr 1 [26] (hdx 2 (wz [])) <| ?_
   refine hnx 4 (wz [])
  refine hdx 1 (wz [])
 ·refine hrt 0
 refine hrt 2
theorem g_slices_Concat_int_int_ok (p0:(List (List Int))):Ct Try.prog 70 [z2 p0] (Qa5 p0) (fun x=>.ref 0 0 x.length) (fun x=>[oR true 1 eI x]):=by
 refine hfn [] Try.func70 <| hop 3 (fun _=>Qj (enc:=z1) (l:=p0) (fl:=false) kr gE) <| hlp 1 (fun s1=>⟨[(0,z2 p0),(3,vI s1.1),(9,z2 p0),(10,vI (zn p0)),(11,vI s1.2)],[],36⟩) (fun v=>(.exit 0,⟨[(0,z2 p0),(3,vI v)],[],36⟩)) (wz []) (fun s1=>?_) fun x9=>?_
 ·refine hbr 1 [12] (?_) ?_
  ·refine hbd fun a4 q5=>hop 1 (fun _=>Ql (enc:=z1) (l:=p0) (n:=s1.2) (fl:=false) (w:=1) (a:=a4) kr kr gE q5) <| hop 4 (fun _=>Qj (enc:=eI) (l:=a4) (fl:=true) kr gE) <| hbr 4 [20] (hnn) <| ?_
   refine hnx 3 (wz [])
  refine hdx 1 (wz [])
 refine hil 1 Try.func94 <| hbr 3 [6] (hnn) <| ?_
 refine hbr 11 [16] (?_) ?_
 ·refine hoh 6 (fun _ _ h k=>Q5c (enc:=eI) (z:=(0:Int)) (z0:=vI 0) (n:=zw (x9 - 0)) (w:=1) (bytes:=8) [] true kr kr gE kr h k) <| hoq 2 (fun _ _ h k=>Qoe (enc:=eI) (l:=(List.replicate (zt (zw (x9 - 0))) (0:Int))) (ob:=0) (ro:=false) (nr:=true) (fl:=true) (lo:=none) (hi:=(some (vI 0))) (a:=0) (b:=0) (w:=1) kr kr kr kr gE h k) fun _=>hwk 3 (wl [4] [0]) <| hop 3 (fun _=>Qj (enc:=z1) (l:=p0) (fl:=false) kr gE) <| hwk 1 (wl [6,25,26,27] [0]) <| hwk 0 (Qvw 0 0 (nr:=true) (fl:=true) (w:=1) (enc:=eI) (l:=(List.replicate (zt (zw (x9 - 0))) (0:Int))) kr rfl) <| hlp 0 (fun s15=>⟨[(6,.ref 0 0 s15.2.length),(25,z2 p0),(26,vI (zn p0)),(27,vI s15.1)],[oR true 1 eI s15.2],36⟩) (fun v=>(.exit 2,⟨[(6,.ref 0 0 v.length)],[oR true 1 eI v],36⟩)) (wz [0]) (fun s15=>?_) fun x21=>?_
  ·refine hbr 1 [28] (?_) ?_
   ·refine hbd fun a18 q19=>hop 1 (fun _=>Ql (enc:=z1) (l:=p0) (n:=s15.1) (fl:=false) (w:=1) (a:=a18) kr kr gE q19) <| hoh 4 (fun _ _ h k=>V4 (enc:=eI) (l:=s15.2) (m:=a18) (w:=1) (bytes:=8) (ob:=0) (nr:=true) (fl:=true) (nr':=true) (fl':=true) (b:=z1 a18) (rds:=[]) false kr kr (Qam (fun _=>rfl)) kr gE kr h k) <| hnx 3 (wz [1])
   refine hdx 1 (wz [0])
  refine hrt 3
 refine hwk 3 (wl [4] []) <| hop 3 (fun _=>Qj (enc:=z1) (l:=p0) (fl:=false) kr gE) <| hlp 1 (fun s22=>⟨[(6,.ref 0 0 s22.2.length),(25,z2 p0),(26,vI (zn p0)),(27,vI s22.1)],[oR true 1 eI s22.2],36⟩) (fun v=>(.exit 2,⟨[(6,.ref 0 0 v.length)],[oR true 1 eI v],36⟩)) (Q3 (Q4 (live:=[6,25,26,27]) (keep:=[]) gE) (Q3 (Zv 6 1 true true gE) (Q4 (live:=[6,25,26,27]) (keep:=[0]) kr))) (fun s22=>?_) fun x28=>?_
 ·refine hbr 1 [28] (?_) ?_
  ·refine hbd fun a25 q26=>hop 1 (fun _=>Ql (enc:=z1) (l:=p0) (n:=s22.1) (fl:=false) (w:=1) (a:=a25) kr kr gE q26) <| hoh 4 (fun _ _ h k=>V4 (enc:=eI) (l:=s22.2) (m:=a25) (w:=1) (bytes:=8) (ob:=0) (nr:=true) (fl:=true) (nr':=true) (fl':=true) (b:=z1 a25) (rds:=[]) false kr kr (Qam (fun _=>rfl)) kr gE kr h k) <| hnx 3 (wz [1])
  refine hdx 1 (wz [0])
 refine hrt 3
theorem g_math_bits_Mul64_ok (p0:Int) (p1:Int):Ct Try.prog 113 [.int .u64 p0,.int .u64 p1] (Qe7 p0 p1) (fun x=>.tup [.int .u64 x.1,.int .u64 x.2]) (fun x=>[]):=by
 refine hfn [] Try.func113 <| hrt 51
theorem g_math_bits_Mul_ok (p0:Int) (p1:Int):Ct Try.prog 95 [.int .u64 p0,.int .u64 p1] (Qgs p0 p1) (fun x=>.tup [.int .u64 x.1,.int .u64 x.2]) (fun x=>[]):=by
 refine hfn [] Try.func95 <| hcl 5 [] (g_math_bits_Mul64_ok p0 p1) fun x1 _=>hrt 10
theorem g_slices_Repeat_int_int_ok (p0:(List Int)) (p1:Int):Ct Try.prog 71 [z1 p0,vI p1] (Qa4 p0 p1) (fun x=>.ref 0 0 x.length) (fun x=>[oR true 1 eI x]):=by
 refine hfn [] Try.func71 <| hbr 3 [10] (hnn) <| ?_
 refine hop 2 (fun _=>Qj (enc:=eI) (l:=p0) (fl:=true) kr gE) <| hcl 3 [] (g_math_bits_Mul_ok (zv ((zn p0))) (zv (p1))) fun x3 _=>hbr 8 [22,23] (hnn) <| ?_
 refine hbr 3 [25,26] (hnn) <| ?_
 refine hoh 3 (fun _ _ h k=>mkL (enc:=eI) (z:=(0:Int)) (z0:=vI 0) (n:=zw (x3.2)) (m:=zw (x3.2)) (w:=1) (bytes:=8) [] true kr kr gE kr h k) <| hop 3 (fun _=>cpR (enc:=eI) (l:=(List.replicate (zt (zw (x3.2))) (0:Int))) (m:=p0) (w:=1) (ob:=0) (i0:=0) (n0:=(List.replicate (zt (zw (x3.2))) (0:Int)).length) (nr:=true) (fl:=true) (fl':=true) (b:=z1 p0) (rds:=[]) kr kr (Qam (fun _=>rfl)) Q3j gE kr) <| hkl 0 [30,7,31] (show (List.replicate (zt (zw (x3.2))) (0:Int)).length=(ovr (List.replicate (zt (zw (x3.2))) (0:Int)) 0 (List.take ((List.replicate (zt (zw (x3.2))) (0:Int)).length) p0)).length from (Qqa ..)) <| hlp 1 (fun s9=>⟨[(7,.ref 0 0 s9.2.length),(8,vI s9.1)],[oR true 1 eI s9.2],48⟩) (fun v=>(.exit 0,⟨[(7,.ref 0 0 v.length)],[oR true 1 eI v],48⟩)) (wz [0]) (fun s9=>?_) fun x16=>?_
 ·refine hbr 4 [37] (?_) ?_
  ·refine hoq 5 (fun _ _ h k=>Qoe (enc:=eI) (l:=s9.2) (ob:=0) (ro:=false) (nr:=true) (fl:=true) (lo:=(some (vI s9.1))) (hi:=none) (a:=s9.1) (b:=(zn s9.2)) (w:=1) kr kr kr kr gE h k) fun q12=>hoq 2 (fun _ _ h k=>Qoe (enc:=eI) (l:=s9.2) (ob:=0) (ro:=false) (nr:=true) (fl:=true) (lo:=none) (hi:=(some (vI s9.1))) (a:=0) (b:=s9.1) (w:=1) kr kr kr kr gE h k) fun q13=>hop 0 (fun _=>cpR (enc:=eI) (l:=s9.2) (m:=(sub s9.2 0 s9.1)) (w:=1) (ob:=0) (i0:=(zt s9.1)) (n0:=(zt (zn s9.2) - zt s9.1)) (nr:=true) (fl:=true) (fl':=true) (b:=.ref 0 0 (zt s9.1 - zt (0:Int))) (rds:=[0]) kr kr (Qwd (ob:=0) (a:=0) (b:=s9.1) (ro:=false) kr q13) (Q3h q12) gE kr) <| hkl 0 [7,35,39,42] (show s9.2.length=(ovr s9.2 (zt s9.1) (List.take (zt (zn s9.2) - zt s9.1) (sub s9.2 0 s9.1))).length from (Qqa ..)) <| hnx 2 (wz [0])
  refine hdx 1 (wz [0])
 refine hrt 3
theorem g_hidden_sum_int_ok (p0:(List Int)):Ct Try.prog 79 [z1 p0] (Y7 p0) (fun x=>vI x) (fun x=>[]):=by
 refine hfn [] Try.func79 <| hop 3 (fun _=>Qj (enc:=eI) (l:=p0) (fl:=true) kr gE) <| hlp 1 (fun s1=>⟨[(3,vI s1.1),(6,z1 p0),(7,vI (zn p0)),(8,vI s1.2)],[],17⟩) (fun v=>(.exit 0,⟨[(3,vI v)],[],17⟩)) (wz []) (fun s1=>?_) fun x7=>?_
 ·refine hbr 1 [9] (hbd fun a4 q5=>hop 1 (fun _=>Ql (enc:=eI) (l:=p0) (n:=s1.2) (fl:=true) (w:=1) (a:=a4) kr kr gE q5) <| hnx 8 (wz [])) <| ?_
  refine hdx 1 (wz [])
 refine hrt 3
theorem Y2 (p0:Qc):Ct Try.prog 72 [.agg [vI p0.Hidden.Grain,z1 p0.Hidden.First,z2 p0.Hidden.Step,z2 p0.Hidden.Show,z1 p0.seen]] (Z4 p0) (fun x=>.tup [.ref 0 0 x.1.length,vI x.2]) (fun x=>[oR false 1 z1 x.1]):=by
 refine hfn [] Try.func72 <| hop 0 (fun _=>sgL false [] [] false gE) <| hcl 3 [] (g_hidden_watcher_forward_ok p0) fun x1 _=>hbd fun a3 q4=>hop 5 (fun _=>Zj (enc:=z1) (l:=x1) (n:=zw ((zn x1) - 1)) (w:=1) (ob:=1) (ro:=false) (nr:=true) (fl:=false) (a:=a3) kr kr gE q4) <| hop 0 (fun _=>Yw (enc:=z1) (l:=x1) (n:=zw ((zn x1) - 1)) (w:=1) (ob:=1) (c:=0) (bx:=false) (ro:=false) (nr:=true) (fl:=false) (a:=a3) kr kr q4 gE) <| hcl 0 [] (g_hidden_sum_int_ok a3) fun x5 _=>hbr 1 [14] (hwk 3 (wl [2,3] []) <| hwk 0 (Zv 2 1 true false gE) <| hrt 1) <| ?_
 refine hrt 5
theorem g_weigh_Ratio_ok (p0:Int) (p1:Int):Ct Try.prog 78 [vI p0,vI p1] (Kr p0 p1) (fun x=>.agg [vI x.N,vI x.D]) (fun x=>[]):=by
 refine hfn [] Try.func78 <| hlp 8 (fun s1=>⟨[(0,vI p0),(1,vI p1),(4,.ptr 0 0 0),(5,vI s1.1),(6,vI s1.2)],[oX true true 2 (.agg [vI 0,vI 0])],25⟩) (fun v=>(.exit 0,⟨[(0,vI p0),(1,vI p1),(4,.ptr 0 0 0),(5,vI v)],[oX true true 2 (.agg [vI 0,vI 0])],25⟩)) (wz [0]) (fun s1=>?_) fun x5=>?_
 ·refine hbr 2 [13] (hoh 5 (fun _ _ h k=>Qmx (k:=.i64) (a:=s1.1) (b:=s1.2) kr gE h k) <| hnx 2 (wz [0])) <| ?_
  refine hdx 1 (wz [0])
 refine hoh 3 (fun _ _ h k=>Qnm (k:=.i64) (a:=p0) (b:=x5) kr gE h k) <| hoh 2 (fun _ _ h k=>Qnm (k:=.i64) (a:=p1) (b:=x5) kr gE h k) <| hrt 3
theorem g_hidden_divide_int_ok (p0:(List Int)):Ct Try.prog 73 [z1 p0] (X9 p0) (fun x=>.ref 0 0 x.length) (fun x=>[oR true 2 eTapi_Q x]):=by
 refine hfn [] Try.func73 <| hcl 2 [] (g_hidden_sum_int_ok p0) fun x1 _=>hop 2 (fun _=>Qj (enc:=eI) (l:=p0) (fl:=true) kr gE) <| hoh 0 (fun _ _ h k=>mkL (enc:=eTapi_Q) (z:=((Qe.mk 0 0):Qe)) (z0:=.agg [vI 0,vI 0]) (n:=(zn p0)) (m:=(zn p0)) (w:=2) (bytes:=16) [] true kr kr gE kr h k) <| hop 2 (fun _=>Qj (enc:=eI) (l:=p0) (fl:=true) kr gE) <| hlp 1 (fun s3=>⟨[(3,vI x1),(4,.ref 0 0 s3.2.length),(12,z1 p0),(13,vI (zn p0)),(14,vI s3.1)],[oR true 2 eTapi_Q s3.2],27⟩) (fun v=>(.exit 0,⟨[(4,.ref 0 0 v.length)],[oR true 2 eTapi_Q v],27⟩)) (wz [0]) (fun s3=>?_) fun x14=>?_
 ·refine hbr 1 [15] (?_) ?_
  ·refine hbd fun a6 q7=>hop 2 (fun _=>Ql (enc:=eI) (l:=p0) (n:=s3.1) (fl:=true) (w:=1) (a:=a6) kr kr gE q7) <| hcl 7 [] (g_weigh_Ratio_ok a6 x1) fun x8 _=>hbd fun a10 q11=>hop 0 (fun _=>Zj (enc:=eTapi_Q) (l:=s3.2) (n:=s3.1) (w:=2) (ob:=0) (ro:=false) (nr:=true) (fl:=true) (a:=a10) kr kr gE q11) <| hop 0 (fun _=>Yy (enc:=eTapi_Q) (l:=s3.2) (n:=s3.1) (ob:=0) (w:=2) (bx:=false) (nr:=true) (fl:=true) (c:=0) (a:=a10) (a':=x8) (v:=.agg [vI x8.N,vI x8.D]) false kr kr q11 kr kr kr gE kr) <| hkl 0 [4,19] (ls s3.2 (zt s3.1) x8) <| hnx 2 (wz [0])
  refine hdx 1 (wz [0])
 refine hrt 3
theorem g_hidden_Predict_ok (p0:Qb) (p1:(List Int)) (p2:Int):Ct Try.prog 22 [.agg [vI p0.Grain,z1 p0.First,z2 p0.Step,z2 p0.Show],z1 p1,vI p2] (Qgg p0 p1 p2) (fun x=>.tup [.ref 0 0 x.1.length,vI x.2]) (fun x=>[oR true 2 eTapi_Q x.1]):=by
 refine hfn [] Try.func22 <| hop 0 (fun _=>sgL false [] [] false gE) <| hcl 4 [] (g_hidden_newWatcher_ok p0 p1) fun x1 _=>hop 3 (fun _=>sgL false [] [] false gE) <| hbr 4 [18] (hwk 4 (wl [6,7] []) <| hwk 0 (Zv 6 2 true true gE) <| hrt 1) <| ?_
 refine hbr 4 [21,22] (hwk 9 (wl [6,7] []) <| hwk 0 (Zv 6 2 true true gE) <| hrt 1) <| ?_
 refine hop 2 (fun _=>Qj (enc:=eI) (l:=p1) (fl:=true) kr gE) <| hbr 3 [27,28] (hwk 3 (wl [6,7] []) <| hwk 0 (Zv 6 2 true true gE) <| hrt 1) <| ?_
 refine hop 2 (fun _=>sgL false [] [] true gE) <| hcl 1 [] (g_slices_Repeat_int_int_ok [-1] p2) fun x9 _=>hbs 0 [.lst true] false [F eI x9] <| hcl 0 [] (g_slices_Concat_int_int_ok [p1,x9]) fun x11 _=>hcl 3 [F eI x11] (Y2 (Qc.mk x1.1.Hidden x11)) fun x13 _=>hbr 7 [42] (hwk 4 (wl [6,7] []) <| hwk 0 (Zv 6 2 true true gE) <| hrt 1) <| ?_
 refine hbd fun a17 q18=>hop 5 (fun _=>Zj (enc:=z1) (l:=x13.1) (n:=zw ((zn x13.1) - 1)) (w:=1) (ob:=6) (ro:=false) (nr:=true) (fl:=false) (a:=a17) kr kr gE q18) <| hop 0 (fun _=>Yw (enc:=z1) (l:=x13.1) (n:=zw ((zn x13.1) - 1)) (w:=1) (ob:=6) (c:=0) (bx:=false) (ro:=false) (nr:=true) (fl:=false) (a:=a17) kr kr q18 gE) <| hcl 0 [] (g_hidden_divide_int_ok a17) fun x19 _=>hrt 3
theorem g_weigh_Whole_ok (p0:Int) (p1:Int):Ct Try.prog 80 [vI p0,vI p1] (Kw p0 p1) (fun x=>vI x) (fun x=>[]):=by
 refine hfn [] Try.func80 <| hlp 4 (fun s1=>⟨[(0,vI p0),(5,vI s1.1),(6,vI p1),(7,vI s1.2)],[],14⟩) (fun v=>(.exit 0,⟨[(5,vI v)],[],14⟩)) (wz []) (fun s1=>?_) fun x5=>?_
 ·refine hbr 1 [8] (hnx 7 (wz [])) <| ?_
  refine hdx 1 (wz [])
 refine hrt 3
end
section
attribute [local irreducible] RW WP
theorem g_hidden_Prob_ok (p0:Qb) (p1:(List Int)):Ct Try.prog 26 [.agg [vI p0.Grain,z1 p0.First,z2 p0.Step,z2 p0.Show],z1 p1] (Kv p0 p1) (fun x=>.tup [.agg [vI x.1.N,vI x.1.D],vI x.2]) (fun x=>[]):=by
 refine hfn [] Try.func26 <| hop 0 (fun _=>sgL false [] [] false gE) <| hcl 4 [] (g_hidden_newWatcher_ok p0 p1) fun x1 _=>hop 3 (fun _=>sgL false [] [] false gE) <| hbr 4 [15] (hrt 6) <| ?_
 refine hcl 3 [] (us:=[.agg [vI x1.1.Hidden.Grain,z1 x1.1.Hidden.First,z2 x1.1.Hidden.Step,z2 x1.1.Hidden.Show,z1 x1.1.seen]]) (rv:=fun x5=>z2 x5) (ro:=fun x5=>[]) (fun x5 q6=>Zd.froz (g_hidden_watcher_forward_ok x1.1 x5 q6) (Yi (w:=1) (bx:=false) (ro:=false) (enc:=z1) (l:=x5) (fl:=false) rfl)) fun x5 _=>hop 1 (fun _=>Qj (enc:=eI) (l:=p1) (fl:=true) kr gE) <| hbd fun a7 q8=>hop 1 (fun _=>Ql (enc:=z1) (l:=x5) (n:=zw ((zn p1) - 1)) (fl:=false) (w:=1) (a:=a7) kr kr gE q8) <| hcl 1 [] (g_hidden_sum_int_ok a7) fun x9 _=>hop 4 (fun _=>Qj (enc:=eI) (l:=p1) (fl:=true) kr gE) <| hcl 1 [] (g_weigh_Whole_ok x1.1.Hidden.Grain (zw (2*(zn p1)))) fun x11 _=>hcl 0 [] (g_weigh_Ratio_ok x9 x11) fun x13 _=>hrt 3
theorem g_ref01_cut_ok (p0:(List Int)):Ct Try.prog 126 [z1 p0] (Ky p0) (fun x=>z1 x) (fun x=>[]):=by
 refine hfn [[.lst true]] Try.func126 <| hlp 1 (fun s1=>⟨[(0,z1 s1)],[],21⟩) (fun v=>(.exit 0,⟨[(0,z1 v)],[],21⟩)) (wz []) (fun s1=>?_) fun x9=>?_
 ·refine hop 1 (fun _=>Qj (enc:=eI) (l:=s1) (fl:=true) kr gE) <| hbr 2 [5,6] (?_) ?_
  ·refine hop 2 (fun _=>Qj (enc:=eI) (l:=s1) (fl:=true) kr gE) <| hbd fun a4 q5=>hop 1 (fun _=>Ql (enc:=eI) (l:=s1) (n:=zw ((zn s1) - 1)) (fl:=true) (w:=1) (a:=a4) kr kr gE q5) <| hbr 3 [13,14] (?_) ?_
   ·refine hop 3 (fun _=>Qj (enc:=eI) (l:=s1) (fl:=true) kr gE) <| hoh 1 (fun _ _ h k=>Qzj (enc:=eI) (l:=s1) (fl:=true) (lo:=none) (hi:=(some (vI (zw ((zn s1) - 1))))) (a:=0) (b:=zw ((zn s1) - 1)) (w:=1) kr (fun _=>rfl) kr kr gE h k) <| hnx 1 (wz [])
   refine hdx 1 (wz [])
  refine hdx 9 (wz [])
 refine hrt 3
theorem Qd8 (p0:(List Int)) (p1:(List Int)):Ct Try.prog 127 [z1 p0,z1 p1] (Qcs p0 p1) (fun x=>vI x) (fun x=>[]):=by
 refine hfn [] Try.func127 <| hop 2 (fun _=>Qj (enc:=eI) (l:=p0) (fl:=true) kr gE) <| hop 1 (fun _=>Qj (enc:=eI) (l:=p1) (fl:=true) kr gE) <| hbr 1 [10] (?_) ?_
 ·refine hop 2 (fun _=>Qj (enc:=eI) (l:=p0) (fl:=true) kr gE) <| hop 1 (fun _=>Qj (enc:=eI) (l:=p1) (fl:=true) kr gE) <| hbr 1 [15] (hrt 3) <| ?_
  refine hrt 3
 refine hop 2 (fun _=>Qj (enc:=eI) (l:=p0) (fl:=true) kr gE) <| hlp 2 (fun s5=>⟨[(0,z1 p0),(1,z1 p1),(5,vI s5)],[],41⟩) (fun x=>match x with | .inl v=>(.ret,⟨[(4,vI v)],[],41⟩) | .inr v=>(.exit 0,⟨[],[],41⟩)) (wz []) (fun s5=>?_) (hsm (fun x17=>?_) (fun x18=>?_))
 ·refine hbr 2 [20] (?_) ?_
  ·refine hbd fun a8 q9=>hop 4 (fun _=>Ql (enc:=eI) (l:=p0) (n:=s5) (fl:=true) (w:=1) (a:=a8) kr kr gE q9) <| hbd fun a10 q11=>hop 3 (fun _=>Ql (enc:=eI) (l:=p1) (n:=s5) (fl:=true) (w:=1) (a:=a10) kr kr gE q11) <| hbr 2 [31] (?_) ?_
   ·refine hop 4 (fun _=>Ql (enc:=eI) (l:=p0) (n:=s5) (fl:=true) (w:=1) (a:=a8) kr kr gE q9) <| hop 3 (fun _=>Ql (enc:=eI) (l:=p1) (n:=s5) (fl:=true) (w:=1) (a:=a10) kr kr gE q11) <| hbr 2 [40] (hdx 2 (wz [])) <| ?_
    refine hdx 2 (wz [])
   refine hnx 4 (wz [])
  refine hdx 1 (wz [])
 ·refine hrt 0
 refine hrt 2
theorem g_ref01_times_ok (p0:(List Int)) (p1:(List Int)):Ct Try.prog 128 [z1 p0,z1 p1] (Qev p0 p1) (fun x=>z1 x) (fun x=>[]):=by
 refine hfn [[.lst true]] Try.func128 <| hop 2 (fun _=>Qj (enc:=eI) (l:=p0) (fl:=true) kr gE) <| hop 1 (fun _=>Qj (enc:=eI) (l:=p1) (fl:=true) kr gE) <| hoh 1 (fun _ _ h k=>mkL (enc:=eI) (z:=(0:Int)) (z0:=vI 0) (n:=zw ((zn p0)+(zn p1))) (m:=zw ((zn p0)+(zn p1))) (w:=1) (bytes:=8) [] true kr kr gE kr h k) <| hlp 2 (fun s1=>⟨[(0,z1 p0),(1,z1 p1),(5,.ref 0 0 s1.2.length),(6,vI s1.1)],[oR true 1 eI s1.2],65⟩) (fun v=>(.exit 0,⟨[(5,.ref 0 0 v.length)],[oR true 1 eI v],65⟩)) (wz [0]) (fun s1=>?_) fun x28=>?_
 ·refine hop 2 (fun _=>Qj (enc:=eI) (l:=p0) (fl:=true) kr gE) <| hbr 1 [18] (?_) ?_
  ·refine hlp 3 (fun s4=>⟨[(0,z1 p0),(1,z1 p1),(5,.ref 0 0 s4.2.2.length),(6,vI s1.1),(7,vI s4.1),(8,vI s4.2.1)],[oR true 1 eI s4.2.2],65⟩) (fun v=>(.exit 2,⟨[(0,z1 p0),(1,z1 p1),(5,.ref 0 0 v.length),(6,vI s1.1)],[oR true 1 eI v],65⟩)) (wz [0]) (fun s4=>?_) fun x26=>?_
   ·refine hop 2 (fun _=>Qj (enc:=eI) (l:=p1) (fl:=true) kr gE) <| hbq 2 [24,25] (fun q6=>?_) (fun q6=>?_)
    ·refine hbd fun a7 q8=>hop 9 (fun _=>Zj (enc:=eI) (l:=s4.2.2) (n:=zw (s1.1+s4.2.1)) (w:=1) (ob:=0) (ro:=false) (nr:=true) (fl:=true) (a:=a7) kr kr gE q8) <| hop 0 (fun _=>Yw (enc:=eI) (l:=s4.2.2) (n:=zw (s1.1+s4.2.1)) (w:=1) (ob:=0) (c:=0) (bx:=false) (ro:=false) (nr:=true) (fl:=true) (a:=a7) kr kr q8 gE) <| hop 4 (fun _=>Qj (enc:=eI) (l:=p1) (fl:=true) kr gE) <| hkb 1 [42] q6 <| hbd fun a10 q11=>hop 5 (fun _=>Ql (enc:=eI) (l:=p0) (n:=s1.1) (fl:=true) (w:=1) (a:=a10) kr kr gE q11) <| hbd fun a12 q13=>hop 3 (fun _=>Ql (enc:=eI) (l:=p1) (n:=s4.2.1) (fl:=true) (w:=1) (a:=a12) kr kr gE q13) <| ?_
     refine hop 10 (fun _=>Zj (enc:=eI) (l:=s4.2.2) (n:=zw (s1.1+s4.2.1)) (w:=1) (ob:=0) (ro:=false) (nr:=true) (fl:=true) (a:=a7) kr kr gE q8) <| hbd fun a14 q15=>hop 0 (fun _=>Yy (enc:=eI) (l:=s4.2.2) (n:=(zw (s1.1+s4.2.1))) (ob:=0) (w:=1) (bx:=false) (nr:=true) (fl:=true) (c:=0) (a:=a14) (a':=Int.tmod (zw ((zw (s4.1+a7))+(zw (a10*a12)))) 10000) (v:=vI (Int.tmod (zw ((zw (s4.1+a7))+(zw (a10*a12)))) 10000)) false kr kr q15 kr kr kr gE kr) <| hkl 0 [5,32,54] (ls s4.2.2 (zt (zw (s1.1+s4.2.1))) (Int.tmod (zw ((zw (s4.1+a7))+(zw (a10*a12)))) 10000)) <| hnx 6 (wz [0])
    refine hbr 3 [27,28] (?_) ?_
    ·refine hbd fun a19 q20=>hop 6 (fun _=>Zj (enc:=eI) (l:=s4.2.2) (n:=zw (s1.1+s4.2.1)) (w:=1) (ob:=0) (ro:=false) (nr:=true) (fl:=true) (a:=a19) kr kr gE q20) <| hop 0 (fun _=>Yw (enc:=eI) (l:=s4.2.2) (n:=zw (s1.1+s4.2.1)) (w:=1) (ob:=0) (c:=0) (bx:=false) (ro:=false) (nr:=true) (fl:=true) (a:=a19) kr kr q20 gE) <| hop 4 (fun _=>Qj (enc:=eI) (l:=p1) (fl:=true) kr gE) <| hkb 1 [42] q6 <| hop 7 (fun _=>Zj (enc:=eI) (l:=s4.2.2) (n:=zw (s1.1+s4.2.1)) (w:=1) (ob:=0) (ro:=false) (nr:=true) (fl:=true) (a:=a19) kr kr gE q20) <| hbd fun a22 q23=>hop 0 (fun _=>Yy (enc:=eI) (l:=s4.2.2) (n:=(zw (s1.1+s4.2.1))) (ob:=0) (w:=1) (bx:=false) (nr:=true) (fl:=true) (c:=0) (a:=a22) (a':=Int.tmod (zw (s4.1+a19)) 10000) (v:=vI (Int.tmod (zw (s4.1+a19)) 10000)) false kr kr q23 kr kr kr gE kr) <| hkl 0 [5,32,54] (ls s4.2.2 (zt (zw (s1.1+s4.2.1))) (Int.tmod (zw (s4.1+a19)) 10000)) <| ?_
     refine hnx 6 (wz [0])
    refine hdx 1 (wz [0])
   refine hnx 3 (wz [0])
  refine hdx 1 (wz [0])
 refine hcl 1 [F eI x28] (g_ref01_cut_ok x28) fun x29 _=>hrt 2
theorem Qm6 (p0:(List Int)) (p1:(List Int)):Ct Try.prog 129 [z1 p0,z1 p1] (Qjr p0 p1) (fun x=>z1 x) (fun x=>[]):=by
 refine hfn [[.lst true]] Try.func129 <| hlp 4 (fun s1=>⟨[(0,z1 p0),(1,z1 p1),(5,.ref 0 0 s1.2.2.length),(6,vI s1.1),(7,vI s1.2.1)],[oR true 1 eI s1.2.2],41⟩) (fun v=>(.exit 0,⟨[(5,.ref 0 0 v.length)],[oR true 1 eI v],41⟩)) (Q3 (Q4 (live:=[0,1,5,6,7]) (keep:=[]) gE) (Q3 (Zv 5 1 true true gE) (Q4 (live:=[0,1,5,6,7]) (keep:=[0]) kr))) (fun s1=>?_) fun x15=>?_
 ·refine hop 2 (fun _=>Qj (enc:=eI) (l:=p0) (fl:=true) kr gE) <| hbr 1 [12] (?_) ?_
  ·refine hbd fun a4 q5=>hop 3 (fun _=>Ql (enc:=eI) (l:=p0) (n:=s1.2.1) (fl:=true) (w:=1) (a:=a4) kr kr gE q5) <| hop 6 (fun _=>Qj (enc:=eI) (l:=p1) (fl:=true) kr gE) <| hbr 1 [24] (?_) ?_
   ·refine hbd fun a8 q9=>hop 4 (fun _=>Ql (enc:=eI) (l:=p1) (n:=s1.2.1) (fl:=true) (w:=1) (a:=a8) kr kr gE q9) <| hbr 6 [32] (?_) ?_
    ·refine hop 7 (fun _=>sgL false [] [] true gE) <| hoh 0 (fun _ _ h k=>V4 (enc:=eI) (l:=s1.2.2) (m:=([zw ((zw ((zw (a4 - s1.1)) - a8))+10000)]:(List Int))) (w:=1) (bytes:=8) (ob:=0) (nr:=true) (fl:=true) (nr':=true) (fl':=true) (b:=.ref 1 0 1) (rds:=[1]) false kr kr kr kr gE kr h k) <| hnx 4 (wz [2])
    refine hop 3 (fun _=>sgL false [] [] true gE) <| hoh 0 (fun _ _ h k=>V4 (enc:=eI) (l:=s1.2.2) (m:=([zw ((zw (a4 - s1.1)) - a8)]:(List Int))) (w:=1) (bytes:=8) (ob:=0) (nr:=true) (fl:=true) (nr':=true) (fl':=true) (b:=.ref 1 0 1) (rds:=[1]) false kr kr kr kr gE kr h k) <| hnx 4 (wz [2])
   refine hbr 4 [32] (?_) ?_
   ·refine hop 7 (fun _=>sgL false [] [] true gE) <| hoh 0 (fun _ _ h k=>V4 (enc:=eI) (l:=s1.2.2) (m:=([zw ((zw (a4 - s1.1))+10000)]:(List Int))) (w:=1) (bytes:=8) (ob:=0) (nr:=true) (fl:=true) (nr':=true) (fl':=true) (b:=.ref 1 0 1) (rds:=[1]) false kr kr kr kr gE kr h k) <| hnx 4 (wz [2])
   refine hop 3 (fun _=>sgL false [] [] true gE) <| hoh 0 (fun _ _ h k=>V4 (enc:=eI) (l:=s1.2.2) (m:=([zw (a4 - s1.1)]:(List Int))) (w:=1) (bytes:=8) (ob:=0) (nr:=true) (fl:=true) (nr':=true) (fl':=true) (b:=.ref 1 0 1) (rds:=[1]) false kr kr kr kr gE kr h k) <| hnx 4 (wz [2])
  refine hdx 1 (wz [0])
 refine hcl 1 [F eI x15] (g_ref01_cut_ok x15) fun x16 _=>hrt 2
theorem g_ref01_divide_ok (p0:(List Int)) (p1:(List Int)):Ct Try.prog 115 [z1 p0,z1 p1] (Qaq p0 p1) (fun x=>.tup [z1 x.1,z1 x.2]) (fun x=>[]):=by
 refine hfn [[.lst true],[.lst true]] Try.func115 <| hop 3 (fun _=>Qj (enc:=eI) (l:=p1) (fl:=true) kr gE) <| hop 3 (fun _=>Qj (enc:=eI) (l:=p0) (fl:=true) kr gE) <| hbr 2 [22] (?_) ?_
 ·refine hoh 3 (fun _ _ h k=>Q08 (enc:=eI) (m:=p0) (w:=1) (bytes:=8) (nr':=true) (fl':=true) (a:=.emp) (b:=z1 p0) (rds:=[]) false kr (.inr rfl) (Qam (fun _=>rfl)) kr gE kr h k) <| hwk 2 (wl [4,5] [0]) <| hwk 0 (wsn 5 [F eI p0]) <| hrt 1
 refine hop 2 (fun _=>Qj (enc:=eI) (l:=p0) (fl:=true) kr gE) <| hoh 2 (fun _ _ h k=>mkL (enc:=eI) (z:=(0:Int)) (z0:=vI 0) (n:=zw ((zn p0) - (zw ((zn p1) - 1)))) (m:=zw ((zn p0) - (zw ((zn p1) - 1)))) (w:=1) (bytes:=8) [] true kr kr gE kr h k) <| hop 4 (fun _=>Qj (enc:=eI) (l:=p0) (fl:=true) kr gE) <| hoh 2 (fun _ _ h k=>Qzj (enc:=eI) (l:=p0) (fl:=true) (lo:=(some (vI (zw ((zn p0) - (zw ((zn p1) - 1))))))) (hi:=none) (a:=zw ((zn p0) - (zw ((zn p1) - 1)))) (b:=(zn p0)) (w:=1) kr (fun _=>rfl) kr kr gE h k) <| hoh 0 (fun _ _ h k=>Q08 (enc:=eI) (m:=(sub p0 (zw ((zn p0) - (zw ((zn p1) - 1)))) (zn p0))) (w:=1) (bytes:=8) (nr':=true) (fl':=true) (a:=.emp) (b:=z1 (sub p0 (zw ((zn p0) - (zw ((zn p1) - 1)))) (zn p0))) (rds:=[]) false kr (.inr rfl) (Qam (fun _=>rfl)) kr gE kr h k) <| hlp 5 (fun s3=>⟨[(0,z1 p0),(1,z1 p1),(6,vI (zw ((zn p1) - 1))),(7,.ref 0 0 s3.2.2.length),(8,z1 s3.1),(9,vI s3.2.1)],[oR true 1 eI s3.2.2],124⟩) (fun v=>(.exit 0,⟨[(7,.ref 0 0 v.2.length),(8,z1 v.1)],[oR true 1 eI v.2],124⟩)) (Q3 (Q4 (live:=[0,1,6,7,8,9]) (keep:=[0,1]) gE) (Q3 (wsn 8 [F eI (sub p0 (zw ((zn p0) - (zw ((zn p1) - 1)))) (zn p0))]) (Q4 (live:=[0,1,6,7,8,9]) (keep:=[0]) kr))) (fun s3=>?_) fun x48=>?_
 ·refine hbr 2 [43] (?_) ?_
  ·refine hbd fun a6 q7=>hop 3 (fun _=>Ql (enc:=eI) (l:=p0) (n:=s3.2.1) (fl:=true) (w:=1) (a:=a6) kr kr gE q7) <| hop 1 (fun _=>sgL false [] [] true gE) <| hoh 1 (fun _ _ h k=>V4 (enc:=eI) (l:=([a6]:(List Int))) (m:=s3.1) (w:=1) (bytes:=8) (ob:=1) (nr:=true) (fl:=true) (nr':=true) (fl':=true) (b:=z1 s3.1) (rds:=[]) false kr kr (Qam (fun _=>rfl)) kr gE kr h k) <| hcl 0 [F eI (([a6]:(List Int))++s3.1)] (g_ref01_cut_ok (([a6]:(List Int))++s3.1)) fun x8 _=>hlp 6 (fun s10=>⟨[(0,z1 p0),(1,z1 p1),(6,vI (zw ((zn p1) - 1))),(7,.ref 0 0 s3.2.2.length),(8,z1 x8),(9,vI s3.2.1),(10,vI s10.1),(11,vI s10.2.1),(12,vI s10.2.2)],[oR true 1 eI s3.2.2],124⟩) (fun v=>(.exit 2,⟨[(0,z1 p0),(1,z1 p1),(6,vI (zw ((zn p1) - 1))),(7,.ref 0 0 s3.2.2.length),(8,z1 x8),(9,vI s3.2.1),(10,vI v.1),(11,vI v.2)],[oR true 1 eI s3.2.2],124⟩)) (wz [0]) (fun s10=>?_) fun x26=>?_
   ·refine hbr 5 [60] (?_) ?_
    ·refine hop 6 (fun _=>Qj (enc:=eI) (l:=x8) (fl:=true) kr gE) <| hbr 1 [68] (?_) ?_
     ·refine hbd fun a15 q16=>hop 4 (fun _=>Ql (enc:=eI) (l:=x8) (n:=s10.2.2) (fl:=true) (w:=1) (a:=a15) kr kr gE q16) <| hbr 6 [77] (hbd fun a19 q20=>hop 5 (fun _=>Ql (enc:=eI) (l:=p1) (n:=s10.2.2) (fl:=true) (w:=1) (a:=a19) kr kr gE q20) <| hnx 6 (wz [0])) <| ?_
      refine hnx 4 (wz [0])
     refine hbr 4 [77] (hbd fun a23 q24=>hop 5 (fun _=>Ql (enc:=eI) (l:=p1) (n:=s10.2.2) (fl:=true) (w:=1) (a:=a23) kr kr gE q24) <| hnx 6 (wz [0])) <| ?_
     refine hnx 4 (wz [0])
    refine hdx 1 (wz [0])
   refine hoh 4 (fun _ _ h k=>Qnm (k:=.i64) (a:=x26.2) (b:=zw (x26.1+1)) kr gE h k) <| hoh 2 (fun _ _ h k=>Qnm (k:=.i64) (a:=x26.2) (b:=x26.1) kr gE h k) <| hlp 2 (fun s27=>⟨[(0,z1 p0),(1,z1 p1),(6,vI (zw ((zn p1) - 1))),(7,.ref 0 0 s3.2.2.length),(8,z1 x8),(9,vI s3.2.1),(13,vI s27.1),(14,vI s27.2)],[oR true 1 eI s3.2.2],124⟩) (fun v=>(.exit 4,⟨[(0,z1 p0),(1,z1 p1),(6,vI (zw ((zn p1) - 1))),(7,.ref 0 0 s3.2.2.length),(8,z1 x8),(9,vI s3.2.1),(13,vI v)],[oR true 1 eI s3.2.2],124⟩)) (wz [0]) (fun s27=>?_) fun x37=>?_
   ·refine hbr 3 [94] (?_) ?_
    ·refine hop 9 (fun _=>sgL false [] [] true gE) <| hcl 0 [] (g_ref01_times_ok p1 [zw (Int.tdiv (zw ((zw (s27.1+s27.2))+1)) 2)]) fun x30 _=>hcl 1 [] (Qd8 x30 x8) fun x32 _=>hbr 1 [106] (hnx 3 (wz [0])) <| ?_
     refine hnx 4 (wz [0])
    refine hdx 1 (wz [0])
   refine hbd fun a38 q39=>hop 3 (fun _=>Zj (enc:=eI) (l:=s3.2.2) (n:=s3.2.1) (w:=1) (ob:=0) (ro:=false) (nr:=true) (fl:=true) (a:=a38) kr kr gE q39) <| hop 0 (fun _=>Yy (enc:=eI) (l:=s3.2.2) (n:=s3.2.1) (ob:=0) (w:=1) (bx:=false) (nr:=true) (fl:=true) (c:=0) (a:=a38) (a':=x37) (v:=vI x37) false kr kr q39 kr kr kr gE kr) <| hkl 0 [7,110] (ls s3.2.2 (zt s3.2.1) x37) <| hop 3 (fun _=>sgL false [] [] true gE) <| hcl 0 [] (g_ref01_cut_ok [x37]) fun x40 _=>hcl 0 [] (g_ref01_times_ok p1 x40) fun x42 _=>hcl 0 [] (Qm6 x8 x42) fun x44 _=>hnx 4 (wz [0])
  refine hdx 1 (wz [0])
 refine hcl 1 [F eI x48.2] (g_ref01_cut_ok x48.2) fun x49 _=>hrt 4
theorem g_ref01_gcd_ok (p0:(List Int)) (p1:(List Int)):Ct Try.prog 114 [z1 p0,z1 p1] (Qmm p0 p1) (fun x=>z1 x) (fun x=>[]):=by
 refine hfn [[.lst true]] Try.func114 <| hlp 1 (fun s1=>⟨[(0,z1 s1.1),(1,z1 s1.2)],[],19⟩) (fun v=>(.exit 0,⟨[(0,z1 v)],[],19⟩)) (wz []) (fun s1=>?_) fun x7=>?_
 ·refine hop 1 (fun _=>Qj (enc:=eI) (l:=s1.2) (fl:=true) kr gE) <| hbr 1 [9] (hcl 3 [] (g_ref01_divide_ok s1.1 s1.2) fun x4 _=>hnx 9 (wz [])) <| ?_
  refine hdx 1 (wz [])
 refine hrt 3
theorem g_ref01_digits_ok (p0:Int):Ct Try.prog 99 [vI p0] (Qao p0) (fun x=>.ref 0 0 x.length) (fun x=>[oR true 1 eI x]):=by
 refine hfn [] Try.func99 <| hlp 2 (fun s1=>⟨[(0,vI s1.1),(3,.ref 0 0 s1.2.length)],[oR true 1 eI s1.2],19⟩) (fun v=>(.exit 0,⟨[(3,.ref 0 0 v.length)],[oR true 1 eI v],19⟩)) (Q3 (Q4 (live:=[0,3]) (keep:=[]) gE) (Q3 (Zv 3 1 true true gE) (Q4 (live:=[0,3]) (keep:=[0]) kr))) (fun s1=>?_) fun x5=>?_
 ·refine hbr 2 [6] (?_) ?_
  ·refine hop 9 (fun _=>sgL false [] [] true gE) <| hoh 0 (fun _ _ h k=>V4 (enc:=eI) (l:=s1.2) (m:=([(if (zw (0 - (Int.tmod s1.1 10000))) > (Int.tmod s1.1 10000) then (zw (0 - (Int.tmod s1.1 10000))) else (Int.tmod s1.1 10000))]:(List Int))) (w:=1) (bytes:=8) (ob:=0) (nr:=true) (fl:=true) (nr':=true) (fl':=true) (b:=.ref 1 0 1) (rds:=[1]) false kr kr kr kr gE kr h k) <| hnx 4 (wz [2])
  refine hdx 1 (wz [0])
 refine hrt 3
theorem Qf7 (p0:(List Int)):Ct Try.prog 116 [z1 p0] (Qe1 p0) (fun x=>.tup [vI x.1,vB x.2]) (fun x=>[]):=by
 refine hfn [] Try.func116 <| hcl 3 [] (g_ref01_digits_ok 4611686018427387903) fun x1 _=>hcl 0 [F eI x1] (Qd8 p0 x1) fun x3 _=>hbr 1 [9] (hrt 4) <| ?_
 refine hop 3 (fun _=>Qj (enc:=eI) (l:=p0) (fl:=true) kr gE) <| hlp 2 (fun s7=>⟨[(0,z1 p0),(4,vI s7.1),(5,vI s7.2)],[],25⟩) (fun v=>(.exit 0,⟨[(4,vI v)],[],25⟩)) (wz []) (fun s7=>?_) fun x13=>?_
 ·refine hbr 2 [14] (hbd fun a10 q11=>hop 5 (fun _=>Ql (enc:=eI) (l:=p0) (n:=s7.2) (fl:=true) (w:=1) (a:=a10) kr kr gE q11) <| hnx 6 (wz [])) <| ?_
  refine hdx 1 (wz [])
 refine hrt 4
theorem Qoh (p0:Bool) (p1:(List Int)) (p2:(List Int)):Ct Try.prog 98 [vB p0,z1 p1,z1 p2] (Qkd p0 p1 p2) (fun x=>.tup [.agg [vI x.1.N,vI x.1.D],vB x.2]) (fun x=>[]):=by
 refine hfn [] Try.func98 <| hcl 4 [] (g_ref01_gcd_ok p1 p2) fun x1 _=>hcl 3 [] (g_ref01_divide_ok p1 x1) fun x3 _=>hcl 6 [] (g_ref01_divide_ok p2 x1) fun x5 _=>hcl 5 [] (Qf7 x3.1) fun x7 _=>hcl 6 [] (Qf7 x5.1) fun x9 _=>hbr 8 [39,40] (hrt 8) <| ?_
 refine hbr 3 [42,43] (hrt 5) <| ?_
 refine hbr 2 [0,45] (hrt 10) <| ?_
 refine hrt 7
theorem g_ref01_Make_ok (p0:Int) (p1:Int):Ct Try.prog 83 [vI p0,vI p1] (Qlg p0 p1) (fun x=>.tup [.agg [vI x.1.N,vI x.1.D],vB x.2]) (fun x=>[]):=by
 refine hfn [] Try.func83 <| hcl 8 [] (g_ref01_digits_ok p0) fun x1 _=>hcl 1 [] (g_ref01_digits_ok p1) fun x3 _=>hcl 0 [F eI x1,F eI x3] (Qoh (!((decide (p0 < 0))==(decide (p1 < 0)))) x1 x3) fun x5 _=>hrt 5
theorem g_ref01_Of_ok (p0:Int) (p1:Int):Ct Try.prog 35 [vI p0,vI p1] (Qow p0 p1) (fun x=>.agg [vI x.N,vI x.D]) (fun x=>[]):=by
 refine hfn [] Try.func35 <| hcl 3 [] (g_ref01_Make_ok p0 p1) fun x1 _=>hrt 9
theorem g_law17_q_ok (p0:Int) (p1:Int):Ct Try.prog 28 [vI p0,vI p1] (Kg p0 p1) (fun x=>.agg [vI x.N,vI x.D]) (fun x=>[]):=by
 refine hfn [] Try.func28 <| hcl 3 [] (g_ref01_Of_ok p0 p1) fun x1 _=>hrt 2
end
end Go.Ab
