/- Functions. No conditions. -/
import Derived.Test.YtgogkahhifkocaaDoorProg
import Derived.Test.YtgogkahhifkocaaDoorW10
import Derived.KernelRfl
import Derived.Test.YtgogkahhifkocaaDoorW11
import Derived.Test.YtgogkahhifkocaaDoorW12
import Derived.Test.YtgogkahhifkocaaDoorEng7
import Derived.IntWalk
set_option maxRecDepth 100000
set_option maxHeartbeats 4000000
set_option linter.all false
namespace Go.Ab
open Go Go.Proofs
section
attribute [local irreducible] RW WP
theorem g_index_count_ok (p0:(List Int)):Ct Tryd.prog 128 [z1 p0] (Qaq p0) (fun x=>.tup [vI x.1,vB x.2]) (fun x=>[]):=by
 refine hfn [] Tryd.func128 <| hop 3 (fun _=>Qs (enc:=eI) (l:=p0) (fl:=true) kr gE) <| hbr 1 [8] (hrt 4) <| ?_
 refine hop 4 (fun _=>Qs (enc:=eI) (l:=p0) (fl:=true) kr gE) <| hlp 1 (fun s3=>⟨[(2,vI s3.1),(3,vB true),(9,z1 p0),(10,vI (zn p0)),(11,vI s3.2)],[],30⟩) (fun v=>(.exit 0,⟨[(2,vI v.1),(3,vB v.2)],[],30⟩)) (wz []) (fun s3=>?_) fun x15=>?_
 ·refine hbr 1 [12] (?_) ?_
  ·refine hbd fun a6 q7=>hop 1 (fun _=>Qr (enc:=eI) (l:=p0) (n:=s3.2) (fl:=true) (w:=1) (a:=a6) kr kr gE q7) <| hbr 5 [17,15] (hdx 4 (wz [])) <| ?_
   refine hbr 4 [15,19] (hdx 4 (wz [])) <| ?_
   refine hbr 6 [15,23] (hdx 3 (wz [])) <| ?_
   refine hnx 7 (wz [])
  refine hdx 1 (wz [])
 refine hrt 5
theorem Qp9 (p0:(List Int)):Ct Tryd.prog 82 [z1 p0] (Qgy p0) (fun x=>.tup [vI x.1,vI x.2]) (fun x=>[]):=by
 refine hfn [] Tryd.func82 <| hcl 3 [] (g_index_count_ok p0) fun x1 _=>hbr 7 [12] (hrt 4) <| ?_
 refine hrt 5
theorem Qpi (p0:Qc):Ct Tryd.prog 42 [.agg [vI p0.Grain,eL false Ai p0.Nodes]] (Qdn p0) (fun x=>.tup [vI x.1,vI x.2]) (fun x=>[]):=by
 refine hfn [] Tryd.func42 <| hop 0 (fun _=>sgL false [] [] false gE) <| hcl 3 [] (g_net_read_ok p0) fun x1 _=>hop 3 (fun _=>sgL false [] [] false gE) <| hbr 4 [12] (hrt 5) <| ?_
 refine hcl 3 [] (Qp9 x1.1.cards) fun x5 _=>hrt 5
noncomputable abbrev Q0q:AObj:=.loop 18 [(5,.ptr 3 0 0),(10,.fn (.func 151) [] [.ptr 0 0 0,.ptr 1 0 0,.ptr 2 0 0])] [11,12] (cA Tryd.f129 [true,true,false,true,true]) (cB Tryd.f129 [true,true,false,true,true]) .ready none
theorem Qnz (p0:(List Int)) (p1:Int):Ct Tryd.prog 83 [z1 p0,vI p1] (Qem p0 p1) (fun x=>.tup [.ref 0 0 x.1.length,vI x.2]) (fun x=>[oR true 1 eI x.1]):=by
 refine hfn [] Tryd.func83 <| hcl 3 [] (g_index_count_ok p0) fun x1 _=>hbr 7 [14] (hwk 3 (wl [4,5] []) <| hwk 0 (Yj 4 1 true true gE) <| hrt 1) <| ?_
 refine hbr 4 [16,17] (hwk 7 (wl [4,5] []) <| hwk 0 (Yj 4 1 true true gE) <| hrt 1) <| ?_
 refine hbr 4 [20,21] (hwk 3 (wl [4,5] []) <| hwk 0 (Yj 4 1 true true gE) <| hrt 1) <| ?_
 refine hop 2 (fun _=>Qs (enc:=eI) (l:=p0) (fl:=true) kr gE) <| hil 3 Tryd.func130 <| hop 0 (fun _=>sgL false [] [] false gE) <| hwk 5 (wl [6] [2,1,0]) <| hil 1 Tryd.func129 <| hoh 2 (fun _ _ h k=>mkL (enc:=eI) (z:=(0:Int)) (z0:=vI 0) (n:=(zn p0)) (m:=(zn p0)) (w:=1) (bytes:=8) [] true kr kr gE kr h k) <| hop 0 (fun _=>sgL false [] [] false gE) <| hwk 2 (wl [5,10] [4,3]) <| hrg 0 Tryd.func151 <| ?_
 refine hop 6 (fun _=>Qs (enc:=eI) (l:=p0) (fl:=true) kr gE) <| hlp 1 (fun s9=>⟨[(0,.yld 5),(5,vI s9.1),(6,vI s9.2.1),(11,z1 p0),(12,vI (zn p0)),(13,vI s9.2.2.1)],[oX true true 1 (vI p1),oX true true 1 (vI x1.1),oX true false 1 (z1 p0),oX false false 1 (.ref 4 0 s9.2.2.2.length),oR true 1 eI s9.2.2.2,Q0q],32⟩) (fun v=>(.exit 0,⟨[],[oX true true 1 (vI p1),oX true true 1 (vI x1.1),oX true false 1 (z1 p0),oX false false 1 (.ref 4 0 v.length),oR true 1 eI v,Q0q],32⟩)) (wz []) (fun s9=>?_) fun x18=>?_
 ·refine hbr 1 [14] (?_) ?_
  ·refine hbd fun a12 q13=>hop 2 (fun _=>Qr (enc:=eI) (l:=p0) (n:=s9.2.2.1) (fl:=true) (w:=1) (a:=a12) kr kr gE q13) <| hoh 5 (fun _ _ h k=>Qis (k:=.i64) (a:=s9.2.1) (b:=a12) kr gE h k) <| hoh 5 (fun _ _ h k=>Qis (k:=.i64) (a:=s9.1) (b:=zw (Int.tdiv s9.2.1 a12)) kr gE h k) <| hyl 0 <| hbd fun a14 q15=>hop 5 (fun _=>Qz (enc:=eI) (l:=s9.2.2.2) (n:=s9.2.2.1) (w:=1) (ob:=4) (ro:=false) (nr:=true) (fl:=true) (a:=a14) kr kr gE q15) <| hop 0 (fun _ k=>Xo (enc:=eI) (l:=s9.2.2.2) (n:=s9.2.2.1) (ob:=4) (w:=1) (bx:=false) (nr:=true) (fl:=true) (c:=0) (a:=a14) (a':=zw (Int.tdiv s9.1 (zw (Int.tdiv s9.2.1 a12)))) (v:=vI (zw (Int.tdiv s9.1 (zw (Int.tdiv s9.2.1 a12))))) false kr kr q15 kr kr kr gE kr (Q31 (S:=fun n16=>⟨[(5,.ptr 3 0 0),(10,.fn (.func 151) [] [.ptr 0 0 0,.ptr 1 0 0,.ptr 2 0 0]),(11,vI s9.2.2.1),(12,vI (zw (Int.tdiv s9.1 (zw (Int.tdiv s9.2.1 a12))))),(6,vI s9.2.2.1),(7,vI (zw (Int.tdiv s9.1 (zw (Int.tdiv s9.2.1 a12))))),(13,.ref 4 0 n16),(14,vI s9.2.2.1),(15,vI (zw (Int.tdiv s9.1 (zw (Int.tdiv s9.2.1 a12))))),(16,.ptr 4 (zt s9.2.2.1) 0)],[oX true true 1 (vI p1),oX true true 1 (vI x1.1),oX true false 1 (z1 p0),oX false false 1 (.ref 4 0 n16),oR true 1 eI (List.set s9.2.2.2 (zt s9.2.2.1) (zw (Int.tdiv s9.1 (zw (Int.tdiv s9.2.1 a12))))),.loop 18 [(5,.ptr 3 0 0),(10,.fn (.func 151) [] [.ptr 0 0 0,.ptr 1 0 0,.ptr 2 0 0])] [11,12] (cA Tryd.f129 [true,true,false,true,true]) (cB Tryd.f129 [true,true,false,true,true]) .busy none],18⟩) (ls s9.2.2.2 (zt s9.2.2.1) (zw (Int.tdiv s9.1 (zw (Int.tdiv s9.2.1 a12))))) k)) <| hoh 4 (fun _ _ h k=>Qrz (k:=.i64) (a:=s9.1) (b:=zw (Int.tdiv s9.2.1 a12)) kr gE h k) <| ?_
   refine hnx 3 (wz [])
  refine hdx 1 (wz [])
 refine hrt 6
theorem Qqw (p0:Qc) (p1:Int):Ct Tryd.prog 43 [.agg [vI p0.Grain,eL false Ai p0.Nodes],vI p1] (Qd4 p0 p1) (fun x=>.tup [.ref 0 0 x.1.length,vI x.2]) (fun x=>[oR true 1 eI x.1]):=by
 refine hfn [] Tryd.func43 <| hop 0 (fun _=>sgL false [] [] false gE) <| hcl 3 [] (g_net_read_ok p0) fun x1 _=>hop 3 (fun _=>sgL false [] [] false gE) <| hbr 4 [14] (hwk 4 (wl [4,5] []) <| hwk 0 (Yj 4 1 true true gE) <| hrt 1) <| ?_
 refine hcl 4 [] (Qnz x1.1.cards p1) fun x5 _=>hrt 5
theorem Ku (p0:(List Int)) (p1:Int):Ct Tryd.prog 84 [z1 p0,.int .u64 p1] (Vm p0 p1) (fun x=>.ref 0 0 x.length) (fun x=>[oR true 1 eI x]):=by
 refine hfn [] Tryd.func84 <| hop 2 (fun _=>Qs (enc:=eI) (l:=p0) (fl:=true) kr gE) <| hoh 0 (fun _ _ h k=>mkL (enc:=eI) (z:=(0:Int)) (z0:=vI 0) (n:=(zn p0)) (m:=(zn p0)) (w:=1) (bytes:=8) [] true kr kr gE kr h k) <| hlp 4 (fun s1=>⟨[(0,z1 p0),(1,.int .u64 p1),(5,.ref 0 0 s1.2.length),(11,vI (((List.replicate (zt (zn p0)) (0:Int)).length):Int)),(12,vI s1.1)],[oR true 1 eI s1.2],32⟩) (fun v=>(.exit 0,⟨[(5,.ref 0 0 v.length)],[oR true 1 eI v],32⟩)) (wz [0]) (fun s1=>?_) fun x13=>?_
 ·refine hbr 1 [13] (?_) ?_
  ·refine hbd fun a4 q5=>hop 5 (fun _=>Qz (enc:=eI) (l:=s1.2) (n:=s1.1) (w:=1) (ob:=0) (ro:=false) (nr:=true) (fl:=true) (a:=a4) kr kr gE q5) <| hop 0 (fun _=>Xo (enc:=eI) (l:=s1.2) (n:=s1.1) (ob:=0) (w:=1) (bx:=false) (nr:=true) (fl:=true) (c:=0) (a:=a4) (a':=-1) (v:=vI (-1)) false kr kr q5 kr kr kr gE kr) <| hkl 0 [5,15] (ls s1.2 (zt s1.1) (-1)) <| hoh 2 (fun _ _ h k=>V2 (k:=.u64) (k':=.i64) (a:=p1) (b:=s1.1) kr gE h k) <| hbr 2 [22] (?_) ?_
   ·refine hbd fun a8 q9=>hop 5 (fun _=>Qr (enc:=eI) (l:=p0) (n:=s1.1) (fl:=true) (w:=1) (a:=a8) kr kr gE q9) <| hop 1 (fun _=>Qz (enc:=eI) (l:=(List.set s1.2 (zt s1.1) (-1))) (n:=s1.1) (w:=1) (ob:=0) (ro:=false) (nr:=true) (fl:=true) (a:=(-1)) kr kr gE (Qgo (-1) q5)) <| hop 0 (fun _=>Xo (enc:=eI) (l:=(List.set s1.2 (zt s1.1) (-1))) (n:=s1.1) (ob:=0) (w:=1) (bx:=false) (nr:=true) (fl:=true) (c:=0) (a:=(-1)) (a':=a8) (v:=vI a8) false kr kr (Qgo (-1) q5) kr kr kr gE kr) <| hkl 0 [5,15,23] (ls (List.set s1.2 (zt s1.1) (-1)) (zt s1.1) a8) <| hnx 2 (wz [0])
   refine hnx 3 (wz [0])
  refine hdx 1 (wz [0])
 refine hrt 3
theorem g_frac_product_ok (p0:Ae) (p1:Ae):Ct Tryd.prog 133 [.agg [vI p0.N,vI p0.D],.agg [vI p1.N,vI p1.D]] (K3 p0 p1) (fun x=>.agg [vI x.N,vI x.D]) (fun x=>[]):=by
 refine hfn [] Tryd.func133 <| hcl 6 [] (g_frac_size_ok p0.N) fun x1 _=>hcl 3 [] (Qad x1 (zv (p1.D))) fun x3 _=>hcl 4 [] (g_frac_size_ok p1.N) fun x5 _=>hcl 3 [] (Qad x5 (zv (p0.D))) fun x7 _=>hcl 4 [] (g_frac_size_ok p0.N) fun x9 _=>hoh 1 (fun _ _ h k=>Qis (k:=.u64) (a:=x9) (b:=x3) kr gE h k) <| hcl 2 [] (g_frac_size_ok p1.N) fun x11 _=>hoh 1 (fun _ _ h k=>Qis (k:=.u64) (a:=x11) (b:=x7) kr gE h k) <| ?_
 refine hcl 0 [] (g_frac_times_ok (zv (Int.tdiv x9 x3)) (zv (Int.tdiv x11 x7))) fun x13 _=>hoh 15 (fun _ _ h k=>Qis (k:=.u64) (a:=zv (p0.D)) (b:=x7) kr gE h k) <| hoh 4 (fun _ _ h k=>Qis (k:=.u64) (a:=zv (p1.D)) (b:=x3) kr gE h k) <| hcl 0 [] (g_frac_times_ok (zv (Int.tdiv (zv (p0.D)) x7)) (zv (Int.tdiv (zv (p1.D)) x3))) fun x15 _=>hcl 0 [] (g_frac_fit_ok (!((decide (p0.N < 0))==(decide (p1.N < 0)))) (x13.1,x13.2) (x15.1,x15.2)) fun x17 _=>hrt 2
theorem g_frac_Div_1_ok (p0:Ae) (p1:Ae):Ct Tryd.prog 132 [.agg [vI p0.N,vI p0.D],.agg [vI p1.N,vI p1.D]] (Qgx p0 p1) (fun x=>.agg [vI x.N,vI x.D]) (fun x=>[]):=by
 refine hfn [] Tryd.func132 <| hbr 6 [7] (hcl 9 [] (g_frac_product_ok p0 (Ae.mk (zw (0 - p1.D)) (zw (0 - p1.N)))) fun x3 _=>hrt 2) <| ?_
 refine hcl 7 [] (g_frac_product_ok p0 (Ae.mk p1.D p1.N)) fun x5 _=>hrt 2
theorem Jk (c0:Int) (c1:Int) (c2:Int) (c3:Int):Ct Tryd.prog 152 [.fz [.fn (.func 132) [] []],.fz [vI c0,vI c1],.fz [vI c2,vI c3]] (Yi c0 c1 c2 c3) (fun x=>.agg [vI x.N,vI x.D]) (fun x=>[]):=by
 refine hfn [] Tryd.func152 <| hcl 4 [] (g_frac_Div_1_ok (Ae.mk c0 c1) (Ae.mk c2 c3)) fun x1 _=>hrt 2
theorem Qtd (p0:Ae) (p1:Ae):Ct Tryd.prog 85 [.agg [vI p0.N,vI p0.D],.agg [vI p1.N,vI p1.D]] (Qf1 p0 p1) (fun x=>.tup [.agg [vI x.1.N,vI x.1.D],vI x.2]) (fun x=>[]):=by
 refine hfn [] Tryd.func85 <| hcl 5 [] (g_frac_Check_ok p0) fun x1 _=>hbr 2 [8,9] (?_) ?_
 ·refine hcl 1 [] (g_frac_Check_ok p1) fun x5 _=>hbr 3 [12,13,14] (?_) ?_
  ·refine hbr 4 [17,18] (hrt 5) <| ?_
   refine hil 3 Tryd.func131 <| hop 2 (fun _=>sgL false [] [] false gE) <| hcl 3 [] (g_frac_Check_ok p0) fun x11 _=>hbr 2 [11,12] (hrt 15) <| ?_
   refine hcl 1 [] (g_frac_Check_ok p1) fun x15 _=>hbr 2 [15,16] (hrt 11) <| ?_
   refine hcl 2 [] (us:=[.fn (.func 152) [] [.fz [.fn (.func 132) [] []],.fz [vI p0.N,vI p0.D],.fz [vI p1.N,vI p1.D]]]) (rv:=fun x19=>.tup [.agg [vI x19.N,vI x19.D],vI 0]) (ro:=fun x19=>[]) (fun x19 q20=>Qie Qke Tryd.func152 rfl (by decide +kernel) (Jk p0.N p0.D p1.N p1.D x19 q20)) fun x19 _=>hrt 10
  refine hil 7 Tryd.func131 <| hop 2 (fun _=>sgL false [] [] false gE) <| hcl 3 [] (g_frac_Check_ok p0) fun x21 _=>hbr 2 [11,12] (hrt 15) <| ?_
  refine hcl 1 [] (g_frac_Check_ok p1) fun x25 _=>hbr 2 [15,16] (hrt 11) <| ?_
  refine hcl 2 [] (us:=[.fn (.func 152) [] [.fz [.fn (.func 132) [] []],.fz [vI p0.N,vI p0.D],.fz [vI p1.N,vI p1.D]]]) (rv:=fun x29=>.tup [.agg [vI x29.N,vI x29.D],vI 0]) (ro:=fun x29=>[]) (fun x29 q30=>Qie Qke Tryd.func152 rfl (by decide +kernel) (Jk p0.N p0.D p1.N p1.D x29 q30)) fun x29 _=>hrt 10
 refine hil 12 Tryd.func131 <| hop 2 (fun _=>sgL false [] [] false gE) <| hcl 3 [] (g_frac_Check_ok p0) fun x31 _=>hbr 2 [11,12] (hrt 15) <| ?_
 refine hcl 1 [] (g_frac_Check_ok p1) fun x35 _=>hbr 2 [15,16] (hrt 11) <| ?_
 refine hcl 2 [] (us:=[.fn (.func 152) [] [.fz [.fn (.func 132) [] []],.fz [vI p0.N,vI p0.D],.fz [vI p1.N,vI p1.D]]]) (rv:=fun x39=>.tup [.agg [vI x39.N,vI x39.D],vI 0]) (ro:=fun x39=>[]) (fun x39 q40=>Qie Qke Tryd.func152 rfl (by decide +kernel) (Jk p0.N p0.D p1.N p1.D x39 q40)) fun x39 _=>hrt 10
theorem Qg6 (p0:Qc) (p1:(List Int)) (p2:Int) (p3:Int) (p4:Int):Ct Tryd.prog 44 [.agg [vI p0.Grain,eL false Ai p0.Nodes],z1 p1,.int .u64 p2,.int .u64 p3,.int .u64 p4] (Qas p0 p1 p2 p3 p4) (fun x=>.tup [.agg [vI x.1.N,vI x.1.D],vB x.2]) (fun x=>[]):=by
 refine hfn [] Tryd.func44 <| hop 0 (fun _=>sgL false [] [] false gE) <| hcl 6 [] (us:=[z1 p1,.int .u64 p2]) (rv:=fun x1=>z1 x1) (ro:=fun x1=>[]) (fun x1 q2=>Q0.froz (Ku p1 p2 x1 q2) (snap_full (w:=1) (bx:=false) (ro:=false) (enc:=eI) (l:=x1) (fl:=true) rfl)) fun x1 _=>hcl 4 [] (us:=[z1 p1,.int .u64 (zv (zb p3 ||| zb p4).toNat)]) (rv:=fun x3=>z1 x3) (ro:=fun x3=>[]) (fun x3 q4=>Q0.froz (Ku p1 (zv (zb p3 ||| zb p4).toNat) x3 q4) (snap_full (w:=1) (bx:=false) (ro:=false) (enc:=eI) (l:=x3) (fl:=true) rfl)) fun x3 _=>hcl 0 [] (g_act_Chance_ok p0 x1 x3) fun x5 _=>hcl 10 [] (us:=[z1 p1,.int .u64 p2]) (rv:=fun x7=>z1 x7) (ro:=fun x7=>[]) (fun x7 q8=>Q0.froz (Ku p1 p2 x7 q8) (snap_full (w:=1) (bx:=false) (ro:=false) (enc:=eI) (l:=x7) (fl:=true) rfl)) fun x7 _=>hcl 2 [] (us:=[z1 p1,.int .u64 p4]) (rv:=fun x9=>z1 x9) (ro:=fun x9=>[]) (fun x9 q10=>Q0.froz (Ku p1 p4 x9 q10) (snap_full (w:=1) (bx:=false) (ro:=false) (enc:=eI) (l:=x9) (fl:=true) rfl)) fun x9 _=>hcl 0 [] (g_act_Chance_ok p0 x7 x9) fun x11 _=>hbr 9 [43,44] (hrt 13) <| ?_
 refine hbr 4 [46,47,48] (hrt 9) <| ?_
 refine hbr 4 [51,52] (hrt 5) <| ?_
 refine hcl 3 [] (Qtd x5.1 x11.1) fun x19 _=>hrt 12
noncomputable abbrev Q1d (x5:Qc):AObj:=oX false false 2 (.agg [vI x5.Grain,.ref 1 0 x5.Nodes.length])
noncomputable abbrev Q12 (x5:Qc):AObj:=.row false true true false 3 (List.map Ai x5.Nodes)
noncomputable abbrev Q72 (a24:((Int × Int) × (Int × Int))):AObj:=oX true true 4 (.agg [.int .u64 a24.1.1,.int .u64 a24.1.2,.int .u64 a24.2.1,.int .u64 a24.2.2])
noncomputable abbrev Q16 (x7:(Int × Int × Int × Int)):Nat×AV:=(102,.agg [.int .u64 x7.2.2.1,.int .u64 (zv (zb x7.2.1 ||| zb x7.2.2.2).toNat),.int .u64 x7.2.2.1,.int .u64 x7.2.2.2,.int .u64 (zv (zb x7.2.2.1 ||| zb x7.2.1).toNat),.int .u64 x7.2.2.2,.int .u64 x7.2.2.1,.int .u64 (zv (zb x7.2.1 ||| zb x7.2.2.2).toNat),.int .u64 (zv (zb x7.2.2.1 ||| zb x7.2.1).toNat),.int .u64 x7.2.2.2,.int .u64 x7.2.2.1,.int .u64 x7.2.2.2])
noncomputable abbrev Q8f (a24:((Int × Int) × (Int × Int))):Nat×AV:=(106,.agg [.int .u64 a24.1.1,.int .u64 a24.1.2,.int .u64 a24.2.1,.int .u64 a24.2.2])
noncomputable abbrev Qv3 (x5:Qc) (a24:((Int × Int) × (Int × Int))) (x30 x32:(Ae × Bool)):List AObj:=[(Q1d x5),(Q12 x5),(Q72 a24),oX true true 2 (.agg [vI x30.1.N,vI x30.1.D]),oX true true 2 (.agg [vI x32.1.N,vI x32.1.D])]
noncomputable abbrev Quh (a0 a1 a2 a3 a4 a5 a6 a7 a8 a9 a10 a11 a12 a13 a14 a15 a16 a17 a18:Nat×AV) (x7:(Int × Int × Int × Int)) (x15:((List Int) × Int)) (a24:((Int × Int) × (Int × Int))) (x5:Qc) (x30 x32:(Ae × Bool)):List (Nat×AV):=[(7,.ptr 0 0 0),(9,.int .u64 x7.1),(10,.int .u64 x7.2.1),(11,.int .u64 x7.2.2.1),(12,.int .u64 x7.2.2.2),(15,z1 x15.1),(Q16 x7),a0,(104,vB true),a1,(Q8f a24),(18,.ptr 2 0 0),a2,(108,.agg [vI x5.Grain,.ref 1 0 x5.Nodes.length]),a3,a4,(111,.int .u64 x7.1),(112,.int .u64 x7.2.1),(113,.int .u64 x7.2.2.1),(114,.int .u64 x7.2.2.2),a5,a6,a7,a8,a9,a10,a11,(119,vB false),(121,.agg [vI x5.Grain,.ref 1 0 x5.Nodes.length]),(122,z1 x15.1),(123,.ptr 2 0 0),(124,.ptr 2 0 0),(125,.int .u64 a24.1.1),(126,.int .u64 x7.1),(127,.ptr 2 0 0),(128,.ptr 2 0 1),(129,.int .u64 a24.1.2),a12,a13,(131,.agg [vI x30.1.N,vI x30.1.D]),a14,(21,.ptr 3 0 0),a15,(134,.agg [vI x5.Grain,.ref 1 0 x5.Nodes.length]),(135,z1 x15.1),(136,.ptr 2 0 2),(137,.ptr 2 0 2),(138,.int .u64 a24.2.1),(139,.int .u64 x7.1),(140,.ptr 2 0 2),(141,.ptr 2 0 3),(142,.int .u64 a24.2.2),a16,a17,(144,.agg [vI x32.1.N,vI x32.1.D]),a18,(23,.ptr 4 0 0)]
theorem g_law32_ActCalculus_ok (p0:Qf) (p1:(Int × Int × Int × Int × Int × Int × Int × Int)) (p2:Int):Ct Tryd.prog 10 [.agg [.int .u8 p0.Grain,eL false Ak p0.Nodes,eL true (AV.int .u8) p0.Order],.agg [.int .u8 p1.1,.int .u8 p1.2.1,.int .u8 p1.2.2.1,.int .u8 p1.2.2.2.1,.int .u8 p1.2.2.2.2.1,.int .u8 p1.2.2.2.2.2.1,.int .u8 p1.2.2.2.2.2.2.1,.int .u8 p1.2.2.2.2.2.2.2],.int .u16 p2] (Qa4 p0 p1 p2) (fun x=>vB x) (fun x=>[]):=by
 refine hfn [] Tryd.func10 <| hop 0 (fun _=>sgL false [] [] false gE) <| hcl 2 [] (g_law32_works_ok ) fun x1 _=>hbr 1 [26] (hrt 3) <| ?_
 refine hcl 2 [] (Qkr p0) fun x5 _=>hop 0 (fun _=>sgL false [] [] false gE) <| hcl 5 [] (g_ref32_Parts_ok (zn x5.Nodes) (p1.1,p1.2.1,p1.2.2.1,p1.2.2.2.1,p1.2.2.2.2.1,p1.2.2.2.2.2.1,p1.2.2.2.2.2.2.1,p1.2.2.2.2.2.2.2)) fun x7 _=>hcl 16 [F Ai x5.Nodes] (Qpi x5) fun x9 _=>hbr 8 [48,49] (hrt 6) <| ?_
 refine hbr 3 [51,52] (hrt 3) <| ?_
 refine hoh 6 (fun _ _ h k=>Qrz (k:=.i64) (a:=zw (p2)) (b:=x9.1) kr gE h k) <| hcl 0 [F Ai x5.Nodes] (us:=[.agg [vI x5.Grain,eL false Ai x5.Nodes],vI (Int.tmod (zw (p2)) x9.1)]) (rv:=fun x15=>.tup [z1 x15.1,vI x15.2]) (ro:=fun x15=>[]) (fun x15 q16=>Q0.froz (Qqw x5 (Int.tmod (zw (p2)) x9.1) x15 q16) (Q2t (Zi (snap_full (w:=1) (bx:=false) (ro:=false) (enc:=eI) (l:=x15.1) (fl:=true) rfl) (Zi rfl K8 (by rfl)) (by rfl)))) fun x15 _=>hbr 8 [63,64] (hrt 10) <| ?_
 refine hop 1 (fun _=>Qs (enc:=eI) (l:=x15.1) (fl:=true) kr gE) <| hbr 5 [70,71] (hrt 3) <| ?_
 refine hlp 35 (fun s21=>⟨[(7,.ptr 0 0 0),(9,.int .u64 x7.1),(10,.int .u64 x7.2.1),(11,.int .u64 x7.2.2.1),(12,.int .u64 x7.2.2.2),(15,z1 x15.1),(Q16 x7),(103,vI s21)],[(Q1d x5),(Q12 x5)],159⟩) (fun x=>match x with | .inl v=>(.ret,⟨[(6,vB false)],[],159⟩) | .inr v=>(.exit 0,⟨[],[],159⟩)) (wz [3,2]) (fun s21=>?_) (hsm (fun x43=>?_) (fun x44=>?_))
 ·refine hbr 1 [104] (?_) ?_
  ·refine hbd fun a24 q25=>hop 2 (fun _=>Q7n (enc:=(fun x:((Int × Int) × (Int × Int))=>AV.agg [.int .u64 x.1.1,.int .u64 x.1.2,.int .u64 x.2.1,.int .u64 x.2.2])) (l:=([((x7.2.2.1,zv (zb x7.2.1 ||| zb x7.2.2.2).toNat),(x7.2.2.1,x7.2.2.2)),((zv (zb x7.2.2.1 ||| zb x7.2.1).toNat,x7.2.2.2),(x7.2.2.1,zv (zb x7.2.1 ||| zb x7.2.2.2).toNat)),((zv (zb x7.2.2.1 ||| zb x7.2.1).toNat,x7.2.2.2),(x7.2.2.1,x7.2.2.2))]:(List ((Int × Int) × (Int × Int))))) (n:=s21) (a:=a24) (w:=4) (g:=true) (v:=.agg [.int .u64 a24.1.1,.int .u64 a24.1.2,.int .u64 a24.2.1,.int .u64 a24.2.2]) kr (fun _=>rfl) kr q25 kr gE) <| hcl 10 [F Ai x5.Nodes] (g_act_Rule_ok x5 (zw (s21+1)) x7.1 x7.2.1 x7.2.2.1 x7.2.2.2) fun x26 _=>hbr 7 [119] (hdx 2 (wz [])) <| ?_
   refine hcl 10 [F Ai x5.Nodes] (Qg6 x5 x15.1 a24.1.1 x7.1 a24.1.2) fun x30 _=>hcl 15 [F Ai x5.Nodes] (Qg6 x5 x15.1 a24.2.1 x7.1 a24.2.2) fun x32 _=>hbt 8 (fun b34=>⟨(Quh (103,vI s21) (105,vI s21) (17,vI s21) (109,vI s21) (110,vI (zw (s21+1))) (115,.tup [vB b34,vI x26.2]) (107,.tup [vB b34,vI x26.2]) (116,vB b34) (117,vI x26.2) (19,vB b34) (20,vI x26.2) (118,vI x26.2) (130,.tup [.agg [vI x30.1.N,vI x30.1.D],vB x30.2]) (120,.tup [.agg [vI x30.1.N,vI x30.1.D],vB x30.2]) (132,vB x30.2) (22,vB x30.2) (143,.tup [.agg [vI x32.1.N,vI x32.1.D],vB x32.2]) (133,.tup [.agg [vI x32.1.N,vI x32.1.D],vB x32.2]) (145,vB x32.2) x7 x15 a24 x5 x30 x32)++[(24,vB x32.2),(146,vB b34),(147,vB b34)],(Qv3 x5 a24 x30 x32),159⟩) (fun _=>?_) (fun _=>?_)
   ·refine hbt 3 (fun b36=>⟨(Quh (103,vI s21) (105,vI s21) (17,vI s21) (109,vI s21) (110,vI (zw (s21+1))) (115,.tup [vB true,vI x26.2]) (107,.tup [vB true,vI x26.2]) (116,vB true) (117,vI x26.2) (19,vB true) (20,vI x26.2) (118,vI x26.2) (130,.tup [.agg [vI x30.1.N,vI x30.1.D],vB b36]) (120,.tup [.agg [vI x30.1.N,vI x30.1.D],vB b36]) (132,vB b36) (22,vB b36) (143,.tup [.agg [vI x32.1.N,vI x32.1.D],vB x32.2]) (133,.tup [.agg [vI x32.1.N,vI x32.1.D],vB x32.2]) (145,vB x32.2) x7 x15 a24 x5 x30 x32)++[(24,vB x32.2),(146,vB true),(147,vB true),(148,vB b36),(149,vB b36),(150,vB b36)],(Qv3 x5 a24 x30 x32),159⟩) (fun _=>?_) (fun _=>?_)
    ·refine hbt 3 (fun b38=>⟨(Quh (103,vI s21) (105,vI s21) (17,vI s21) (109,vI s21) (110,vI (zw (s21+1))) (115,.tup [vB true,vI x26.2]) (107,.tup [vB true,vI x26.2]) (116,vB true) (117,vI x26.2) (19,vB true) (20,vI x26.2) (118,vI x26.2) (130,.tup [.agg [vI x30.1.N,vI x30.1.D],vB true]) (120,.tup [.agg [vI x30.1.N,vI x30.1.D],vB true]) (132,vB true) (22,vB true) (143,.tup [.agg [vI x32.1.N,vI x32.1.D],vB b38]) (133,.tup [.agg [vI x32.1.N,vI x32.1.D],vB b38]) (145,vB b38) x7 x15 a24 x5 x30 x32)++[(24,vB b38),(146,vB true),(147,vB true),(148,vB true),(149,vB true),(150,vB true),(151,vB b38),(152,vB b38),(153,vB b38)],(Qv3 x5 a24 x30 x32),159⟩) (fun _=>?_) (fun _=>?_)
     ·refine hbr 4 [156,157] (hdx 2 (wz [])) <| ?_
      refine hnx 3 (wz [0,1])
     refine hnx 7 (wz [0,1])
    refine hnx 10 (wz [0,1])
   refine hnx 13 (wz [0,1])
  refine hdx 1 (wz [])
 ·refine hrt 0
 refine hrt 2
end
end Go.Ab
namespace Go.Ab
open Go
theorem Qch {σ ρ:Type} {body:σ->Option (Qg σ ρ)} (I:σ->Prop) (m:σ->Nat) (Q:ρ->Prop)
  (step:∀s,I s->(∃s',body s=some (.next s')/\I s'/\m s' < m s)\/(∃r,body s=some (.done r)/\Q r)) :
  ∀(n:Nat) (s:σ),I s->m s < n->∃r,Qb n body s=some r/\Q r
 | 0,s,_,h=>by omega
 | n+1,s,hI,h=>by
  unfold Qb
  rcases step s hI with ⟨s',h1,h2,h3⟩ | ⟨r,h1,h2⟩
  ·rw [h1]
   exact Qch I m Q step n s' h2 (by omega)
  rw [h1]
  exact ⟨r,rfl,h2⟩
theorem Qs2 {σ ρ:Type} {body:σ->Option (Qg σ ρ)} (I:σ->Prop) (m:σ->Nat) (r:ρ)
  (step:∀s,I s->(∃s',body s=some (.next s')/\I s'/\m s' < m s)\/body s=some (.done r)) (s:σ) (hI:I s) (hm:m s < 1152921504606846976):Qb fuel body s=some r:=by
 obtain ⟨r',h1,h2⟩:=Qch I m (fun x=>x=r) (fun s hs=>(step s hs).imp id fun h=>⟨r,h,rfl⟩) fuel s hI hm
 rw [h1,h2]
theorem Jn {σ ρ:Type} {body:σ->Option (Qg σ ρ)} (I:σ->Prop) (m:σ->Nat) (Q:ρ->Prop)
  (step:∀s,I s->(∃s',body s=some (.next s')/\I s'/\m s' < m s)\/(∃r,body s=some (.done r)/\Q r)) (s:σ) (hI:I s) (hm:m s < 1152921504606846976):∃r,Qb fuel body s=some r/\Q r :=
 Qch I m Q step fuel s hI hm
theorem Qum {σ ρ:Type} {body:σ->Option (Qg σ ρ)} (f:Nat -> σ) (n:Nat) (r:ρ) (step:∀k,k < n->body (f k)=some (.next (f (k+1)))) (done:body (f n)=some (.done r)) (hn:n < 1152921504606846976) :
  Qb fuel body (f 0)=some r:=by
 have key:∀(j N k:Nat),k+j=n->j < N->Qb N body (f k)=some r:=by
  intro j
  induction j with
  | zero =>
   intro N k hk hN
   obtain ⟨N,rfl⟩:∃M,N=M+1:=⟨N - 1,by omega⟩
   have:k=n:=by omega
   subst this
   simp [Qb,done]
  | succ j ih =>
   intro N k hk hN
   obtain ⟨N,rfl⟩:∃M,N=M+1:=⟨N - 1,by omega⟩
   simp only [Qb,step k (by omega)]
   exact ih N (k+1) (by omega) (by omega)
 exact key n fuel 0 (by omega) hn
theorem X5 {σ ρ:Type} {body:σ->Option (Qg σ ρ)} {s0:σ} (f:Nat -> σ) (n:Nat) (r:ρ) (h0:f 0=s0) (step:∀k,k < n->body (f k)=some (.next (f (k+1)))) (done:body (f n)=some (.done r)) (hn:n < 1152921504606846976) :
  Qb fuel body s0=some r:=by rw [<-h0]; exact Qum f n r step done hn
theorem w64 {n:Int} (h:-9223372036854775808<=n/\n<=9223372036854775807):zw n=n:=by show IntKind.wrap .i64 n=n; rw [IntKind.wrap_i64]; omega
theorem Zd {α:Type} {l:List α} {k:Nat} (h:k < l.length):lkI l (k:Int)=some l[k]:=by
 unfold lkI
 rw [aI (by omega),aR,aG h]
theorem Qov {a b:Int} (h:0<=a):Int.tdiv a b=a / b:=Int.tdiv_eq_ediv_of_nonneg h
theorem Qak {a b:Int} (h:0<=a):Int.tmod a b=a % b:=Int.tmod_eq_emod_of_nonneg h
def dgs (n:Nat):List Int:=if h:n=0 then [] else ((n % 10000:Nat):Int)::dgs (n / 10000)
termination_by n
decreasing_by omega
def Qq2:List Int->Nat
 | []=>0
 | x::l=>x.toNat + 10000*Qq2 l
def Quq (l:List Int):Prop:=∀x∈l,0<=x/\x < 10000
theorem Qkz:dgs 0=[]:=by rw [dgs]; simp
theorem Qq5 {n:Nat} (h:n≠0):dgs n=((n % 10000:Nat):Int)::dgs (n / 10000):=by rw [dgs]; simp [h]
theorem Q24 (n:Nat):Qq2 (dgs n)=n:=by
 induction n using Nat.strongRecOn with
 | _ n ih =>
  by_cases h:n=0
  ·subst h; rw [Qkz]; rfl
  rw [Qq5 h]
  simp only [Qq2]
  rw [ih (n / 10000) (by omega)]
  omega
theorem Q2r (n:Nat):Quq (dgs n):=by
 induction n using Nat.strongRecOn with
 | _ n ih =>
  by_cases h:n=0
  ·subst h; rw [Qkz]; intro x hx; cases hx
  rw [Qq5 h]
  intro x hx
  rcases cF.1 hx with rfl | hx
  ·omega
  exact ih (n / 10000) (by omega) x hx
theorem Q1v {x:Int} {l:List Int}:Quq (x::l)↔(0<=x/\x < 10000)/\Quq l:=by simp [Quq]
theorem Q6e {l:List Int} (h:Quq l):Qq2 l < 10000^l.length:=by
 induction l with
 | nil=>simp [Qq2]
 | cons x l ih =>
  rw [Q1v] at h
  have:=ih h.2
  simp only [Qq2,dK,Nat.pow_succ]
  omega
theorem Qfw {n K:Nat} (h:n < 10000^K):(dgs n).length<=K:=by
 induction K generalizing n with
 | zero=>simp at h; subst h; rw [Qkz]; simp
 | succ K ih =>
  by_cases h0:n=0
  ·subst h0; rw [Qkz]; simp
  rw [Qq5 h0]
  simp only [dK]
  have:=ih (n:=n / 10000) (by rw [Nat.pow_succ] at h; omega)
  omega
theorem Qua (n:Nat):n < 10000^(dgs n).length:=by
 have:=Q6e (Q2r n)
 rwa [Q24] at this
end Go.Ab
namespace Go.Ab
open Go
def msk:Nat -> (Nat -> Bool)->Nat
 | 0,_=>0
 | n+1,p=>msk n p ||| (if p n then 2^n else 0)
theorem Q3 (n:Nat) (p:Nat -> Bool) (i:Nat):(msk n p).testBit i=(decide (i < n) && p i):=by
 induction n with
 | zero=>simp [msk]
 | succ n ih =>
  unfold msk
  rw [bH,ih]
  by_cases h:i=n
  ·subst h
   cases hp:p i <;> simp [hp]
  have e:decide (i < n+1)=decide (i < n):=by by_cases h2:i < n <;> simp [h2] <;> omega
  rw [e]
  cases hp:p n
  ·simp
  simp only [eP,dE]
  have e2:¬ n=i:=fun e=>h e.symm
  simp [e2]
theorem Zf {n:Nat} (h:n < 18446744073709551616):zv (n:Int)=(n:Int):=by
 simp [IntKind.wrap,IntKind.bits,IntKind.signed]; omega
theorem Y9 {a:Nat} (h:a < 18446744073709551616):(zb (a:Int)).toNat = a:=by
 show (BitVec.ofInt IntKind.u64.bits (a:Int)).toNat = a
 rw [BitVec.ofInt_natCast,BitVec.toNat_ofNat]
 exact Nat.mod_eq_of_lt h
theorem Qvn {a k:Nat}:Int.fdiv (a:Int) ((2:Int)^k)=((a / 2^k:Nat):Int):=by
 rw [Int.fdiv_eq_ediv_of_nonneg _ (by exact_mod_cast eJ (2^k))]
 simp
theorem Qe2 {a k:Nat} (ha:a < 18446744073709551616) (hk:k < 64) :
  zv (zb (Int.fdiv (a:Int) (2^min (Int.toNat (k:Int)) zk)) &&& zb 1).toNat = ((a.testBit k).toNat : Int):=by
 have hb:zk=64:=rfl
 have e0:min (Int.toNat (k:Int)) zk=k:=by rw [hb,aR]; omega
 rw [e0,Qvn]
 have h1:a / 2^k < 18446744073709551616:=bX (Nat.div_le_self _ _) ha
 have e1:(zb ((a / 2^k:Nat):Int) &&& zb 1).toNat = (a / 2^k) % 2:=by
  rw [BitVec.toNat_and,Y9 h1,show (zb 1).toNat = 1 from rfl,Nat.and_one_is_mod]
 rw [e1,Zf (by omega)]
 have e2:a.testBit k=((a / 2^k) % 2==1):=by rw [Nat.testBit_eq_decide_div_mod_eq]; rfl
 rw [e2]
 rcases Nat.mod_two_eq_zero_or_one (a / 2^k) with h | h <;> rw [h] <;> rfl
def cnt:Nat -> (Nat -> Bool)->Nat
 | 0,_=>0
 | n+1,p=>cnt n p+(p n).toNat
theorem Qdk {n:Nat} {p q:Nat -> Bool} (h:∀i,i < n->p i=q i):cnt n p=cnt n q:=by
 induction n with
 | zero=>rfl
 | succ n ih=>simp only [cnt]; rw [ih fun i hi=>h i (by omega),h n (by omega)]
theorem Qqx (n:Nat) (p:Nat -> Bool):cnt n p<=n:=by
 induction n with
 | zero=>exact bA _
 | succ n ih =>
  simp only [cnt]; have:(p n).toNat <= 1:=by cases p n <;> decide
  omega
theorem Qkn {n:Nat} {p q:Nat -> Bool} (h:∀i,i < n->p i=true->q i=true):cnt n p<=cnt n q:=by
 induction n with
 | zero=>exact bA _
 | succ n ih =>
  simp only [cnt]
  have h1:=ih fun i hi=>h i (by omega)
  have h2:=h n (by omega)
  cases hp:p n with
  | false =>
   have:false.toNat = 0:=rfl
   omega
  | true=>rw [h2 hp]; omega
theorem Qxs {n:Nat} {p:Nat -> Bool} {i:Nat} (hi:i < n) (h:p i=true):0 < cnt n p:=by
 induction n with
 | zero=>omega
 | succ n ih =>
  simp only [cnt]
  by_cases e:i=n
  ·subst e; rw [h]; show 0 < _+1; omega
  have:=ih (by omega); omega
theorem Qi3 {n v:Nat} {p:Nat -> Bool} (hv:v < n) (h:p v=true):cnt n (fun i=>p i && !decide (v=i))+1=cnt n p:=by
 induction n with
 | zero=>omega
 | succ n ih =>
  simp only [cnt]
  by_cases e:v=n
  ·subst e
   rw [Qdk (n:=v) (q:=p) fun i hi=>by simp; intro _; omega,h]
   simp
  have:=ih (by omega)
  have e2:(p n && !decide (v=n))=p n:=by simp; intro _; exact e
  rw [e2]; omega
theorem Z4 (k:Nat):(0:Int)<=(k:Int):=dC k
theorem Qgv {k:Nat} (h:k < 9223372036854775807):zw ((k:Int)+1)=((k+1:Nat):Int):=by rw [w64 (by omega)]; omega
theorem Qen {τ ρ σ:Type} {n k0:Nat} (hk:k0<=n) (hn:n < 1152921504606846976) (mkS:Int->τ->σ) {body:σ->Option (Qg σ ρ)} (I:Nat -> τ->Prop) (Q:ρ->Prop)
  (step:∀(k:Nat) (t:τ),k0<=k->k < n->I k t->(∃t',body (mkS (k:Int) t)=some (.next (mkS (zw ((k:Int)+1)) t'))/\I (k+1) t')\/(∃r,body (mkS (k:Int) t)=some (.done r)/\Q r))
  (done:∀t,I n t->∃r,body (mkS (n:Int) t)=some (.done r)/\Q r) (t0:τ) (h0:I k0 t0):∃r,Qb fuel body (mkS (k0:Int) t0)=some r/\Q r:=by
 have key:∀(j N k:Nat) (t:τ),k+j=n->k0<=k->j < N->I k t->∃r,Qb N body (mkS (k:Int) t)=some r/\Q r:=by
  intro j
  induction j with
  | zero =>
   intro N k t e hk hN hI
   obtain ⟨N,rfl⟩:∃M,N=M+1:=⟨N - 1,by omega⟩
   have:k=n:=by omega
   subst this
   obtain ⟨r,b1,b2⟩:=done t hI
   simp only [Qb,b1]
   exact ⟨r,rfl,b2⟩
  | succ j ih =>
   intro N k t e hk hN hI
   obtain ⟨N,rfl⟩:∃M,N=M+1:=⟨N - 1,by omega⟩
   rcases step k t hk (by omega) hI with ⟨t',b1,b2⟩ | ⟨r,b1,b2⟩
   ·rw [Qgv (by omega)] at b1
    simp only [Qb,b1]
    exact ih N (k+1) t' (by omega) (by omega) (by omega) b2
   simp only [Qb,b1]
   exact ⟨r,rfl,b2⟩
 exact key (n - k0) fuel k0 t0 (by omega) (bA _) (by show n - k0 < 1152921504606846976; omega) h0
theorem Zc {τ ρ σ:Type} {n k0:Nat} (hk:k0<=n) (hn:n < 1152921504606846976) (mkS:Int->τ->σ) {body:σ->Option (Qg σ ρ)} (T:Nat -> τ) (r:ρ)
  (step:∀(k:Nat),k0<=k->k < n->body (mkS (k:Int) (T k))=some (.next (mkS (zw ((k:Int)+1)) (T (k+1)))))
  (done:body (mkS (n:Int) (T n))=some (.done r)):Qb fuel body (mkS (k0:Int) (T k0))=some r:=by
 obtain ⟨r',h1,h2⟩:=Qen hk hn mkS (body:=body) (fun k t=>t=T k) (fun x=>x=r) (fun k t a b c=>.inl ⟨T (k+1),by rw [c]; exact step k a b,rfl⟩) (fun t h=>⟨r,by rw [h]; exact done,rfl⟩) (T k0) rfl
 rw [h1,h2]
theorem dlt {k n:Nat} (h:k < n):decide ((k:Int) < (n:Int))=true:=cW (by omega)
theorem nlt (n:Nat):¬ (decide ((n:Int) < (n:Int))=true):=by simp
def nI (l:List Nat):List Int:=l.map fun (k:Nat)=>(k:Int)
theorem Qap (l:List Nat):(nI l).length=l.length:=by simp [nI]
theorem Q44 {l:List Nat} {k:Nat} (h:k < l.length):lkI (nI l) (k:Int)=some (l[k]:Int):=by rw [Zd (by rwa [Qap])]; simp [nI]
end Go.Ab
namespace Go.Ab
open Go
def Qd {α:Type} (n:Nat) (F:Nat -> α):List α:=(List.range n).map F
theorem Q1 {α:Type} {n:Nat} {F:Nat -> α}:(Qd n F).length=n:=by simp [Qd]
theorem Q5 {α:Type} {n:Nat} {F:Nat -> α} {k:Nat} (h:k < n):lkI (Qd n F) (k:Int)=some (F k):=by
 rw [Zd (by rw [Q1]; exact h)]; simp [Qd]
theorem Qm {α:Type} {n:Nat} {F G:Nat -> α} (h:∀k,k < n->F k=G k):Qd n F=Qd n G:=by
 unfold Qd
 apply List.map_congr_left
 intro t ht
 exact h t (by simpa using ht)
theorem Je {α:Type} {n:Nat} {F:Nat -> α} {k:Nat} {x:α}:(Qd n F).set k x=Qd n (fun s=>if s=k then x else F s):=by
 apply List.ext_getElem?
 intro s
 rw [List.getElem?_set]
 simp only [Qd,bF,bZ,List.length_range]
 by_cases e:k=s
 ·subst e
  rw [aH rfl]
  by_cases hk:k < n
  ·rw [aH hk,List.getElem?_range hk]; simp
  rw [aI hk,dP (by simpa using hk)]; rfl
 rw [aI e]
 by_cases hs:s < n
 ·rw [List.getElem?_range hs]; simp only [bM]; rw [aI (Ne.symm e)]
 rw [dP (by simpa using hs)]; rfl
theorem Qgw {α:Type} (n:Nat) (x:α):List.replicate n x=Qd n (fun _=>x):=by
 apply List.ext_getElem?
 intro s
 rw [cM]
 by_cases hs:s < n
 ·rw [aH hs]; simp [Qd,List.getElem?_range hs]
 rw [aI hs,dP (by rw [Q1]; omega)]
theorem Qdh {α:Type} {n:Nat} {F:Nat -> α}:Qd n F++[F n]=Qd (n+1) F:=by
 unfold Qd; rw [List.range_succ]; simp
def updF {α:Type} (w:Nat -> α) (i:Nat) (x:α):Nat -> α:=fun s=>if s=i then x else w s
theorem Z6 {α:Type} {w:Nat -> α} {i:Nat} {x:α}:updF w i x i=x:=by simp [updF]
theorem Yw {α:Type} {w:Nat -> α} {i j:Nat} {x:α} (h:j≠i):updF w i x j=w j:=by simp [updF,h]
def Qj:Nat -> (Nat -> Int)->Int
 | 0,_=>0
 | n+1,f=>Qj n f+f n
theorem Q2 {n:Nat} {f g:Nat -> Int} (h:∀k,k < n->f k=g k):Qj n f=Qj n g:=by
 induction n with
 | zero=>rfl
 | succ n ih=>simp only [Qj]; rw [ih (fun k hk=>h k (by omega)),h n (by omega)]
theorem Qus {n:Nat} {f g:Nat -> Int}:Qj n (fun k=>f k+g k)=Qj n f+Qj n g:=by
 induction n with
 | zero=>rfl
 | succ n ih=>simp only [Qj,ih]; omega
theorem K6 {n:Nat}:Qj n (fun _=>0)=0:=by
 induction n with
 | zero=>rfl
 | succ n ih=>simp only [Qj,ih]; rfl
theorem Vr {n:Nat} {f:Nat -> Int} (h:∀k,k < n->0<=f k):0<=Qj n f:=by
 induction n with
 | zero=>exact Int.le_refl 0
 | succ n ih=>simp only [Qj]; have:=ih (fun k hk=>h k (by omega)); have:=h n (by omega); omega
theorem Q26 {n k:Nat} {c:Int} (h:k < n):Qj n (fun x=>if k=x then c else 0)=c:=by
 induction n with
 | zero=>omega
 | succ n ih =>
  simp only [Qj]
  by_cases e:k=n
  ·subst e
   rw [aH rfl,Q2 (g:=fun _=>0) (fun x hx=>aI (by omega)),K6]; omega
  rw [aI e,ih (by omega)]; omega
theorem Qky {a b:Nat} {f:Nat -> Int}:Qj (a+b) f=Qj a f+Qj b (fun k=>f (a+k)):=by
 induction b with
 | zero=>simp [Qj]
 | succ b ih=>rw [<-cJ]; simp only [Qj,ih]; omega
def Qi:Nat -> (Nat -> Nat)->Nat
 | 0,_=>1
 | n+1,f=>Qi n f*f n
theorem Qbo {n K:Nat} {f:Nat -> Nat} (h:∀k,k < n->f k<=K):Qi n f<=K^n:=by
 induction n with
 | zero=>simp [Qi]
 | succ n ih=>simp only [Qi,Nat.pow_succ]; exact Nat.mul_le_mul (ih fun k hk=>h k (by omega)) (h n (by omega))
structure NF where
 n:Nat
 g:Nat
 card:Nat -> Nat
 par:Nat -> List Nat
 W:Nat -> Nat -> Nat -> Nat
def lprod (f:Nat -> Nat) (l:List Nat):Nat := l.foldl (fun r p=>r*f p) 1
def NF.rows (D:NF) (v:Nat):Nat := lprod D.card (D.par v)
def NF.node (D:NF) (v:Nat):Ad:=⟨D.card v,(D.par v).map (fun (p:Nat)=>(p:Int)),Qd (D.rows v) fun r=>Qd (D.card v) fun x=>(D.W v r x:Int)⟩
def NF.net (D:NF):Qc:=⟨D.g,Qd D.n D.node⟩
def Qe (n:Nat) (w:Nat -> Nat):List Int:=Qd n fun j=>(w j:Int)
theorem Qy {n k:Nat} {w:Nat -> Nat} (h:k < n):lkI (Qe n w) (k:Int)=some (w k:Int):=Q5 h
theorem Ql {n:Nat} {w:Nat -> Nat}:(Qe n w).length=n:=Q1
structure VN (D:NF):Prop where
 n1:1<=D.n
 n8:D.n<=8
 g1:1<=D.g
 g60:D.g<=60
 card:∀v,v < D.n->1<=D.card v/\D.card v<=4
 par:∀v,v < D.n->∀p∈D.par v,p < D.n
 len:∀v,v < D.n->(D.par v).length<=8
 W:∀v r x,v < D.n->r < D.rows v->x < D.card v->D.W v r x<=D.g
 worlds:Qi D.n D.card<=1024
theorem Qbg {f:Nat -> Nat} {l:List Nat} {p:Nat}:lprod f (l++[p])=lprod f l*f p:=by simp [lprod]
theorem Qer {f:Nat -> Nat} {l:List Nat} (h:∀p∈l,f p<=4):lprod f l<=4^l.length:=by
 have key:∀(l:List Nat) (R K:Nat),R<=K->(∀p∈l,f p<=4)->l.foldl (fun r p=>r*f p) R<=K*4^l.length:=by
  intro l
  induction l with
  | nil=>intro R K h _; simpa using h
  | cons p l ih =>
   intro R K hr hp
   simp only [List.foldl_cons,dK,Nat.pow_succ]
   have:=ih (R*f p) (K*4) (Nat.mul_le_mul hr (hp p (by simp))) (fun q hq=>hp q (cN _ hq))
   rwa [Nat.mul_assoc,cL 4] at this
 have:=key l 1 1 (by omega) h
 simpa [lprod] using this
section
variable {D:NF} (V:VN D) {w:Nat -> Nat}
include V
theorem VN.rows_le {v:Nat} (hv:v < D.n):D.rows v<=65536:=by
 refine bY (Qer fun p hp=>(V.card p (V.par v hv p hp)).2) ?_
 exact aV (by omega) (V.len v hv)
omit V in
theorem Yn {α:Type} {l:List α} {k:Nat} (h:k < l.length):l.take (k+1)=l.take k++[l[k]]:=by rw [List.take_add_one,aG h]; rfl
theorem VN.node {v:Nat} (hv:v < D.n):lkI D.net.Nodes (v:Int)=some (D.node v):=Q5 hv
end
theorem Qnl {a k:Nat} (ha:a < 18446744073709551616) (hk:k < 64) :
  zv (zb (a:Int) ||| zb (zv (1*2^min (Int.toNat (k:Int)) zk))).toNat = ((a ||| 2^k:Nat):Int):=by
 have hb:zk=64:=rfl
 have e0:min (Int.toNat (k:Int)) zk=k:=by rw [hb,aR]; omega
 have hp:2^k < 18446744073709551616:=by
  have:2^k < 2^64:=eQ (by omega) hk
  exact this
 rw [e0,show (1:Int)*2^k=((2^k:Nat):Int) by simp,Zf hp]
 have e1:(zb (a:Int) ||| zb ((2^k:Nat):Int)).toNat = a ||| 2^k:=by
  rw [BitVec.toNat_or,Y9 ha,Y9 hp]
 rw [e1,Zf]
 exact eF (n:=64) ha hp
theorem or_lt {a k:Nat} (ha:a < 18446744073709551616) (hk:k < 64):a ||| 2^k < 18446744073709551616 :=
 eF (n:=64) ha (eQ (by omega) hk)
theorem Q8u {a k j:Nat}:(a ||| 2^k).testBit j=(a.testBit j || decide (k=j)):=by
 rw [bH,dE]
theorem Qts {a b:Nat} (ha:a < 18446744073709551616) (hb:b < 18446744073709551616) :
  (zv (zb (a:Int) &&& ~~~ zb (b:Int)).toNat == 0)=true↔∀j,a.testBit j=true->b.testBit j=true:=by
 have h1:(zb (a:Int) &&& ~~~ zb (b:Int)).toNat < 18446744073709551616:=BitVec.isLt _
 rw [Zf h1]
 generalize hx:zb (a:Int) &&& ~~~ zb (b:Int)=x
 have hbit:∀j,j < 64->x.getLsbD j=(a.testBit j && !(b.testBit j)):=fun j hj=>by
  rw [<-hx,BitVec.getLsbD_and,BitVec.getLsbD_not]
  have:zk=64:=rfl
  have e1:(zb (a:Int)).getLsbD j=a.testBit j:=by unfold BitVec.getLsbD; rw [Y9 ha]
  have e2:(zb (b:Int)).getLsbD j=b.testBit j:=by unfold BitVec.getLsbD; rw [Y9 hb]
  rw [e1,e2]
  simp [this,hj]
 constructor
 ·intro h j hj
  have hx0:x.toNat = 0:=by simpa using h
  have h64:j < 64:=by
   rcases bB j 64 with h' | h'
   ·exact h'
   have:=Nat.testBit_lt_two_pow (i:=j) (x:=a) (bO ha (aV (n:=2) (by omega) h'))
   rw [this] at hj; cases hj
  have h2:=hbit j h64
  have h3:x.getLsbD j=false:=by unfold BitVec.getLsbD; rw [hx0]; simp
  rw [h3,hj] at h2
  simpa using h2
 ·intro h
  have:x=0#_:=by
   apply BitVec.eq_of_getLsbD_eq
   intro j hj
   have hj':j < 64:=hj
   rw [hbit j hj']
   cases ha':a.testBit j with
   | false=>simp
   | true=>rw [h j ha']; simp
  rw [this]; rfl
def KK:Int:=167961600000000
def BD (m:Nat) (z:Int):Prop:=-((m:Int)*KK)<=z/\z<=(m:Int)*KK
theorem BD.add {m p:Nat} {a b:Int} (h:BD m a) (k:BD p b):BD (m+p) (a+b):=by
 unfold BD at *
 rw [Int.natCast_add,Int.add_mul]; omega
theorem BD.zero {m:Nat}:BD m 0:=by unfold BD KK; omega
theorem BD.sum {n p:Nat} {f:Nat -> Int} (h:∀k,k < n->BD p (f k)):BD (n*p) (Qj n f):=by
 induction n with
 | zero=>exact BD.zero
 | succ n ih=>simp only [Qj]; rw [dW]; exact (ih fun k hk=>h k (by omega)).add (h n (by omega))
section
variable {D:NF} {E:Nat -> Int}
theorem Xg {α β:Type} {o:Option α} {a:α} {k:α->Option β} {r:Option β} (h:o=some a) (h2:k a=r):o.bind k=r:=by rw [h]; exact h2
theorem Q49 {n:Nat} {f:Nat -> Nat} {l:List Nat} (hl:∀p∈l,p < n) (h8:l.length<=8):Qf5 (Qe n f) (l.map fun (p:Nat)=>(p:Int))=some (l.map fun p=>(f p:Int)):=by
 unfold Qf5
 refine Xg (X5 (s0:=((0:Int),([]:List Int))) (r:=l.map fun p=>(f p:Int)) (fun k=>((k:Int),(l.take k).map fun p=>(f p:Int))) l.length (by simp) (fun k hk=>?_) ?_ (by omega)) rfl
 ·unfold Qft
  simp only
  rw [aH (by simpa using hk),Zd (by simpa using hk)]
  simp only [aC,List.getElem_map]
  rw [Qy (hl _ (bL hk))]
  simp only [aC]
  rw [aH (by simp [cU]; omega),w64 (by omega),Yn hk]
  simp only [cZ,dI,dJ]
  rfl
 unfold Qft
 simp only
 rw [aI (by simp),List.take_of_length_le (bA _)]
end
structure VX (D:NF):Prop where
 vn:VN D
 sorted:∀v,v < D.n->(D.par v).Pairwise (· < ·)
 self:∀v,v < D.n->v ∉ D.par v
 rank:∃rk:Nat -> Nat,∀v,v < D.n->∀p∈D.par v,rk p < rk v
 sum:∀v r,v < D.n->r < D.rows v->Qj (D.card v) (fun x=>(D.W v r x:Int))=D.g
theorem Qdi:∀(a b:List Nat),a.Nodup->a ⊆ b->a.length<=b.length
 | [],_,_,_=>by simp
 | x::a,b,hn,hs=>by
  have hx:x∈b:=hs (by simp)
  rw [List.nodup_cons] at hn
  have h1:a ⊆ b.erase x:=fun y hy=>by
   have hne:y≠x:=fun e=>hn.1 (e ▸ hy)
   exact (List.mem_erase_of_ne hne).2 (hs (cN _ hy))
  have h2:=Qdi a (b.erase x) hn.2 h1
  have h3:=List.length_erase_of_mem hx
  have h4:0 < b.length:=List.length_pos_of_mem hx
  simp only [dK]
  omega
def bitsOf (l:List Nat) (a:Nat):Nat := l.foldl (fun a p=>a ||| 2^p) a
theorem X8 {j:Nat}:∀(l:List Nat) (a:Nat),(bitsOf l a).testBit j=(a.testBit j || decide (j∈l))
 | [],a=>by simp [bitsOf]
 | p::l,a=>by
  have:=X8 (j:=j) l (a ||| 2^p)
  unfold bitsOf at this ⊢
  simp only [List.foldl_cons]
  rw [this,Q8u]
  by_cases h:p=j
  ·subst h; simp
  have:j≠p:=Ne.symm h
  simp [h,this]
theorem K7:∀(l:List Nat) (a:Nat),a < 18446744073709551616->(∀p∈l,p < 64)->bitsOf l a < 18446744073709551616
 | [],a,h,_=>h
 | p::l,a,h,hl=>K7 l (a ||| 2^p) (or_lt h (hl p (by simp))) fun q hq=>hl q (cN _ hq)
theorem Qat {l:List Nat} {p a:Nat}:bitsOf (l++[p]) a=bitsOf l a ||| 2^p:=by simp [bitsOf]
section
variable {D:NF}
theorem Q39 (X:VX D) {v r k:Nat} (hv:v < D.n) (hr:r < D.rows v) (hk:k < D.card v):Qj k (fun x=>(D.W v r x:Int))+D.W v r k<=D.g:=by
 have h1:=X.sum v r hv hr
 have h2:Qj (D.card v) (fun x=>(D.W v r x:Int))=Qj (k+1) (fun x=>(D.W v r x:Int))+Qj (D.card v - (k+1)) (fun x=>(D.W v r (k+1+x):Int)):=by
  rw [<-Qky,show k+1+(D.card v - (k+1))=D.card v by omega]
 have h3:0<=Qj (D.card v - (k+1)) (fun x=>(D.W v r (k+1+x):Int)):=Vr fun x _=>dC _
 simp only [Qj] at h2
 omega
theorem Q0v (X:VX D) {v:Nat} (hv:v < D.n) {sets order:List Int}:Z9 ⟨D.net,Qe D.n D.card,sets,order⟩ (D.node v)=some true:=by
 have V:=X.vn
 have hl:(D.node v).Parents.length=(D.par v).length:=by simp [NF.node]
 have hlen:=V.len v hv
 have hrl:(D.node v).Rows.length=D.rows v:=by simp [NF.node,Q1]
 have hrows:=V.rows_le hv
 have hcv:=V.card v hv
 unfold Z9
 refine Xg (X5 (s0:=((1:Int),(0:Int))) (r:=(D.rows v:Int)) (fun k=>((lprod D.card ((D.par v).take k):Int),(k:Int))) (D.par v).length (by simp [lprod]) (fun k hk=>?_) ?_ (by omega)) ?_
 ·have hp:=V.par v hv (D.par v)[k] (bL hk)
  have b1:lprod D.card ((D.par v).take k)<=4^8:=bY (Qer fun p hp=>(V.card p (V.par v hv p (bJ hp))).2) (aV (by omega) (by rw [cU]; omega))
  have b2:lprod D.card ((D.par v).take k)*D.card (D.par v)[k]<=65536*4:=Nat.mul_le_mul (by omega) (V.card _ hp).2
  unfold Z8
  simp only
  rw [aH (by rw [hl]; simpa using hk),Zd (by rw [hl]; exact hk)]
  have e0:(D.node v).Parents[k]'(by rw [hl]; exact hk)=(((D.par v)[k]:Nat):Int):=by simp [NF.node]
  simp only [aC,e0]
  rw [Qy hp]
  simp only [aC]
  have e1:(lprod D.card ((D.par v).take k):Int)*(D.card (D.par v)[k]:Int)=((lprod D.card ((D.par v).take (k+1)):Nat):Int):=by rw [Yn hk,Qbg]; simp
  have e2:lprod D.card ((D.par v).take (k+1))<=65536*4:=by rw [Yn hk,Qbg]; exact b2
  rw [e1,w64 (by omega),w64 (by omega)]
  rfl
 ·unfold Z8
  simp only
  rw [aI (by rw [hl]; simp),List.take_of_length_le (bA _)]
  rfl
 rw [aI (by rw [hrl]; simp)]
 refine Xg (X5 (s0:=(0:Int)) (r:=Sum.inr ()) (fun r=>(r:Int)) (D.rows v) rfl (fun r hr=>?_) ?_ (by omega)) rfl
 ·unfold Zn
  simp only
  rw [aH (by rw [hrl]; simpa using hr),show lkI (D.node v).Rows (r:Int)=some (Qd (D.card v) fun x=>(D.W v r x:Int)) from Q5 hr]
  simp only [aC]
  have hin:Qb fuel (Q7 (Qd (D.card v) fun x=>(D.W v r x:Int))) ((D.g:Int),(0:Int))=some (Sum.inr 0):=by
   refine X5 (fun k=>((D.g:Int) - Qj k (fun x=>(D.W v r x:Int)),(k:Int))) (D.card v) _ (by simp [Qj]) (fun k hk=>?_) ?_ (by omega)
   ·have h1:=Q39 X hv hr hk
    have h2:0<=Qj k (fun x=>(D.W v r x:Int)):=Vr fun x _=>dC _
    have hg:=V.g60
    unfold Q7
    simp only
    rw [aH (by rw [Q1]; simpa using hk),Q5 hk]
    simp only [aC]
    rw [aI (by simp),aI (by simp; omega),w64 (by omega),w64 (by omega)]
    simp only [Qj]
    congr 3
    omega
   unfold Q7
   simp only
   rw [aI (by rw [Q1]; simp),X.sum v r hv hr,Int.sub_self]
  rw [show (D.net.Grain:Int)=(D.g:Int) from rfl,hin]
  simp only [aC]
  rw [aI (by rw [Q1]; simp [NF.node]),aI (by simp),w64 (by omega)]
  rfl
 unfold Zn
 simp only
 rw [aI (by rw [hrl]; simp)]
def setN (D:NF) (v:Nat):Nat := bitsOf (D.par v) 0
theorem Qx5 (V:VN D) {v:Nat} (hv:v < D.n):setN D v < 18446744073709551616:=K7 _ _ (by omega) fun p hp=>by have:=V.par v hv p hp; have:=V.n8; omega
theorem Qvx {v j:Nat}:(setN D v).testBit j=decide (j∈D.par v):=by unfold setN; rw [X8]; simp
theorem Qr7 (X:VX D):∃order,Vz (Qe D.n (setN D))=some (order,true):=by
 have V:=X.vn
 have hn:=V.n8
 obtain ⟨rk,hrk⟩:=X.rank
 have hlen:(Qe D.n (setN D)).length=D.n:=Ql
 let I:Int × List Int->Prop:=fun s=>∃(l:List Nat),l.Nodup/\(∀p∈l,p < D.n)/\s=((bitsOf l 0:Int),l.map fun (p:Nat)=>(p:Int))
 have hw:=Jn (body:=Xl (Qe D.n (setN D))) I (fun s=>D.n - s.2.length) (fun r=>∃o,r=Sum.inr o) (fun s hs=>?_) ((0:Int),List.replicate (Int.toNat 0) (0:Int)) ⟨[],List.nodup_nil,fun p hp=>by simp at hp,rfl⟩ (by simp; omega)
 ·obtain ⟨r,h1,o,rfl⟩:=hw
  refine ⟨o,?_⟩
  unfold Vz
  rw [aH (by rw [hlen]; omega),h1]
  rfl
 obtain ⟨l,hnd,hl,rfl⟩:=hs
 have hll:l.length<=D.n:=by
  have h1:l ⊆ List.range D.n:=fun p hp=>cS.2 (hl p hp)
  have:=Qdi l (List.range D.n) hnd h1
  simpa using this
 have hdl:bitsOf l 0 < 18446744073709551616:=K7 _ _ (by omega) fun p hp=>by have:=hl p hp; omega
 by_cases hc:l.length < D.n
 ·
  have hex:∃v,v < D.n/\v ∉ l:=by
   apply Classical.byContradiction
   intro hno
   have h1:List.range D.n ⊆ l:=fun p hp=>by
    apply Classical.byContradiction
    intro hp'
    exact hno ⟨p,cS.1 hp,hp'⟩
   have:=Qdi (List.range D.n) l List.nodup_range h1
   simp at this
   omega
  have hmin:∃v,v < D.n/\v ∉ l/\∀u,u < D.n->u ∉ l->rk v<=rk u:=by
   obtain ⟨v0,h1,h2⟩:=hex
   have:∀(k:Nat) (v:Nat),rk v<=k->v < D.n->v ∉ l->∃v,v < D.n/\v ∉ l/\∀u,u < D.n->u ∉ l->rk v<=rk u:=by
    intro k
    induction k with
    | zero=>intro v hk h1 h2; exact ⟨v,h1,h2,fun u _ _=>by omega⟩
    | succ k ih =>
     intro v hk h1 h2
     by_cases hall:∀u,u < D.n->u ∉ l->rk v<=rk u
     ·exact ⟨v,h1,h2,hall⟩
     ·have:∃u,u < D.n/\u ∉ l/\rk u < rk v:=by
       apply Classical.byContradiction
       intro hno
       exact hall fun u hu hul=>by
        apply Classical.byContradiction
        intro hlt
        exact hno ⟨u,hu,hul,by omega⟩
      obtain ⟨u,hu,hul,hlt⟩:=this
      exact ih u (by omega) hu hul
   exact this (rk v0) v0 (bA _) h1 h2
  obtain ⟨v1,hv1,hv1l,hv1m⟩:=hmin
  have hready:∀p∈D.par v1,p∈l:=fun p hp=>by
   apply Classical.byContradiction
   intro hpl
   have h1:=hv1m p (V.par v1 hv1 p hp) hpl
   have h2:=hrk v1 hv1 p hp
   omega
  left
  have hs2:=Jn (body:=V8 (Qe D.n (setN D)) ((bitsOf l 0:Int),l.map fun (p:Nat)=>(p:Int))) (fun s=>∃k:Nat,k<=v1/\s=(k:Int)) (fun s=>D.n - s.toNat)
   (fun r=>∃v,v < D.n/\v ∉ l/\r=Sum.inl (((bitsOf l 0 ||| 2^v:Nat):Int),(l.map fun (p:Nat)=>(p:Int))++[(v:Int)])) (fun s hs=>?_) (0:Int) ⟨0,by omega,rfl⟩ (by simp; omega)
  ·obtain ⟨r,h1,v,hv,hvl,rfl⟩:=hs2
   refine ⟨(((bitsOf l 0 ||| 2^v:Nat):Int),(l.map fun (p:Nat)=>(p:Int))++[(v:Int)]),?_,⟨l++[v],?_,?_,?_⟩,by simp; omega⟩
   ·unfold Xl
    simp only
    rw [aH (by rw [hlen]; simp; omega),h1]
    rfl
   ·rw [List.nodup_append]
    exact ⟨hnd,by simp,fun a ha b hb=>by simp at hb; subst hb; exact fun e=>hvl (e ▸ ha)⟩
   ·intro p hp
    rcases bV.1 hp with h | h
    ·exact hl p h
    ·simp at h; subst h; exact hv
   ·rw [Qat]; simp
  ·obtain ⟨k,hk,rfl⟩:=hs
   have hkn:k < D.n:=by omega
   have ek:zw ((k:Int)+1)=((k+1:Nat):Int):=by rw [w64 (by omega)]; omega
   have hbk:(bitsOf l 0).testBit k=decide (k∈l):=by rw [X8]; simp
   unfold V8
   simp only
   rw [aH (by rw [hlen]; simpa using hkn),Qy hkn]
   simp only [aC]
   rw [aH (by omega),Qe2 hdl (by omega),hbk]
   by_cases hkl:k∈l
   ·left
    rw [aI (by simp [hkl]),ek]
    have hne:k≠v1:=fun e=>hv1l (e ▸ hkl)
    exact ⟨_,rfl,⟨k+1,by omega,rfl⟩,by simp; omega⟩
   ·rw [aH (by simp [hkl])]
    by_cases hsub:∀p∈D.par k,p∈l
    ·right
     rw [aH ((Qts (Qx5 V hkn) hdl).2 fun j hj=>by
      rw [Qvx] at hj
      rw [X8]
      simp at hj ⊢
      exact hsub j hj),aH (by simp; omega),aH (by omega),Qnl hdl (by omega)]
     exact ⟨_,rfl,k,hkn,hkl,rfl⟩
    ·left
     have hne:k≠v1:=fun e=>by subst e; exact hsub hready
     rw [aI (fun hc'=>hsub fun p hp=>by
      have:=(Qts (Qx5 V hkn) hdl).1 hc' p (by rw [Qvx]; simpa using hp)
      rw [X8] at this
      simpa using this),ek]
     exact ⟨_,rfl,⟨k+1,by omega,rfl⟩,by simp; omega⟩
 right
 refine ⟨Sum.inr (l.map fun (p:Nat)=>(p:Int)),?_,_,rfl⟩
 unfold Xl
 simp only
 rw [aI (by rw [hlen]; simp; omega)]
theorem Qns (X:VX D):∃order,Xn D.net=some (⟨D.net,Qe D.n D.card,Qe D.n (setN D),order⟩,0):=by
 have V:=X.vn
 have hn:=V.n8
 have hn1:=V.n1
 have hg:=V.g60
 have hg1:=V.g1
 have hlen:D.net.Nodes.length=D.n:=Q1
 have hG:D.net.Grain=(D.g:Int):=rfl
 obtain ⟨order,hord⟩:=Qr7 X
 refine ⟨order,?_⟩
 unfold Xn
 rw [hlen,hG,aI (by simp; omega),aI (by simp; omega),aI (by simp; omega),aI (by simp; omega),aH (by omega),aH (by omega),aR,Qgw]
 have h0:Qb fuel (X0 D.net) ((1:Int),(0:Int),Qd D.n fun _=>(0:Int))=some (Sum.inr ((Qi D.n D.card:Int),Qe D.n D.card)):=by
  refine X5 (fun k=>((Qi k D.card:Int),(k:Int),Qd D.n fun j=>if j < k then (D.card j:Int) else 0)) D.n _ (by simp [Qi]) (fun k hk=>?_) ?_ (by omega)
  ·have b1:Qi k D.card<=4^k:=Qbo fun j hj=>(V.card j (by omega)).2
   have b2:(4:Nat)^k<=4^8:=aV (by omega) (by omega)
   have b3:Qi k D.card*D.card k<=65536*4:=Nat.mul_le_mul (by omega) (V.card k hk).2
   have hc:=V.card k hk
   have e1:(Qi k D.card:Int)*(D.node k).Card=((Qi (k+1) D.card:Nat):Int):=by simp [Qi,NF.node]
   unfold X0
   simp only
   rw [aH (by rw [hlen]; simpa using hk),V.node hk]
   simp only [aC]
   have hc1:¬ (decide ((D.node k).Card < 1)=true):=by rw [aN]; show ¬ ((D.card k:Int) < 1); omega
   have hc2:¬ (decide ((D.node k).Card > 4)=true):=by rw [aN]; show ¬ ((D.card k:Int) > 4); omega
   rw [aI hc1,aI hc2,Q5 hk]
   simp only [aC]
   have w1:zw ((Qi (k+1) D.card:Nat):Int)=((Qi (k+1) D.card:Nat):Int):=w64 (by simp only [Qi]; omega)
   rw [e1,w1,w64 (by omega),aR,Je]
   congr 4
   refine Qm fun j hj=>?_
   by_cases e:j=k
   ·subst e; simp [NF.node]
   rw [aI e]
   by_cases e2:j < k
   ·rw [aH e2,aH (by omega)]
   rw [aI e2,aI (by omega)]
  unfold X0
  simp only
  rw [aI (by rw [hlen]; simp)]
  congr 4
  exact Qm fun j hj=>aH hj
 rw [h0]
 simp only [aC]
 have hwd:=V.worlds
 rw [aI (by simp; omega)]
 have h2:Qb fuel (X2 D.net ((Qi D.n D.card:Int),Qe D.n D.card)) ((0:Int),Qd D.n fun _=>(0:Int))=some (Sum.inr (Qe D.n (setN D))):=by
  refine X5 (fun v=>((v:Int),Qd D.n fun j=>if j < v then (setN D j:Int) else 0)) D.n _ (by simp) (fun v hv=>?_) ?_ (by omega)
  ·have hl:(D.node v).Parents.length=(D.par v).length:=by simp [NF.node]
   have hplen:=V.len v hv
   have h1:Qb fuel (X1 (D.node v) D.net ((v:Int),Qd D.n fun j=>if j < v then (setN D j:Int) else 0)) ((-1:Int),(0:Int),Qd D.n fun j=>if j < v then (setN D j:Int) else 0) =
     some (Sum.inr (Qd D.n fun j=>if j < v+1 then (setN D j:Int) else 0)):=by
    refine X5 (fun k=>((if k=0 then (-1:Int) else (((D.par v).getD (k - 1) 0:Nat):Int)),(k:Int),Qd D.n fun j=>if j < v then (setN D j:Int) else if j=v then (bitsOf ((D.par v).take k) 0:Int) else 0)) (D.par v).length _ ?_ (fun k hk=>?_) ?_ (by omega)
    ·simp only [eP,List.take_zero]
     congr 2
     refine Qm fun j _=>?_
     by_cases e:j < v
     ·rw [aH e,aH e]
     ·rw [aI e,aI e]; simp [bitsOf]
    ·have hp:=V.par v hv (D.par v)[k] (bL hk)
     have hgt:(if k=0 then (-1:Int) else (((D.par v).getD (k - 1) 0:Nat):Int)) < (((D.par v)[k]:Nat):Int):=by
      by_cases h0:k=0
      ·rw [aH h0]; omega
      rw [aI h0]
      have hk1:k - 1 < (D.par v).length:=by omega
      have:=List.pairwise_iff_getElem.1 (X.sorted v hv) (k - 1) k hk1 hk (by omega)
      have e:(D.par v).getD (k - 1) 0=(D.par v)[k - 1]:=by simp [List.getD,hk1]
      rw [e]; omega
     have hself:(D.par v)[k]≠v:=fun e=>X.self v hv (by have:=bL hk; rwa [e] at this)
     have hbl:bitsOf ((D.par v).take k) 0 < 18446744073709551616:=K7 _ _ (by omega) fun p hp=>by have:=V.par v hv p (bJ hp); omega
     unfold X1
     simp only
     rw [aH (by rw [hl]; simpa using hk),Zd (by rw [hl]; exact hk)]
     have e0:(D.node v).Parents[k]'(by rw [hl]; exact hk)=(((D.par v)[k]:Nat):Int):=by simp [NF.node]
     simp only [aC,e0]
     rw [aI (by rw [aN]; exact Int.not_le.2 hgt),aI (by rw [hlen]; simp; omega),aI (by simp; omega),Q5 hv]
     simp only [aC,dH,eO,eP]
     rw [aH (by omega),Qnl hbl (by omega),w64 (by omega),aR,Je,Yn hk,Qat]
     have e2:(D.par v).getD (k+1 - 1) 0=(D.par v)[k]:=by simp [List.getD,hk]
     rw [aI (by omega),e2]
     congr 4
     refine Qm fun j _=>?_
     by_cases e:j=v
     ·subst e; simp
     ·rw [aI e,aI e,aI e]
    ·unfold X1
     simp only
     rw [aI (by rw [hl]; simp),List.take_of_length_le (bA _)]
     congr 3
     refine Qm fun j _=>?_
     by_cases e:j < v
     ·rw [aH e,aH (by omega)]
     ·rw [aI e]
      by_cases e2:j=v
      ·subst e2; rw [aH rfl,aH (by omega)]; rfl
      ·rw [aI e2,aI (by omega)]
   unfold X2
   simp only
   rw [aH (by rw [hlen]; simpa using hv),V.node hv]
   simp only [aC]
   rw [h1]
   simp only [aC]
   rw [Q0v X hv]
   simp only [aC]
   rw [aI (by simp),w64 (by omega)]
   rfl
  unfold X2
  simp only
  rw [aI (by rw [hlen]; simp)]
  congr 3
  exact Qm fun j hj=>aH hj
 rw [h2]
 simp only [aC]
 rw [hord]
 rfl
end
theorem Q0b {n:Nat} {f:Nat -> Nat}:∃s:Nat,Qj n (fun x=>(f x:Int))=(s:Int):=by
 obtain ⟨s,hs⟩:=Int.eq_ofNat_of_zero_le (Vr (n:=n) (f:=fun x=>(f x:Int)) fun _ _=>dC _)
 exact ⟨s,hs⟩
theorem Qe5 {n k:Nat} {f:Nat -> Int} (h:∀j,j < n->0<=f j) (hk:k<=n):Qj k f<=Qj n f:=by
 obtain ⟨m,rfl⟩:=Nat.exists_eq_add_of_le hk
 rw [Qky]
 have:=Vr (n:=m) (f:=fun x=>f (k+x)) fun j hj=>h _ (by omega)
 omega
theorem Qpb {g S:Nat} (hS:0 < S):∀(n:Nat) (o:Nat -> Nat),Qj n (fun x=>((g*o x / S:Nat):Int))*S<=g*Qj n (fun x=>(o x:Int))
 | 0,_=>by simp [Qj]
 | n+1,o=>by
  have ih:=Qpb (g:=g) hS n o
  have h1:g*o n / S*S<=g*o n:=Nat.div_mul_le_self _ _
  have h2:(((g*o n / S:Nat):Int))*(S:Int)<=(g:Int)*(o n:Int):=by exact_mod_cast h1
  simp only [Qj]
  rw [Int.add_mul,Int.mul_add]
  exact Int.add_le_add ih h2
theorem Q3y {g c:Nat} {l:List Int} {fr:Nat} (hg:g<=60) (hc:1<=c) (hc4:c<=4) (hl:∀x∈l,0<=x/\x<=255) (hll:l.length<=9223372036854775807) (hfr:fr<=100000) :
  ∃f:Nat -> Nat,Qcc (g:Int) (c:Int) l (fr:Int)=some (Qd c fun x=>(f x:Int))/\Qj c (fun x=>(f x:Int))=g:=by
 have hb0:∃o:Nat -> Nat,(∀j,o j < 8)/\Qb fuel (Jq (c:Int) l (fr:Int)) ((0:Int),(0:Int),Qd c fun _=>(0:Int))=some (Qj c (fun x=>(o x:Int)),Qd c fun x=>(o x:Int)):=by
  by_cases h0:l.length=0
  ·refine ⟨fun _=>0,fun _=>Nat.zero_lt_succ _,?_⟩
   have hz:∀k,Qj k (fun _=>((0:Nat):Int))=0:=fun k=>K6
   refine X5 (fun k=>((0:Int),(k:Int),Qd c fun _=>(0:Int))) c _ rfl (fun k hk=>?_) ?_ (by omega)
   ·unfold Jq
    simp only
    rw [aH (by simpa using hk),aI (by simp [h0]),Q5 hk]
    simp only [aC]
    rw [w64 (by omega),w64 (by omega)]
    rfl
   unfold Jq
   simp only
   rw [aI (by simp),hz]
   rfl
  have hpos:0 < l.length:=by omega
  let o:Nat -> Nat := fun k=>((l[(fr+k) % l.length]'(cI _ hpos)).toNat) % 8
  refine ⟨o,fun j=>cI _ (by omega),?_⟩
  refine X5 (fun k=>(Qj k (fun x=>(o x:Int)),(k:Int),Qd c fun j=>if j < k then (o j:Int) else 0)) c _ (by simp [Qj]) (fun k hk=>?_) ?_ (by omega)
  ·have hx:=hl _ (bL (cI (fr+k) hpos))
   have ho:o k=((l[(fr+k) % l.length]'(cI _ hpos)).toNat) % 8:=rfl
   have hs:Qj k (fun x=>(o x:Int))<=8*k:=by
    have:∀k,Qj k (fun x=>(o x:Int))<=8*k:=by
     intro k
     induction k with
     | zero=>simp [Qj]
     | succ k ih=>simp only [Qj]; have:o k < 8:=cI _ (by omega); omega
    exact this k
   have hs0:0<=Qj k (fun x=>(o x:Int)):=Vr fun _ _=>dC _
   have e1:Int.tmod (zw ((fr:Int)+(k:Int))) (l.length:Int)=(((fr+k) % l.length:Nat):Int):=by
    rw [w64 (by omega),Qak (by omega)]; simp
   unfold Jq
   simp only
   rw [aH (by simpa using hk),aH (by simp; omega),aH (by omega),e1,Zd (cI _ hpos)]
   simp only [aC]
   rw [Q5 hk]
   simp only [aC]
   have e2:Int.tmod (l[(fr+k) % l.length]'(cI _ hpos)) 8=(o k:Int):=by rw [Qak hx.1,ho]; omega
   have ho8:o k < 8:=cI _ (by omega)
   rw [e2]
   have w1:zw (o k:Int)=(o k:Int):=w64 (by omega)
   rw [w1,w64 (by omega),w64 (by omega),aR,Je]
   simp only [Qj]
   congr 4
   refine Qm fun j hj=>?_
   by_cases e:j=k
   ·subst e; simp
   rw [aI e]
   by_cases e2:j < k
   ·rw [aH e2,aH (by omega)]
   rw [aI e2,aI (by omega)]
  unfold Jq
  simp only
  rw [aI (by simp)]
  congr 3
  exact Qm fun j hj=>aH hj
 obtain ⟨o,ho,h0⟩:=hb0
 obtain ⟨S,hS⟩:=Q0b (n:=c) (f:=o)
 let q:Nat -> Nat := fun x=>g*o x / S
 have hq:∀x,o x=0->q x=0:=fun x h=>by show g*o x / S=0; rw [h]; simp
 have hSb:S<=32:=by
  have:∀k,Qj k (fun x=>(o x:Int))<=8*k:=by
   intro k
   induction k with
   | zero=>simp [Qj]
   | succ k ih=>simp only [Qj]; have:=ho k; omega
  have:=this c
  omega
 have hpart:∀k,k<=c->0<=Qj k (fun x=>(q x:Int))/\Qj k (fun x=>(q x:Int))<=g:=fun k hk=>by
  refine ⟨Vr fun _ _=>dC _,Int.le_trans (Qe5 (fun _ _=>dC _) hk) ?_⟩
  by_cases h:S=0
  ·have:∀x,q x=0:=fun x=>by show g*o x / S=0; rw [h]; simp
   rw [Q2 (g:=fun _=>0) (fun x _=>by rw [this]; rfl),K6]; omega
  have h1:=Qpb (g:=g) (S:=S) (by omega) c o
  rw [hS] at h1
  have h2:Qj c (fun x=>(q x:Int))*(S:Int)<=(g:Int)*(S:Int):=h1
  exact Int.le_of_mul_le_mul_right h2 (by omega)
 have hb1:=Jn (body:=Qeu (c:Int) (Qj c (fun x=>(o x:Int)),Qd c fun x=>(o x:Int)) (g:Int))
  (fun s=>∃k last:Nat,k<=c/\last < c/\s=((g:Int) - Qj k (fun x=>(q x:Int)),(last:Int),(k:Int),Qd c fun j=>if j < k then (q j:Int) else (o j:Int)))
  (fun s=>c - s.2.2.1.toNat)
  (fun r=>∃last:Nat,last < c/\r=((g:Int) - Qj c (fun x=>(q x:Int)),(last:Int),Qd c fun j=>(q j:Int)))
  (fun s hs=>?_) ((g:Int),(0:Int),(0:Int),Qd c fun x=>(o x:Int)) ⟨0,0,by omega,by omega,by simp [Qj]⟩ (by simp; omega)
 ·obtain ⟨r,h1,last,hlast,rfl⟩:=hb1
  have hp:=hpart c (bA _)
  obtain ⟨left,hleft⟩:=Int.eq_ofNat_of_zero_le (show 0<=(g:Int) - Qj c (fun x=>(q x:Int)) by omega)
  refine ⟨fun x=>q x+if last=x then left else 0,?_,?_⟩
  ·unfold Qcc
   rw [aH (by omega),aR,Qgw,h0]
   simp only [aC]
   rw [h1]
   simp only [aC]
   rw [Q5 hlast]
   simp only [aC]
   have hql:(q last:Int)<=g:=by
    have e:=Qe5 (n:=c) (k:=last+1) (f:=fun x=>(q x:Int)) (fun _ _=>dC _) (by omega)
    have e2:=(hpart last (by omega)).1
    simp only [Qj] at e
    omega
   rw [hleft,w64 (by omega),aR,Je]
   congr 1
   refine Qm fun x hx=>?_
   by_cases e:x=last
   ·subst e; simp
   ·rw [aI e,aI (Ne.symm e)]; simp
  ·have e:(fun x=>((q x+if last=x then left else 0:Nat):Int))=fun x=>(q x:Int)+if last=x then (left:Int) else 0:=by
    funext x; split <;> simp
   rw [e,Qus,Q26 hlast]
   have:(left:Int)=(g:Int) - Qj c (fun x=>(q x:Int)):=hleft.symm
   omega
 ·obtain ⟨k,last,hk,hlast,rfl⟩:=hs
  unfold Qeu
  simp only
  by_cases hkc:k < c
  ·left
   have hp1:=hpart k hk
   have hp2:=hpart (k+1) hkc
   have e1:Qj (k+1) (fun x=>(q x:Int))=Qj k (fun x=>(q x:Int))+(q k:Int):=rfl
   rw [aH (by simpa using hkc),Q5 hkc]
   simp only [aC,dH,eO]
   have ek:zw ((k:Int)+1)=((k+1:Nat):Int):=by rw [w64 (by omega)]; omega
   by_cases ho0:o k=0
   ·rw [aI (by simp [ho0]),ek,ho0,w64 (by omega)]
    refine ⟨_,rfl,⟨k+1,last,hkc,hlast,?_⟩,by simp; omega⟩
    rw [e1,hq k ho0]
    congr 1
    ·simp
    ·congr 2
     refine Qm fun j hj=>?_
     by_cases e:j=k
     ·subst e; simp [ho0,hq]
     ·by_cases e2:j < k
      ·rw [aH e2,aH (by omega)]
      ·rw [aI e2,aI (by omega)]
   ·have hSpos:S≠0:=by
     intro h
     have:=Qe5 (n:=c) (k:=k+1) (f:=fun x=>(o x:Int)) (fun _ _=>dC _) hkc
     have h2:0<=Qj k (fun x=>(o x:Int)):=Vr fun _ _=>dC _
     simp only [Qj] at this
     omega
    have hok:=ho k
    have hm:g*o k<=60*8:=Nat.mul_le_mul hg (by omega)
    have e2:zw (Int.tdiv (zw ((g:Int)*(o k:Int))) (Qj c (fun x=>(o x:Int))))=(q k:Int):=by
     have e3:(g:Int)*(o k:Int)=((g*o k:Nat):Int):=by simp
     have hd:g*o k / S<=g*o k:=Nat.div_le_self _ _
     have w1:zw ((g*o k:Nat):Int)=((g*o k:Nat):Int):=w64 (by omega)
     rw [e3,w1,hS,Qov (dC _),show ((g*o k:Nat):Int) / (S:Int)=((g*o k / S:Nat):Int) by simp]
     show zw ((g*o k / S:Nat):Int)=((g*o k / S:Nat):Int)
     obtain ⟨z,hz⟩:∃z,g*o k / S=z:=⟨_,rfl⟩
     rw [hz] at hd ⊢
     exact w64 (by omega)
    rw [aH (by simp; omega),aH (by rw [hS]; omega),e2,ek,aR,Je,w64 (by omega)]
    refine ⟨_,rfl,⟨k+1,k,hkc,hkc,?_⟩,by simp; omega⟩
    rw [e1]
    congr 1
    ·omega
    ·congr 2
     refine Qm fun j hj=>?_
     by_cases e:j=k
     ·subst e; simp
     ·rw [aI e]
      by_cases e2:j < k
      ·rw [aH e2,aH (by omega)]
      ·rw [aI e2,aI (by omega)]
  ·right
   have:k=c:=by omega
   subst this
   rw [aI (by simp)]
   refine ⟨_,rfl,last,hlast,?_⟩
   congr 2
   exact Qm fun j hj=>aH hj
theorem Q6h {n:Nat} (hn:n<=5) {w:Int} {o:List Int}:J1 ⟨List.replicate n (0:Int),w,o⟩=some (List.replicate n 1):=by
 unfold J1
 refine Xg (X5 (s0:=((0:Int),([]:List Int))) (r:=List.replicate n 1) (fun k=>((k:Int),List.replicate k (1:Int))) n rfl (fun k hk=>?_) ?_ (by omega)) rfl
 ·unfold Kn
  simp only
  rw [aH (by simp; omega),aH (by simp; omega),Zd (by simpa using hk)]
  simp only [aC,List.getElem_replicate]
  have e:zw (1+zw (Int.tmod 0 4))=1:=by decide
  rw [e,aH (by simp; omega),w64 (by omega),<-List.replicate_succ']
  rfl
 unfold Kn
 simp only
 rw [aI (by simp)]
theorem Qun {q:List Nat} {k a:Nat} (h:q.Nodup) (hk:∀x∈q,x < k):(q.take a++[k]++q.drop a).Nodup/\∀x∈q.take a++[k]++q.drop a,x < k+1:=by
 have hperm:(q.take a++[k]++q.drop a).Perm (k::q):=by
  have h1:(q.take a++[k]++q.drop a).Perm ([k]++q.take a++q.drop a):=List.Perm.append_right _ List.perm_append_comm
  have h2:[k]++q.take a++q.drop a=k::q:=by simp
  rw [h2] at h1
  exact h1
 refine ⟨?_,fun x hx=>?_⟩
 ·rw [hperm.nodup_iff,List.nodup_cons]
  exact ⟨fun hm=>dH _ (hk k hm),h⟩
 have:=hperm.mem_iff.1 hx
 rcases cF.1 this with e | e
 ·omega
 have:=hk x e; omega
theorem Qzj {n:Nat} (hn:n<=5) {o:List Int} (ho:∀x∈o,0<=x/\x<=255) :
  ∃q:List Nat,q.Nodup/\(∀x∈q,x < n)/\q.length=n/\Y1 ⟨List.replicate n (0:Int),0,o⟩=some (q.map fun (x:Nat)=>(x:Int)):=by
 have hw:=Jn (body:=Vj ⟨List.replicate n (0:Int),0,o⟩) (fun s=>∃q:List Nat,q.Nodup/\(∀x∈q,x < q.length)/\q.length<=n/\s=((q.length:Int),q.map fun (x:Nat)=>(x:Int)))
  (fun s=>n - s.1.toNat) (fun r=>∃q:List Nat,q.Nodup/\(∀x∈q,x < n)/\q.length=n/\r=q.map fun (x:Nat)=>(x:Int)) (fun s hs=>?_) ((0:Int),([]:List Int)) ⟨[],List.nodup_nil,fun x hx=>by simp at hx,by simp,rfl⟩ (by simp; omega)
 ·obtain ⟨r,h1,q,h2,h3,h4,rfl⟩:=hw
  refine ⟨q,h2,h3,h4,?_⟩
  unfold Y1
  rw [h1]; rfl
 ·obtain ⟨q,hnd,hx,hl,rfl⟩:=hs
  unfold Vj
  rw [Q6h hn]
  simp only [aC,cH,bZ]
  by_cases hc:q.length < n
  ·left
   rw [aH (by simpa using hc)]
   have ek:zw ((q.length:Int)+1)=((q.length+1:Nat):Int):=by rw [w64 (by omega)]; omega
   have ins:∀a:Nat,a<=q.length->∃s',s'=((((q.take a++[q.length]++q.drop a).length:Nat):Int),(q.take a++[q.length]++q.drop a).map fun (x:Nat)=>(x:Int)) /\
     (∃q:List Nat,q.Nodup/\(∀x∈q,x < q.length)/\q.length<=n/\s'=((q.length:Int),q.map fun (x:Nat)=>(x:Int)))/\n - s'.1.toNat < n - ((q.length:Int)).toNat := fun a ha=>by
    obtain ⟨i1,i2⟩:=Qun (a:=a) hnd hx
    have hlen:(q.take a++[q.length]++q.drop a).length=q.length+1:=by simp; omega
    exact ⟨_,rfl,⟨_,i1,fun x hx=>by rw [hlen]; exact i2 x hx,by rw [hlen]; omega,rfl⟩,by simp only [hlen]; simp; omega⟩
   have hsub:∀a:Nat,a<=q.length->sub (q.map fun (x:Nat)=>(x:Int)) 0 (a:Int)=(q.take a).map (fun (x:Nat)=>(x:Int))/\sub (q.map fun (x:Nat)=>(x:Int)) (a:Int) (q.length:Int)=(q.drop a).map (fun (x:Nat)=>(x:Int)):=fun a ha=>by
    unfold sub
    refine ⟨by simp,?_⟩
    simp only [aR]
    rw [List.take_of_length_le (by simp),List.map_drop]
   by_cases ho':q.length < o.length
   ·rw [aH (by simpa using ho'),Zd ho']
    simp only [aC]
    have hv:=ho _ (bL ho')
    obtain ⟨a,ha,hae⟩:∃a:Nat,a<=q.length/\Int.tmod (zw o[q.length]) ((q.length+1:Nat):Int)=(a:Int):=by
     refine ⟨(o[q.length]).toNat % (q.length+1),by have:=cI (o[q.length]).toNat (show 0 < q.length+1 by omega); omega,?_⟩
     rw [w64 (by omega),Qak hv.1]
     rw [Int.natCast_emod,Int.toNat_of_nonneg hv.1]
    obtain ⟨s',hs',h1,h2⟩:=ins a ha
    refine ⟨s',?_,h1,by simpa using h2⟩
    rw [ek,aH (by omega),hae,aH (by omega),(hsub a ha).1,aH (by simp; omega),aH (by simp; omega),aH (by omega),(hsub a ha).2,aH (by simp; omega),hs']
    simp
    omega
   ·rw [aI (by simpa using ho')]
    obtain ⟨s',hs',h1,h2⟩:=ins 0 (by omega)
    refine ⟨s',?_,h1,by simpa using h2⟩
    have hz:=hsub 0 (by omega)
    rw [ek,aH (by omega),show sub (q.map fun (x:Nat)=>(x:Int)) 0 0=(q.take 0).map (fun (x:Nat)=>(x:Int)) from hz.1,aH (by simp),aH (by simp),aH (by omega),show sub (q.map fun (x:Nat)=>(x:Int)) 0 (q.length:Int)=(q.drop 0).map (fun (x:Nat)=>(x:Int)) from hz.2,aH (by simp; omega),hs']
    simp
  ·right
   rw [aI (by simpa using hc)]
   exact ⟨_,rfl,q,hnd,fun x hm=>by have:=hx x hm; omega,by omega,rfl⟩
theorem Qkv {x:Int}:0<=zv x:=by simp only [IntKind.wrap,IntKind.bits,IntKind.signed]; simp; omega
theorem Qko {n:Nat} {q:List Nat} (hn:q.Nodup) (hl:∀x∈q,x < n) (hlen:q.length=n):∀v,v < n->v∈q:=fun v hv=>by
 apply Classical.byContradiction
 intro hno
 have h1:(v::q).Nodup:=List.nodup_cons.2 ⟨hno,hn⟩
 have h2:(v::q) ⊆ List.range n:=fun p hp=>by
  rcases cF.1 hp with e | e
  ·subst e; exact cS.2 hv
  exact cS.2 (hl p e)
 have:=Qdi _ _ h1 h2
 simp at this
 omega
theorem Qex {q:List Nat} {i:Nat} (hi:i < q.length) {v:Nat}:v∈q.take (i+1)↔v∈q.take i\/v=q[i]:=by
 rw [Yn hi,bV,bW]
theorem Qo2 {q:List Nat} (hn:q.Nodup) {i:Nat} (hi:i < q.length):q[i] ∉ q.take i:=fun h=>by
 obtain ⟨k,hk,e⟩:=bC.1 h
 rw [cU] at hk
 rw [List.getElem_take] at e
 have:=List.pairwise_iff_getElem.1 hn k i (by omega) hi (by omega)
 exact this e
theorem Qoi:∀{q:List Nat} {p j:Nat},p∈q.take j->q.idxOf p < j
 | [],p,j,h=>by simp at h
 | x::q,p,0,h=>by simp at h
 | x::q,p,j+1,h=>by
  rw [List.idxOf_cons]
  by_cases e:x=p
  ·subst e; simp
  have:p∈q.take j:=by
   rcases cF.1 h with e' | e'
   ·exact absurd e'.symm e
   exact e'
  have:=Qoi this
  rw [show (x==p)=false by simpa using e]
  simp; omega
theorem Q4k {q:List Nat} (hn:q.Nodup) {j:Nat} (hj:j < q.length):j<=q.idxOf q[j]:=by
 apply Classical.byContradiction
 intro h
 have hk:q.idxOf q[j] < q.length:=by omega
 have e:q[q.idxOf q[j]]=q[j]:=List.getElem_idxOf hk
 have:=List.pairwise_iff_getElem.1 hn (q.idxOf q[j]) j hk hj (by omega)
 exact this e
def dcnt (p0:Qf):Nat := min (max p0.Nodes.length 1) 5
theorem Qgp {p0:Qf}:(if 5 < (if 1 > (p0.Nodes.length:Int) then 1 else (p0.Nodes.length:Int)) then 5 else (if 1 > (p0.Nodes.length:Int) then 1 else (p0.Nodes.length:Int)))=(dcnt p0:Int):=by
 unfold dcnt
 split <;> split at * <;> omega
theorem Qi9 {p0:Qf}:1<=dcnt p0/\dcnt p0<=5:=by unfold dcnt; omega
structure Qzx (p0:Qf):Prop where
 grain:0<=p0.Grain/\p0.Grain<=255
 order:∀x∈p0.Order,0<=x/\x<=255
 card:∀p∈p0.Nodes,0<=p.Card/\p.Card<=255
 W:∀p∈p0.Nodes,∀x∈p.W,0<=x/\x<=255
 Wl:∀p∈p0.Nodes,p.W.length<=9223372036854775807
section
variable {p0:Qf} {q:List Nat}
theorem Qop {i:Nat} (hi:i < q.length):lkI (q.map fun (x:Nat)=>(x:Int)) (i:Int)=some ((q[i]:Nat):Int):=by rw [Zd (by simpa using hi)]; simp
theorem Q6z (h:Qzx p0) (hn:q.Nodup) (hl:∀x∈q,x < dcnt p0) (hlen:q.length=dcnt p0) :
  ∃C:Nat -> Nat,(∀v,v < dcnt p0->2<=C v/\C v<=3) /\
   Qb fuel (Y5 p0 (q.map fun (x:Nat)=>(x:Int))) (1,0,List.replicate (dcnt p0) (Sum.inl 0))=some (Qd (dcnt p0) fun v=>Sum.inl (C v:Int)):=by
 have hcn:=Qi9 (p0:=p0)
 have hw:=Jn (body:=Y5 p0 (q.map fun (x:Nat)=>(x:Int)))
  (fun s=>∃(w:Int) (i:Nat) (C:Nat -> Nat),i<=dcnt p0/\(∀v,v∈q.take i->2<=C v/\C v<=3)/\s=(w,(i:Int),Qd (dcnt p0) fun v=>Sum.inl (C v:Int)))
  (fun s=>dcnt p0 - s.2.1.toNat)
  (fun r=>∃C:Nat -> Nat,(∀v,v < dcnt p0->2<=C v/\C v<=3)/\r=Qd (dcnt p0) fun v=>Sum.inl (C v:Int))
  (fun s hs=>?_) (1,0,List.replicate (dcnt p0) (Sum.inl 0)) ⟨1,0,fun _=>0,by omega,fun v hv=>by simp at hv,by rw [Qgw]; rfl⟩ (by simp; omega)
 ·obtain ⟨r,h1,C,h2,rfl⟩:=hw
  exact ⟨C,h2,h1⟩
 ·obtain ⟨w,i,C,hi,hC,rfl⟩:=hs
  by_cases hic:i < dcnt p0
  ·left
   have hiq:i < q.length:=by omega
   have hv:=hl _ (bL hiq)
   have ek:zw ((i:Int)+1)=((i+1:Nat):Int):=by rw [w64 (by omega)]; omega
   have leaf:∀(w':Int) (c:Nat),2<=c->c<=3->(∃s',some (Qg.next (w',zw ((i:Int)+1),List.set (Qd (dcnt p0) fun v=>(Sum.inl (C v:Int):Int ⊕ Ad)) (Int.toNat ((q[i]:Nat):Int)) (Sum.inl (c:Int))))=some (Qg.next (ρ:=List (Int ⊕ Ad)) s') /\
     (∃(w:Int) (i:Nat) (C:Nat -> Nat),i<=dcnt p0/\(∀v,v∈q.take i->2<=C v/\C v<=3)/\s'=(w,(i:Int),Qd (dcnt p0) fun v=>Sum.inl (C v:Int)))/\dcnt p0 - s'.2.1.toNat < dcnt p0 - (i:Int).toNat):=fun w' c c1 c2=>by
    rw [ek]
    refine ⟨_,rfl,⟨w',i+1,updF C q[i] c,hic,fun v hv=>?_,?_⟩,by simp; omega⟩
    ·rcases (Qex hiq).1 hv with e | e
     ·by_cases e2:v=q[i]
      ·subst e2; rw [Z6]; exact ⟨c1,c2⟩
      ·rw [Yw e2]; exact hC v e
     ·subst e; rw [Z6]; exact ⟨c1,c2⟩
    ·rw [aR,Je]
     congr 2
     refine Qm fun k hk=>?_
     by_cases e:k=q[i]
     ·rw [aH e,e,Z6]
     ·rw [aI e,Yw e]
   have hk:lkL (Qd (dcnt p0) fun v=>(Sum.inl (C v:Int):Int ⊕ Ad)) ((q[i]:Nat):Int)=some (C q[i]:Int):=by unfold lkL; rw [Q5 hv]; rfl
   unfold Y5
   simp only [Qgp]
   rw [aH (by simpa using hic)]
   by_cases hin:i < p0.Nodes.length
   ·have hp:=h.card _ (bL hin)
    have ec:zw (2+zw (Int.tmod (p0.Nodes[i]).Card 2))=((2+(p0.Nodes[i]).Card.toNat % 2:Nat):Int):=by
     have w1:zw ((p0.Nodes[i]).Card % 2)=(p0.Nodes[i]).Card % 2:=w64 (by omega)
     rw [Qak hp.1,w1,w64 (by omega)]; omega
    rw [aH (by simpa using hin),Zd hin]
    simp only [aC]
    rw [aH Qkv]
    split
    ·rw [Qop hiq]
     simp only [aC]
     rw [hk]
     exact leaf _ 2 (by omega) (by omega)
    ·rw [Qop hiq]
     simp only [aC]
     rw [hk]
     simp only [aC]
     rw [ec]
     exact leaf _ _ (by omega) (by omega)
   ·rw [aI (by simpa using hin),aH Qkv]
    split
    ·rw [Qop hiq]
     simp only [aC]
     rw [hk]
     exact leaf _ 2 (by omega) (by omega)
    ·rw [Qop hiq]
     simp only [aC]
     rw [hk]
     simp only [aC]
     exact leaf _ 2 (by omega) (by omega)
  ·right
   have:i=dcnt p0:=by omega
   subst this
   unfold Y5
   simp only [Qgp]
   rw [aI (by simp)]
   refine ⟨_,rfl,C,fun v hv=>hC v ?_,rfl⟩
   rw [List.take_of_length_le (by omega)]
   exact Qko hn hl hlen v hv
theorem Q7i (hn:q.Nodup) {L:List (Int ⊕ Ad)} {i u:Nat} {P:List Nat} {pc:Qw} (hi:i < q.length) (hq:q.length<=5) :
  ∃P':List Nat,(P'=P\/(P'=P++[u]/\u∈q.take i/\P.length < 3)) /\
   Qb fuel (Y8 ((i:Int),L) (q.map fun (x:Nat)=>(x:Int)) ((u:Int),P.map fun (x:Nat)=>(x:Int)) pc) (0,P.map fun (x:Nat)=>(x:Int))=some (P'.map fun (x:Nat)=>(x:Int)):=by
 have hw:=Jn (body:=Y8 ((i:Int),L) (q.map fun (x:Nat)=>(x:Int)) ((u:Int),P.map fun (x:Nat)=>(x:Int)) pc)
  (fun s=>∃(k:Nat) (P':List Nat),k<=i/\(P'=P\/(P'=P++[u]/\u∈q.take k/\P.length < 3))/\s=((k:Int),P'.map fun (x:Nat)=>(x:Int)))
  (fun s=>i - s.1.toNat) (fun r=>∃P':List Nat,(P'=P\/(P'=P++[u]/\u∈q.take i/\P.length < 3))/\r=P'.map fun (x:Nat)=>(x:Int))
  (fun s hs=>?_) ((0:Int),P.map fun (x:Nat)=>(x:Int)) ⟨0,P,by omega,.inl rfl,rfl⟩ (by simp; omega)
 ·obtain ⟨r,h1,P',h2,rfl⟩:=hw
  exact ⟨P',h2,h1⟩
 ·obtain ⟨k,P',hk,hP,rfl⟩:=hs
  by_cases hki:k < i
  ·left
   have hkq:k < q.length:=by omega
   have ek:zw ((k:Int)+1)=((k+1:Nat):Int):=by rw [w64 (by omega)]; omega
   have same:∃s',some (Qg.next (zw ((k:Int)+1),P'.map fun (x:Nat)=>(x:Int)))=some (Qg.next (ρ:=List Int) s') /\
     (∃(k:Nat) (P':List Nat),k<=i/\(P'=P\/(P'=P++[u]/\u∈q.take k/\P.length < 3))/\s'=((k:Int),P'.map fun (x:Nat)=>(x:Int)))/\i - s'.1.toNat < i - (k:Int).toNat := by
    rw [ek]
    exact ⟨_,rfl,⟨k+1,P',hki,hP.imp id fun h=>⟨h.1,(Qex hkq).2 (.inl h.2.1),h.2.2⟩,rfl⟩,by simp; omega⟩
   unfold Y8
   simp only
   rw [aH (by simpa using hki),Qop hkq]
   simp only [aC]
   by_cases hqu:q[k]=u
   ·rw [aH (by simp [hqu]),aH Qkv]
    have hPP:P'=P:=by
     rcases hP with e | ⟨_,e,_⟩
     ·exact e
     exact absurd (hqu ▸ e) (Qo2 hn hkq)
    subst hPP
    split
    ·split
     ·rename_i h3
      have h3':P'.length < 3:=by simp at h3; omega
      rw [aH (by simp; omega),ek]
      exact ⟨_,rfl,⟨k+1,P'++[u],hki,.inr ⟨rfl,(Qex hkq).2 (.inr hqu.symm),h3'⟩,by simp⟩,by simp; omega⟩
     ·exact same
    ·exact same
   ·rw [aI (by simpa using (fun e:((q[k]:Nat):Int)=(u:Int)=>hqu (by omega)))]
    exact same
  ·right
   have:k=i:=by omega
   subst this
   unfold Y8
   simp only
   rw [aI (by simp)]
   exact ⟨_,rfl,P',hP,rfl⟩
theorem Q7c (hn:q.Nodup) (hlen:q.length=dcnt p0) {L:List (Int ⊕ Ad)} {i:Nat} {pc:Qw} (hi:i < q.length) :
  ∃P:List Nat,P.Pairwise (· < ·)/\(∀p∈P,p∈q.take i)/\P.length<=3 /\
   Qb fuel (X6 p0 ((i:Int),L) (q.map fun (x:Nat)=>(x:Int)) pc) (0,[])=some (P.map fun (x:Nat)=>(x:Int)):=by
 have hcn:=Qi9 (p0:=p0)
 have hw:=Jn (body:=X6 p0 ((i:Int),L) (q.map fun (x:Nat)=>(x:Int)) pc)
  (fun s=>∃(u:Nat) (P:List Nat),u<=dcnt p0/\P.Pairwise (· < ·)/\(∀p∈P,p < u/\p∈q.take i)/\P.length<=3/\s=((u:Int),P.map fun (x:Nat)=>(x:Int)))
  (fun s=>dcnt p0 - s.1.toNat) (fun r=>∃P:List Nat,P.Pairwise (· < ·)/\(∀p∈P,p∈q.take i)/\P.length<=3/\r=P.map fun (x:Nat)=>(x:Int))
  (fun s hs=>?_) ((0:Int),([]:List Int)) ⟨0,[],by omega,List.Pairwise.nil,fun p hp=>by simp at hp,by simp,rfl⟩ (by simp; omega)
 ·obtain ⟨r,h1,P,h2,h3,h4,rfl⟩:=hw
  exact ⟨P,h2,h3,h4,h1⟩
 ·obtain ⟨u,P,hu,h2,h3,h4,rfl⟩:=hs
  unfold X6
  simp only [Qgp]
  by_cases huc:u < dcnt p0
  ·left
   obtain ⟨P',hP',hb⟩:=Q7i hn (L:=L) (u:=u) (P:=P) (pc:=pc) hi (by omega)
   have ek:zw ((u:Int)+1)=((u+1:Nat):Int):=by rw [w64 (by omega)]; omega
   rw [aH (by simpa using huc),hb]
   simp only [aC]
   rw [ek]
   refine ⟨_,rfl,⟨u+1,P',huc,?_,?_,?_,rfl⟩,by simp; omega⟩
   ·rcases hP' with rfl | ⟨rfl,_,_⟩
    ·exact h2
    ·rw [List.pairwise_append]
     exact ⟨h2,List.pairwise_singleton _ _,fun a ha b hb=>by simp at hb; subst hb; exact (h3 a ha).1⟩
   ·rcases hP' with rfl | ⟨rfl,hm,_⟩
    ·exact fun p hp=>⟨by have:=(h3 p hp).1; omega,(h3 p hp).2⟩
    ·intro p hp
     rcases bV.1 hp with e | e
     ·exact ⟨by have:=(h3 p e).1; omega,(h3 p e).2⟩
     ·simp at e; subst e; exact ⟨by omega,hm⟩
   ·rcases hP' with rfl | ⟨rfl,_,hlt⟩
    ·exact h4
    ·simp; omega
  ·right
   rw [aI (by simpa using huc)]
   exact ⟨_,rfl,P,h2,fun p hp=>(h3 p hp).2,h4,rfl⟩
theorem Qsd {n:Nat} {g:Int} {F:Nat -> Ad} {C:Nat -> Nat} (hF:∀v,v < n->(F v).Card=(C v:Int)) (hn:n<=8):Qcq ⟨g,Qd n F⟩=some (Qe n C):=by
 unfold Qcq
 refine Xg (X5 (s0:=((0:Int),([]:List Int))) (r:=Qe n C) (fun k=>((k:Int),Qe k C)) n rfl (fun k hk=>?_) ?_ (by omega)) rfl
 ·unfold Qcu
  simp only
  rw [aH (by rw [Q1]; simpa using hk),Q5 hk]
  simp only [aC]
  rw [hF k hk,show Qe k C++[(C k:Int)]=Qe (k+1) C from Qdh,aH (by rw [Ql]; omega),w64 (by omega)]
  rfl
 unfold Qcu
 simp only
 rw [aI (by rw [Q1]; simp)]
theorem Qlu {f:Nat -> Nat} {l:List Nat} (hf:∀p∈l,f p<=4) (hl:l.length<=8):K4 (l.map fun p=>(f p:Int))=some (lprod f l:Int):=by
 unfold K4
 refine Xg (X5 (s0:=((1:Int),(0:Int))) (r:=(lprod f l:Int)) (fun k=>((lprod f (l.take k):Int),(k:Int))) l.length (by simp [lprod]) (fun k hk=>?_) ?_ (by omega)) rfl
 ·have h1:lprod f (l.take k)<=4^8:=bY (Qer fun p hp=>hf p (bJ hp)) (aV (by omega) (by rw [cU]; omega))
  have h2:=hf _ (bL hk)
  have h3:lprod f (l.take k)*f l[k]<=65536*4:=Nat.mul_le_mul (by omega) h2
  have e:(lprod f (l.take k):Int)*(f l[k]:Int)=((lprod f (l.take (k+1)):Nat):Int):=by rw [Yn hk,Qbg]; simp
  have e2:lprod f (l.take (k+1))<=65536*4:=by rw [Yn hk,Qbg]; exact h3
  unfold Qd8
  simp only
  rw [aH (by simpa using hk),Zd (by simpa using hk)]
  simp only [aC,List.getElem_map]
  rw [e,w64 (by omega),w64 (by omega)]
  rfl
 unfold Qd8
 simp only
 rw [aI (by simp),List.take_of_length_le (bA _)]
theorem Q8a {n v:Nat} {N:Nat -> Int ⊕ Ad} {x:Ad}:List.set (List.map Ah (Qd n N)) (Int.toNat (v:Int)) x=Qd n fun k=>if k=v then x else Ah (N k):=by
 rw [show List.map Ah (Qd n N)=Qd n (fun k=>Ah (N k)) by simp [Qd],aR,Je]
theorem Qzo {n v:Nat} {g:Int} {N:Nat -> Int ⊕ Ad} {C:Nat -> Nat} {P:List Nat} {R:List (List Int)} (hN:∀k,k < n->(Ah (N k)).Card=(C k:Int)) (hn:n<=8) (hv:v < n) (hP:∀p∈P,p < n) (hl:P.length<=8) :
  Zg ⟨g,List.set (List.map Ah (Qd n N)) (Int.toNat (v:Int)) ⟨(C v:Int),P.map (fun (x:Nat)=>(x:Int)),R⟩⟩ (v:Int)=some (P.map fun p=>(C p:Int)):=by
 unfold Zg
 rw [Q8a,Qsd (C:=C) (fun k hk=>?_) hn]
 ·simp only [aC]
  rw [Q5 hv]
  simp only [aC,eP]
  rw [Q49 hP hl]
  rfl
 ·by_cases e:k=v
  ·subst e; rw [aH rfl]
  ·rw [aI e]; exact hN k hk
theorem Q62 {g c v i:Nat} {N:Nat -> Int ⊕ Ad} {C:Nat -> Nat} {P:List Nat} {pc:Qw} (hg:zw (1+(zw (Int.tmod p0.Grain 60)))=(g:Int)) (hg60:g<=60)
  (hC:∀k,k < dcnt p0->2<=C k/\C k<=3) (hN:∀k,k < dcnt p0->(Ah (N k)).Card=(C k:Int)) (hv:v < dcnt p0) (hP:∀p∈P,p < dcnt p0) (hl:P.length<=3)
  (hW:∀x∈pc.W,0<=x/\x<=255) (hWl:pc.W.length<=9223372036854775807) :
  ∃W:Nat -> Nat -> Nat,(∀r,r < lprod C P->Qj (C v) (fun x=>(W r x:Int))=g) /\
   Qb fuel (Y7 p0 ((i:Int),Qd (dcnt p0) N) (v:Int) (C v:Int) (P.map fun (x:Nat)=>(x:Int)) pc) (0,[])=some (Qd (lprod C P) fun r=>Qd (C v) fun x=>(W r x:Int)):=by
 have hcn:=Qi9 (p0:=p0)
 have hcv:=hC v hv
 have hsz:=Qlu (f:=C) (l:=P) (fun p hp=>by have:=hC p (hP p hp); omega) (by omega)
 have hb:lprod C P<=64:=bY (Qer fun p hp=>by have:=hC p (hP p hp); omega) (aV (by omega) hl:4^P.length<=4^3)
 have hw:=Jn (body:=Y7 p0 ((i:Int),Qd (dcnt p0) N) (v:Int) (C v:Int) (P.map fun (x:Nat)=>(x:Int)) pc)
  (fun s=>∃(r:Nat) (W:Nat -> Nat -> Nat),r<=lprod C P/\(∀r',r' < r->Qj (C v) (fun x=>(W r' x:Int))=g)/\s=((r:Int),Qd r fun r=>Qd (C v) fun x=>(W r x:Int)))
  (fun s=>lprod C P - s.1.toNat) (fun o=>∃W:Nat -> Nat -> Nat,(∀r,r < lprod C P->Qj (C v) (fun x=>(W r x:Int))=g)/\o=Qd (lprod C P) fun r=>Qd (C v) fun x=>(W r x:Int))
  (fun s hs=>?_) ((0:Int),([]:List (List Int))) ⟨0,fun _ _=>0,by omega,fun r hr=>by omega,rfl⟩ (by simp; omega)
 ·obtain ⟨o,h1,W,h2,rfl⟩:=hw
  exact ⟨W,h2,h1⟩
 ·obtain ⟨r,W,hr,hS,rfl⟩:=hs
  unfold Y7
  simp only
  rw [Qzo hN (by omega) hv hP (by omega)]
  simp only [aC]
  rw [hsz]
  simp only [aC]
  by_cases hrs:r < lprod C P
  ·left
   have hm:r*(C v+1)<=64*4:=Nat.mul_le_mul (by omega) (by omega)
   have ef:zw ((r:Int)*zw ((C v:Int)+1))=((r*(C v+1):Nat):Int):=by
    have w1:zw ((C v:Int)+1)=((C v+1:Nat):Int):=by rw [w64 (by omega)]; omega
    have e3:(r:Int)*((C v+1:Nat):Int)=((r*(C v+1):Nat):Int):=by simp
    rw [w1,e3]
    exact w64 (by omega)
   obtain ⟨f,hf,hfs⟩:=Q3y (g:=g) (c:=C v) (l:=pc.W) (fr:=r*(C v+1)) hg60 (by omega) (by omega) hW hWl (by omega)
   have ek:zw ((r:Int)+1)=((r+1:Nat):Int):=by rw [w64 (by omega)]; omega
   rw [aH (by simpa using hrs),hg,ef,hf]
   simp only [aC]
   rw [aH (by simp [Q1]; omega),ek]
   have e:(Qd r fun r=>Qd (C v) fun x=>(W r x:Int))++[Qd (C v) fun x=>(f x:Int)]=Qd (r+1) fun r'=>Qd (C v) fun x=>((updF W r f) r' x:Int):=by
    rw [<-Qdh,Z6]
    congr 1
    exact Qm fun k hk=>by rw [Yw (by omega)]
   refine ⟨_,rfl,⟨r+1,updF W r f,hrs,fun r' hr'=>?_,by rw [e]⟩,by simp; omega⟩
   by_cases e2:r'=r
   ·subst e2; rw [Z6]; exact hfs
   ·rw [Yw e2]; exact hS r' (by omega)
  ·right
   have:r=lprod C P:=by omega
   subst this
   rw [aI (by simp)]
   exact ⟨_,rfl,W,hS,rfl⟩
theorem Q9u {s:Int × List (Int ⊕ Ad)} {x1:List Int}:Qdq p0 s x1=X6 p0 s x1 ⟨0,0,[]⟩:=rfl
theorem Q6j {n:Nat} {F:Nat -> Ad}:alr (Qd n fun v=>(Sum.inr (F v):Int ⊕ Ad))=some (Qd n F):=by
 have:∀l:List Nat,alr (l.map fun v=>(Sum.inr (F v):Int ⊕ Ad))=some (l.map F):=by
  intro l
  induction l with
  | nil=>rfl
  | cons x l ih=>simp only [dI,alr,ih,bM]
 exact this _
def GdF (D:NF) (q:List Nat) (j:Nat) (v:Nat):Prop:=(D.par v).Pairwise (· < ·)/\(∀p∈D.par v,p∈q.take j)/\(D.par v).length<=3/\∀r,r < D.rows v->Qj (D.card v) (fun x=>(D.W v r x:Int))=D.g
theorem Q68 (h:Qzx p0) (hn:q.Nodup) (hl:∀x∈q,x < dcnt p0) (hlen:q.length=dcnt p0) {g:Nat} (hg:zw (1+(zw (Int.tmod p0.Grain 60)))=(g:Int)) (hg60:g<=60)
  {C:Nat -> Nat} (hC:∀k,k < dcnt p0->2<=C k/\C k<=3) :
  ∃(P:Nat -> List Nat) (W:Nat -> Nat -> Nat -> Nat),(∀j (hj:j < q.length),GdF ⟨dcnt p0,g,C,P,W⟩ q j q[j]) /\
   Qb fuel (Y4 p0 (q.map fun (x:Nat)=>(x:Int))) (0,Qd (dcnt p0) fun v=>Sum.inl (C v:Int))=some (Qd (dcnt p0) fun v=>Sum.inr ((NF.mk (dcnt p0) g C P W).node v)):=by
 have hcn:=Qi9 (p0:=p0)
 let N:Nat -> (Nat -> List Nat)->(Nat -> Nat -> Nat -> Nat)->Nat -> Int ⊕ Ad:=fun i P W v=>if v∈q.take i then Sum.inr ((NF.mk (dcnt p0) g C P W).node v) else Sum.inl (C v:Int)
 have hNco:∀i P W k,(Ah (N i P W k)).Card=(C k:Int):=fun i P W k=>by
  show (Ah (if k∈q.take i then Sum.inr ((NF.mk (dcnt p0) g C P W).node k) else Sum.inl (C k:Int))).Card=_
  split <;> rfl
 have hw:=Jn (body:=Y4 p0 (q.map fun (x:Nat)=>(x:Int)))
  (fun s=>∃(i:Nat) (P:Nat -> List Nat) (W:Nat -> Nat -> Nat -> Nat),i<=dcnt p0/\(∀j (hj:j < q.length),j < i->GdF ⟨dcnt p0,g,C,P,W⟩ q j q[j])/\s=((i:Int),Qd (dcnt p0) (N i P W)))
  (fun s=>dcnt p0 - s.1.toNat)
  (fun o=>∃(P:Nat -> List Nat) (W:Nat -> Nat -> Nat -> Nat),(∀j (hj:j < q.length),GdF ⟨dcnt p0,g,C,P,W⟩ q j q[j])/\o=Qd (dcnt p0) fun v=>Sum.inr ((NF.mk (dcnt p0) g C P W).node v))
  (fun s hs=>?_) ((0:Int),Qd (dcnt p0) fun v=>Sum.inl (C v:Int)) ⟨0,fun _=>[],fun _ _ _=>0,by omega,fun j _ hj=>by omega,by congr 1⟩ (by simp; omega)
 ·obtain ⟨o,h1,P,W,h2,rfl⟩:=hw
  exact ⟨P,W,h2,h1⟩
 ·obtain ⟨i,P,W,hi,hG,rfl⟩:=hs
  by_cases hic:i < dcnt p0
  ·left
   have hiq:i < q.length:=by omega
   have hv:=hl _ (bL hiq)
   have hnot:=Qo2 hn hiq
   have ek:zw ((i:Int)+1)=((i+1:Nat):Int):=by rw [w64 (by omega)]; omega
   have hk:lkL (Qd (dcnt p0) (N i P W)) ((q[i]:Nat):Int)=some (C q[i]:Int):=by
    unfold lkL
    rw [Q5 hv]
    show Option.bind (some (if q[i]∈q.take i then _ else _)) _=_
    rw [aI hnot]; rfl
   have leaf:∀pc:Qw,(∀x∈pc.W,0<=x/\x<=255)->pc.W.length<=9223372036854775807 ->
     ∃s',((Qb fuel (X6 p0 ((i:Int),Qd (dcnt p0) (N i P W)) (q.map fun (x:Nat)=>(x:Int)) pc) (0,([]:List Int))).bind fun x72 =>
      (Qb fuel (Y7 p0 ((i:Int),Qd (dcnt p0) (N i P W)) ((q[i]:Nat):Int) (C q[i]:Int) x72 pc) (0,([]:List (List Int)))).bind fun x83 =>
      some (Qg.next (ρ:=List (Int ⊕ Ad)) (zw ((i:Int)+1),(List.set (Qd (dcnt p0) (N i P W)) (Int.toNat ((q[i]:Nat):Int)) (Sum.inr (Ad.mk (C q[i]:Int) x72 x83))))))=some (Qg.next s') /\
      (∃(i:Nat) (P:Nat -> List Nat) (W:Nat -> Nat -> Nat -> Nat),i<=dcnt p0/\(∀j (hj:j < q.length),j < i->GdF ⟨dcnt p0,g,C,P,W⟩ q j q[j])/\s'=((i:Int),Qd (dcnt p0) (N i P W)))/\dcnt p0 - s'.1.toNat < dcnt p0 - (i:Int).toNat := fun pc hpW hpl=>by
    obtain ⟨Pv,p1,p2,p3,hb2⟩:=Q7c (p0:=p0) hn hlen (L:=Qd (dcnt p0) (N i P W)) (pc:=pc) hiq
    have hPv:∀p∈Pv,p < dcnt p0:=fun p hp=>hl p (bJ (p2 p hp))
    obtain ⟨Wv,w1,hb3⟩:=Q62 (p0:=p0) (i:=i) (c:=0) (pc:=pc) hg hg60 hC (fun k _=>hNco i P W k) hv hPv p3 hpW hpl
    rw [hb2]
    simp only [aC]
    rw [hb3]
    simp only [aC]
    rw [ek,aR,Je]
    refine ⟨_,rfl,⟨i+1,updF P q[i] Pv,updF W q[i] Wv,hic,fun j hj hji=>?_,?_⟩,by simp; omega⟩
    ·by_cases e:j=i
     ·subst e
      unfold GdF NF.rows
      simp only [Z6]
      exact ⟨p1,p2,p3,w1⟩
     ·have hne:q[j]≠q[i]:=fun e2=>e (by
       rcases bB j i with h' | h'
       ·exact absurd e2 (List.pairwise_iff_getElem.1 hn j i hj hiq h')
       ·omega)
      have:=hG j hj (by omega)
      unfold GdF NF.rows at this ⊢
      simp only [Yw hne]
      exact this
    ·congr 1
     refine Qm fun k hk=>?_
     by_cases e:k=q[i]
     ·rw [aH e]
      show _=if k∈q.take (i+1) then _ else _
      rw [aH ((Qex hiq).2 (.inr e)),e]
      unfold NF.node NF.rows
      simp only [Z6]
     ·rw [aI e]
      show (if k∈q.take i then _ else _)=if k∈q.take (i+1) then _ else _
      by_cases hm:k∈q.take i
      ·rw [aH hm,aH ((Qex hiq).2 (.inl hm))]
       unfold NF.node NF.rows
       simp only [Yw e]
      ·rw [aI hm,aI (fun h'=>((Qex hiq).1 h').elim hm e)]
   unfold Y4
   simp only [Qgp]
   rw [aH (by simpa using hic)]
   by_cases hin:i < p0.Nodes.length
   ·rw [aH (by simpa using hin),Zd hin]
    simp only [aC]
    rw [Qop hiq]
    simp only [aC]
    rw [hk]
    simp only [aC]
    exact leaf _ (h.W _ (bL hin)) (h.Wl _ (bL hin))
   ·rw [aI (by simpa using hin),Qop hiq]
    simp only [aC]
    rw [hk]
    simp only [aC]
    rw [Q9u]
    exact leaf ⟨0,0,[]⟩ (fun x hx=>by simp at hx) (by simp)
  ·right
   have:i=dcnt p0:=by omega
   subst this
   unfold Y4
   simp only [Qgp]
   rw [aI (by simp)]
   refine ⟨_,rfl,P,W,fun j hj=>hG j hj (by omega),?_⟩
   refine Qm fun k hk=>?_
   show (if k∈q.take (dcnt p0) then _ else _)=_
   rw [aH (by rw [List.take_of_length_le (by omega)]; exact Qko hn hl hlen k hk)]
theorem Qz5 (h:Qzx p0):∃D:NF,VX D/\D.n<=5/\(∀v,v < D.n->2<=D.card v/\D.card v<=3)/\Kx p0=some D.net:=by
 have hcn:=Qi9 (p0:=p0)
 have hgr:=h.grain
 obtain ⟨q,hn,hl,hlen,hq⟩:=Qzj (n:=dcnt p0) hcn.2 h.order
 obtain ⟨C,hC,h0⟩:=Q6z h hn hl hlen
 have hg:zw (1+(zw (Int.tmod p0.Grain 60)))=((1+p0.Grain.toNat % 60:Nat):Int):=by
  have w1:zw (p0.Grain % 60)=p0.Grain % 60:=w64 (by omega)
  rw [Qak hgr.1,w1,w64 (by omega)]; omega
 have hg60:1+p0.Grain.toNat % 60<=60:=by omega
 obtain ⟨P,W,hG,h7⟩:=Q68 h hn hl hlen hg hg60 hC
 refine ⟨⟨dcnt p0,1+p0.Grain.toNat % 60,C,P,W⟩,?_,hcn.2,hC,?_⟩
 ·have hall:∀v,v < dcnt p0->∃j,∃hj:j < q.length,q[j]=v:=fun v hv=>bC.1 (Qko hn hl hlen v hv)
  have hsum:∀v r,v < dcnt p0->r < (NF.mk (dcnt p0) (1+p0.Grain.toNat % 60) C P W).rows v->Qj (C v) (fun x=>(W v r x:Int))=((1+p0.Grain.toNat % 60:Nat):Int):=fun v r hv hr=>by
   obtain ⟨j,hj,rfl⟩:=hall v hv
   exact (hG j hj).2.2.2 r hr
  refine ⟨⟨by show 1<=dcnt p0; omega,by show dcnt p0<=8; omega,by show 1<=1+p0.Grain.toNat % 60; omega,hg60,fun v hv=>by have:=hC v hv; show 1<=C v/\C v<=4; omega,fun v hv p hp=>?_,fun v hv=>?_,fun v r x hv hr hx=>?_,?_⟩,fun v hv=>?_,fun v hv hp=>?_,⟨fun v=>q.idxOf v,fun v hv p hp=>?_⟩,hsum⟩
  ·obtain ⟨j,hj,rfl⟩:=hall v hv
   exact hl p (bJ ((hG j hj).2.1 p hp))
  ·obtain ⟨j,hj,rfl⟩:=hall v hv
   have:=(hG j hj).2.2.1
   omega
  ·have h1:=hsum v r hv hr
   have h2:=Qe5 (n:=C v) (k:=x+1) (f:=fun x=>(W v r x:Int)) (fun _ _=>dC _) hx
   have h3:0<=Qj x (fun x=>(W v r x:Int)):=Vr fun _ _=>dC _
   simp only [Qj] at h2
   show W v r x<=1+p0.Grain.toNat % 60
   omega
  ·have h1:Qi (dcnt p0) C<=3^dcnt p0:=Qbo fun v hv=>(hC v hv).2
   have h2:3^dcnt p0<=3^5:=aV (by omega) hcn.2
   show Qi (dcnt p0) C<=1024
   omega
  ·obtain ⟨j,hj,rfl⟩:=hall v hv
   exact (hG j hj).1
  ·obtain ⟨j,hj,rfl⟩:=hall v hv
   exact Qo2 hn hj ((hG j hj).2.1 _ hp)
  obtain ⟨j,hj,rfl⟩:=hall v hv
  have h1:=Qoi ((hG j hj).2.1 p hp)
  have h2:=Q4k hn hj
  show q.idxOf p < q.idxOf q[j]
  omega
 unfold Kx
 simp only [Qgp]
 rw [aH (by omega),aH (by omega),aR,hq]
 simp only [aC]
 rw [h0]
 simp only [aC]
 rw [h7]
 simp only [aC]
 rw [Q6j,hg]
 rfl
end
end Go.Ab
namespace Go.Ab
open Go
theorem Vd {τ ρ σ:Type} {n:Nat} (hn:n < 1152921504606846976) (good:Nat -> Prop) (mkS:Int->τ->σ) {body:σ->Option (Qg σ ρ)} (T:Nat -> τ) (r rb:ρ)
  (step:∀k,k < n->(∀j,j < k->good j)->good k->body (mkS (k:Int) (T k))=some (.next (mkS (zw ((k:Int)+1)) (T (k+1)))))
  (bad:∀k,k < n->(∀j,j < k->good j)->¬ good k->body (mkS (k:Int) (T k))=some (.done rb))
  (done:(∀j,j < n->good j)->body (mkS (n:Int) (T n))=some (.done r)) :
  ((∀j,j < n->good j)/\Qb fuel body (mkS ((0:Nat):Int) (T 0))=some r)\/((¬ ∀j,j < n->good j)/\Qb fuel body (mkS ((0:Nat):Int) (T 0))=some rb):=by
 have h:=Qen (n:=n) (k0:=0) (by omega) hn mkS (body:=body) (fun k t=>t=T k/\∀j,j < k->good j) (fun x=>((∀j,j < n->good j)/\x=r)\/((¬ ∀j,j < n->good j)/\x=rb))
  (fun k t _ hk hI=>by
   obtain ⟨rfl,hI⟩:=hI
   by_cases hg:good k
   ·left
    exact ⟨_,step k hk hI hg,rfl,fun j hj=>by
     by_cases e:j=k
     ·rw [e]; exact hg
     exact hI j (by omega)⟩
   exact .inr ⟨_,bad k hk hI hg,.inr ⟨fun h=>hg (h k hk),rfl⟩⟩)
  (fun t hI=>by
   obtain ⟨rfl,hI⟩:=hI
   exact ⟨_,done hI,.inl ⟨hI,rfl⟩⟩) (T 0) ⟨rfl,fun j hj=>by omega⟩
 obtain ⟨x,h1,h2⟩:=h
 rcases h2 with ⟨a,rfl⟩ | ⟨a,rfl⟩
 ·exact .inl ⟨a,h1⟩
 ·exact .inr ⟨a,h1⟩
structure NB (n:Nat) (F:Nat -> Ad):Prop where
 par:∀v,v < n->(F v).Parents.length<=1000000
 rows:∀v,v < n->(F v).Rows.length<=1000000
 row:∀v,v < n->∀r∈(F v).Rows,r.length<=1000000
def K1 (x:Ad):Prop:=1<=x.Card/\x.Card<=4
def cardN (F:Nat -> Ad) (v:Nat):Nat := (F v).Card.toNat
theorem Qoy {F:Nat -> Ad} {v:Nat} (h:K1 (F v)):((cardN F v:Nat):Int)=(F v).Card:=by
 unfold cardN; have:=h.1; omega
theorem Qbn {F:Nat -> Ad} {v:Nat} (h:K1 (F v)):1<=cardN F v/\cardN F v<=4:=by
 unfold cardN; have:=h.1; have:=h.2; omega
theorem Qzu {n:Nat} {g:Int} {F:Nat -> Ad} (hn:n<=8) :
  ((∀v,v < n->K1 (F v))/\Qb fuel (X0 ⟨g,Qd n F⟩) ((1:Int),(0:Int),Qd n fun _=>(0:Int))=some (Sum.inr ((Qi n (cardN F):Int),Qe n (cardN F)))) \/
  ((¬ ∀v,v < n->K1 (F v))/\Qb fuel (X0 ⟨g,Qd n F⟩) ((1:Int),(0:Int),Qd n fun _=>(0:Int))=some (Sum.inl ())):=by
 have hlen:(Qd n F).length=n:=Q1
 have h:=Vd (n:=n) (by omega) (fun v=>K1 (F v)) (fun i (t:Int × List Int)=>(t.1,i,t.2)) (body:=X0 ⟨g,Qd n F⟩)
  (fun k=>((Qi k (cardN F):Int),Qd n fun j=>if j < k then (cardN F j:Int) else 0)) (Sum.inr ((Qi n (cardN F):Int),Qe n (cardN F))) (Sum.inl ())
  (fun k hk hI hg=>by
   have b1:Qi k (cardN F)<=4^k:=Qbo fun j hj=>(Qbn (hI j hj)).2
   have b2:(4:Nat)^k<=4^8:=aV (by omega) (by omega)
   have b3:Qi k (cardN F)*cardN F k<=65536*4:=Nat.mul_le_mul (by omega) (Qbn hg).2
   have hc:=Qoy hg
   have e1:(Qi k (cardN F):Int)*(F k).Card=((Qi (k+1) (cardN F):Nat):Int):=by rw [<-hc]; simp [Qi]
   unfold X0
   dsimp only
   rw [hlen,aH (dlt hk),Q5 hk,aC,aI (by simp; exact hg.1),aI (by simp; exact hg.2),Q5 hk,aC,e1,w64 (n:=((Qi (k+1) (cardN F):Nat):Int)) (by simp only [Qi]; omega),aR,Je,<-hc]
   congr 4
   refine Qm fun j hj=>?_
   by_cases e:j=k
   ·subst e; simp
   rw [aI e]
   by_cases e2:j < k
   ·rw [aH e2,aH (by omega)]
   rw [aI e2,aI (by omega)])
  (fun k hk hI hg=>by
   unfold X0
   dsimp only
   rw [hlen,aH (dlt hk),Q5 hk,aC]
   by_cases c:(F k).Card < 1
   ·rw [aH (by simpa using c)]
   rw [aI (by simpa using c),aH (by unfold K1 at hg; simp; omega)])
  (fun hI=>by
   unfold X0
   dsimp only
   rw [hlen,aI (nlt n)]
   congr 4
   exact Qm fun j hj=>aH hj)
 have e0:(Qd n fun j=>if j < 0 then (cardN F j:Int) else 0)=Qd n fun _=>(0:Int):=Qm fun j _=>aI (by omega)
 simp only [e0] at h
 exact h
def Qag (n:Nat) (l:List Int):Prop:=∃q:List Nat,l=nI q/\q.Pairwise (· < ·)/\∀p∈q,p < n
def Qif (l:List Int) (k:Nat):Int:=if k=0 then -1 else (l[k - 1]?).getD 0
def Qhf (n:Nat) (l:List Int) (k:Nat):Prop:=Qif l k < (l[k]?).getD 0/\(l[k]?).getD 0 < n
theorem Qpk {l:List Int} {k:Nat}:Qif l (k+1)=(l[k]?).getD 0:=by simp [Qif]
theorem Qfz {n:Nat} {l:List Int} {m:Nat} (h:∀j,j < m->Qhf n l j):∀k,k < m->0<=(l[k]?).getD 0/\∀j,j < k->(l[j]?).getD 0 < (l[k]?).getD 0
 | 0,hk=>⟨by have:=(h 0 hk).1; simp [Qif] at this ⊢; omega,fun j hj=>by omega⟩
 | k+1,hk=>by
  obtain ⟨h1,h2⟩:=Qfz h k (by omega)
  have h3:=(h (k+1) hk).1
  rw [Qpk] at h3
  refine ⟨by omega,fun j hj=>?_⟩
  by_cases e:j=k
  ·rw [e]; exact h3
  have:=h2 j (by omega); omega
theorem Qs4 {n:Nat} {l:List Int} (h:∀j,j < l.length->Qhf n l j):Qag n l:=by
 have hm:=Qfz h
 have e:l=nI (l.map Int.toNat):=by
  unfold nI
  rw [List.map_map]
  conv=>lhs; rw [<-List.map_id l]
  refine List.map_congr_left fun x hx=>?_
  obtain ⟨k,hk,rfl⟩:=bC.1 hx
  have:=(hm k hk).1
  rw [aG hk] at this
  simp at this ⊢; omega
 refine ⟨l.map Int.toNat,e,?_,fun p hp=>?_⟩
 ·rw [List.pairwise_map,List.pairwise_iff_getElem]
  intro i j hi hj hij
  have h1:=(hm j hj).2 i hij
  have h2:=(hm i hi).1
  rw [aG hj,aG hi] at h1
  rw [aG hi] at h2
  simp at h1 h2; omega
 obtain ⟨x,hx,rfl⟩:=cG.1 hp
 obtain ⟨k,hk,rfl⟩:=bC.1 hx
 have h1:=(h k hk).2
 have h2:=(hm k hk).1
 rw [aG hk] at h1 h2
 simp at h1 h2; omega
theorem Qm4 {n:Nat} {l:List Int} (h:Qag n l):∀j,j < l.length->Qhf n l j:=by
 obtain ⟨q,rfl,h1,h2⟩:=h
 intro j hj
 rw [Qap] at hj
 have e:∀k (hk:k < q.length),((nI q)[k]?).getD 0=(q[k]:Int):=fun k hk=>by simp [nI,hk]
 refine ⟨?_,?_⟩
 ·unfold Qif
  rw [e j hj]
  by_cases c:j=0
  ·rw [aH c]; omega
  rw [aI c,e (j - 1) (by omega)]
  have:=List.pairwise_iff_getElem.1 h1 (j - 1) j (by omega) hj (by omega)
  omega
 rw [e j hj]
 have:=h2 _ (bL hj); omega
def Yk (F:Nat -> Ad) (v:Nat):List Nat := (F v).Parents.map Int.toNat
theorem Qa2 {n:Nat} {F:Nat -> Ad} {v:Nat} (h:Qag n (F v).Parents):(F v).Parents=nI (Yk F v)/\(Yk F v).Pairwise (· < ·)/\∀p∈Yk F v,p < n:=by
 obtain ⟨q,e,h1,h2⟩:=h
 have:Yk F v=q:=by
  unfold Yk; rw [e]; unfold nI; rw [List.map_map]
  conv=>rhs; rw [<-List.map_id q]
  exact List.map_congr_left fun x _=>by simp
 rw [this]; exact ⟨e,h1,h2⟩
theorem Qej {n:Nat} {q:List Nat} (h1:q.Pairwise (· < ·)) (h2:∀p∈q,p < n):q.length<=n:=by
 have:=Qdi q (List.range n) (h1.imp fun h=>by omega) fun p hp=>cS.2 (h2 p hp)
 simpa using this
theorem Qu4 {n v:Nat} {g:Int} {F:Nat -> Ad} {x:Ad} {S:Nat -> Int} {R:List Int} (hn:n<=8) (hv:v < n) (hb:x.Parents.length<=1000000) (h0:S v=0) (w:Int × List Int) (hw1:w.1=(v:Int)) :
  ((Qag n x.Parents/\(v:Int) ∉ x.Parents)/\Qb fuel (X1 x ⟨g,Qd n F⟩ w) ((-1:Int),(0:Int),Qd n S)=some (Sum.inr (Qd n fun j=>if j=v then (bitsOf (x.Parents.map Int.toNat) 0:Int) else S j))) \/
  (¬ (Qag n x.Parents/\(v:Int) ∉ x.Parents)/\Qb fuel (X1 x ⟨g,Qd n F⟩ w) ((-1:Int),(0:Int),Qd n S)=some (Sum.inl ())):=by
 have hlen:(Qd n F).length=n:=Q1
 have h:=Vd (n:=x.Parents.length) (by omega) (fun k=>Qhf n x.Parents k/\(x.Parents[k]?).getD 0≠(v:Int)) (fun i (t:Int × List Int)=>(t.1,i,t.2)) (body:=X1 x ⟨g,Qd n F⟩ w)
  (fun k=>(Qif x.Parents k,Qd n fun j=>if j=v then (bitsOf ((x.Parents.take k).map Int.toNat) 0:Int) else S j)) (Sum.inr (Qd n fun j=>if j=v then (bitsOf (x.Parents.map Int.toNat) 0:Int) else S j)) (Sum.inl ())
  (fun k hk hI hg=>by
   have hm:=Qfz (m:=k+1) (n:=n) (l:=x.Parents) fun j hj=>by
    by_cases e:j=k
    ·rw [e]; exact hg.1
    exact (hI j (by omega)).1
   have ek:lkI x.Parents (k:Int)=some ((x.Parents[k]?).getD 0):=by rw [Zd hk,aG hk]; rfl
   have htake:(x.Parents.take (k+1)).map Int.toNat = (x.Parents.take k).map Int.toNat ++ [((x.Parents[k]?).getD 0).toNat]:=by
    rw [Yn hk,cZ,aG hk]; rfl
   have hbl:bitsOf ((x.Parents.take k).map Int.toNat) 0 < 18446744073709551616:=K7 _ _ (by omega) fun p hp=>by
    obtain ⟨y,hy,rfl⟩:=cG.1 hp
    obtain ⟨j,hj,rfl⟩:=bC.1 hy
    have hj':j < k:=by rw [cU] at hj; omega
    have h1:=(hI j hj').1.2
    have h2:=(hm j (by omega)).1
    rw [aG (by omega)] at h1 h2
    rw [List.getElem_take]
    simp at h1 h2; omega
   obtain ⟨⟨g1,g2⟩,g3⟩:=hg
   have g4:=(hm k (by omega)).1
   generalize hp:(x.Parents[k]?).getD 0=p at *
   obtain ⟨p,rfl⟩:∃m:Nat,p=(m:Int):=⟨p.toNat,by omega⟩
   unfold X1
   dsimp only
   rw [aH (dlt hk),ek,aC,aI (by simp; omega),hlen,aI (by simp; omega),hw1,aI (by simp; omega),Q5 hv,aC,aH (Z4 p),aH rfl,Qnl hbl (by omega),aR,Je,htake,Qpk,hp,Qat,aR]
   congr 4
   refine Qm fun j _=>?_
   by_cases e:j=v
   ·subst e; simp
   rw [aI e,aI e,aI e])
  (fun k hk hI hg=>by
   have ek:lkI x.Parents (k:Int)=some ((x.Parents[k]?).getD 0):=by rw [Zd hk,aG hk]; rfl
   unfold X1
   dsimp only
   rw [aH (dlt hk),ek,aC]
   by_cases c1:(x.Parents[k]?).getD 0<=Qif x.Parents k
   ·rw [aH (by simpa using c1)]
   rw [aI (by simpa using c1),hlen]
   by_cases c2:(x.Parents[k]?).getD 0>=(n:Int)
   ·rw [aH (by simpa using c2)]
   rw [aI (by simpa using c2),hw1,aH (by
    have:(x.Parents[k]?).getD 0=(v:Int):=by
     apply Classical.byContradiction
     intro h
     exact hg ⟨⟨by omega,by omega⟩,h⟩
    simpa using this)])
  (fun hI=>by
   unfold X1
   dsimp only
   rw [aI (nlt _),List.take_of_length_le (bA _)])
 have hiff:(∀j,j < x.Parents.length->Qhf n x.Parents j/\(x.Parents[j]?).getD 0≠(v:Int))↔Qag n x.Parents/\(v:Int) ∉ x.Parents:=by
  constructor
  ·intro h
   refine ⟨Qs4 fun j hj=>(h j hj).1,fun hm=>?_⟩
   obtain ⟨k,hk,e⟩:=bC.1 hm
   have:=(h k hk).2
   rw [aG hk] at this
   exact this e
  rintro ⟨h1,h2⟩ j hj
  refine ⟨Qm4 h1 j hj,fun e=>h2 ?_⟩
  rw [aG hj] at e
  rw [<-show x.Parents[j]=(v:Int) from e]
  exact bL hj
 rw [hiff] at h
 have e0:(Qd n fun j=>if j=v then (bitsOf ((x.Parents.take 0).map Int.toNat) 0:Int) else S j)=Qd n S:=Qm fun j _=>by
  by_cases e:j=v
  ·rw [aH e,e,h0]; rfl
  rw [aI e]
 simp only [e0] at h
 exact h
end Go.Ab
namespace Go.Ab
open Go
def Qh8 (g c:Int) (r:List Int):Prop:=(r.length:Int)=c/\(∀w∈r,0<=w)/\r.sum=g
def Qhj (g:Int) (C:Nat -> Nat) (x:Ad) (q:List Nat):Prop:=x.Rows.length=lprod C q/\∀r∈x.Rows,Qh8 g x.Card r
theorem Qed {l:List Int} {k:Nat} (h:k < l.length):(l.take (k+1)).sum=(l.take k).sum+l[k]:=by
 rw [Yn h,List.sum_append]; simp
theorem Qk9:∀{l:List Int},(∀w∈l,0<=w)->0<=l.sum
 | [],_=>by simp
 | w::l,h=>by
  have h1:=h w (by simp)
  have h2:=Qk9 (l:=l) fun x hx=>h x (cN _ hx)
  rw [List.sum_cons]; omega
theorem Qou {l:List Int} {k:Nat} (h:∀w∈l,0<=w):(l.take k).sum<=l.sum/\0<=(l.take k).sum:=by
 have h1:l.sum=(l.take k).sum+(l.drop k).sum:=by rw [<-List.sum_append,List.take_append_drop]
 have h2:=Qk9 (l:=l.drop k) fun w hw=>h w (bN hw)
 have h3:=Qk9 (l:=l.take k) fun w hw=>h w (bJ hw)
 omega
theorem Qu8 {g:Int} {r:List Int} (hg:0<=g) (hg60:g<=60) (hr:r.length<=1000000) :
  (((∀w∈r,0<=w)/\r.sum<=g)/\Qb fuel (Q7 r) (g,0)=some (.inr (g - r.sum)))\/(¬ ((∀w∈r,0<=w)/\r.sum<=g)/\Qb fuel (Q7 r) (g,0)=some (.inl ())):=by
 have pre:∀k,k<=r.length->(∀j,j < k->0<=(r[j]?).getD 0/\(r[j]?).getD 0<=g - (r.take j).sum)->0<=(r.take k).sum/\(r.take k).sum<=g:=by
  intro k
  induction k with
  | zero=>intro _ _; simp; omega
  | succ k ih =>
   intro hk h
   have h1:=ih (by omega) fun j hj=>h j (by omega)
   have h2:=h k (by omega)
   rw [aG (by omega)] at h2
   rw [Qed (by omega)]
   simp at h2; omega
 have h:=Vd (n:=r.length) (by omega) (fun k=>0<=(r[k]?).getD 0/\(r[k]?).getD 0<=g - (r.take k).sum) (fun i (t:Int)=>(t,i)) (body:=Q7 r)
  (fun k=>g - (r.take k).sum) (.inr (g - r.sum)) (.inl ())
  (fun k hk hI hgd=>by
   have hp:=pre k (by omega) hI
   have ek:lkI r (k:Int)=some r[k]:=Zd hk
   rw [aG hk] at hgd
   simp only [cT] at hgd
   unfold Q7
   dsimp only
   rw [aH (dlt hk),ek,aC,aI (by simp; omega),aI (by simp; omega),w64 (n:=g - (r.take k).sum - r[k]) (by omega),Qed hk]
   congr 3
   omega)
  (fun k hk hI hgd=>by
   have ek:lkI r (k:Int)=some r[k]:=Zd hk
   rw [aG hk] at hgd
   simp only [cT] at hgd
   unfold Q7
   dsimp only
   rw [aH (dlt hk),ek,aC]
   by_cases c:r[k] < 0
   ·rw [aH (by simpa using c)]
   rw [aI (by simpa using c),aH (by simp; omega)])
  (fun hI=>by
   unfold Q7
   dsimp only
   rw [aI (nlt _),cO])
 have hiff:(∀j,j < r.length->0<=(r[j]?).getD 0/\(r[j]?).getD 0<=g - (r.take j).sum)↔((∀w∈r,0<=w)/\r.sum<=g):=by
  constructor
  ·intro h
   have:=pre r.length (bA _) h
   rw [cO] at this
   refine ⟨fun w hw=>?_,this.2⟩
   obtain ⟨k,hk,rfl⟩:=bC.1 hw
   have:=(h k hk).1
   rw [aG hk] at this
   exact this
  rintro ⟨h1,h2⟩ j hj
  rw [aG hj]
  refine ⟨h1 _ (bL hj),?_⟩
  have h3:=(Qou (k:=j+1) h1).1
  rw [Qed hj] at h3
  simp; omega
 rw [hiff] at h
 simp only [List.take_zero,List.sum_nil,Int.sub_zero] at h
 exact h
theorem Qn9 {n:Nat} {g:Int} {F:Nat -> Ad} {C:Nat -> Nat} {x:Ad} {q:List Nat} {sets order:List Int} (hg:0<=g) (hg60:g<=60) (hC:∀v,v < n->C v<=4) (hq:∀p∈q,p < n) (hl:q.length<=8) (hx:x.Parents=nI q) (hr:x.Rows.length<=1000000) (hrr:∀r∈x.Rows,r.length<=1000000) :
  (Qhj g C x q/\Z9 ⟨⟨g,Qd n F⟩,Qe n C,sets,order⟩ x=some true)\/(¬ Qhj g C x q/\Z9 ⟨⟨g,Qd n F⟩,Qe n C,sets,order⟩ x=some false):=by
 have bnd:∀k,lprod C (q.take k)<=65536:=fun k=>bY (Qer fun p hp=>hC p (hq p (bJ hp))) (bY (aV (by omega) (by rw [cU]; omega)) (Nat.le_of_eq (show 4^8=65536 from rfl)))
 have h0:=Zc (n:=q.length) (k0:=0) (by omega) (by omega) (fun i (t:Int)=>(t,i)) (body:=Z8 x ⟨⟨g,Qd n F⟩,Qe n C,sets,order⟩) (fun k=>(lprod C (q.take k):Int)) (lprod C q:Int)
  (fun k _ hk=>by
   have hp:=hq _ (bL hk)
   have e1:(lprod C (q.take k):Int)*(C q[k]:Int)=((lprod C (q.take (k+1)):Nat):Int):=by rw [Yn hk,Qbg]; simp
   have:=bnd (k+1)
   unfold Z8
   dsimp only
   rw [hx,Qap,aH (dlt hk),Q44 hk,aC,Qy hp,aC,e1,w64 (n:=((lprod C (q.take (k+1)):Nat):Int)) (by omega)])
  (by
   unfold Z8
   dsimp only
   rw [hx,Qap,aI (nlt _),cO])
 simp only [List.take_zero,show lprod C []=1 from rfl] at h0
 rw [show (((1:Nat):Int),((0:Nat):Int))=((1:Int),(0:Int)) from rfl] at h0
 unfold Z9
 rw [h0,aC]
 by_cases c:x.Rows.length=lprod C q
 ·rw [aI (by simp; omega)]
  have h:=Vd (n:=x.Rows.length) (by omega) (fun k=>∀r,x.Rows[k]?=some r->Qh8 g x.Card r) (fun i (t:Unit)=>i) (body:=Zn x ⟨⟨g,Qd n F⟩,Qe n C,sets,order⟩)
   (fun _=>()) (.inr ()) (.inl ())
   (fun k hk hI hgd=>by
    have ek:lkI x.Rows (k:Int)=some x.Rows[k]:=Zd hk
    obtain ⟨k1,k2,k3⟩:=hgd _ (aG hk)
    unfold Zn
    dsimp only
    rw [aH (dlt hk),ek,aC]
    rcases Qu8 (g:=g) (r:=x.Rows[k]) hg hg60 (hrr _ (bL hk)) with ⟨_,e⟩ | ⟨no,_⟩
    ·rw [e,aC]
     dsimp only
     rw [aI (by simp; omega),aI (by simp; omega)]
    exact absurd ⟨k2,by omega⟩ no)
   (fun k hk hI hgd=>by
    have ek:lkI x.Rows (k:Int)=some x.Rows[k]:=Zd hk
    unfold Zn
    dsimp only
    rw [aH (dlt hk),ek,aC]
    rcases Qu8 (g:=g) (r:=x.Rows[k]) hg hg60 (hrr _ (bL hk)) with ⟨hok,e⟩ | ⟨no,e⟩
    ·rw [e,aC]
     dsimp only
     by_cases c2:(x.Rows[k].length:Int)=x.Card
     ·rw [aI (by simp; omega),aH (by
       have:g - x.Rows[k].sum≠0:=fun h0=>hgd fun r hr=>by
        rw [aG hk] at hr; cases hr
        exact ⟨c2,hok.1,by omega⟩
       simpa using this)]
     rw [aH (by simpa using c2)]
    rw [e,aC])
   (fun hI=>by
    unfold Zn
    dsimp only
    rw [aI (nlt _)])
  have hiff:(∀j,j < x.Rows.length->∀r,x.Rows[j]?=some r->Qh8 g x.Card r)↔Qhj g C x q:=by
   constructor
   ·intro h
    refine ⟨c,fun r hr=>?_⟩
    obtain ⟨k,hk,rfl⟩:=bC.1 hr
    exact h k hk _ (aG hk)
   rintro ⟨_,h⟩ j hj r hr
   exact h r (aF hr)
  rw [hiff] at h
  rcases h with ⟨h1,h2⟩ | ⟨h1,h2⟩
  ·exact .inl ⟨h1,by rw [show ((0:Nat):Int)=0 from rfl] at h2; rw [h2]; rfl⟩
  ·exact .inr ⟨h1,by rw [show ((0:Nat):Int)=0 from rfl] at h2; rw [h2]; rfl⟩
 ·rw [aH (by simp; omega)]
  exact .inr ⟨fun h=>c h.1,rfl⟩
def setF (F:Nat -> Ad) (v:Nat):Nat := bitsOf (Yk F v) 0
def Qpf (n:Nat) (g:Int) (F:Nat -> Ad) (v:Nat):Prop:=(Qag n (F v).Parents/\(v:Int) ∉ (F v).Parents)/\Qhj g (cardN F) (F v) (Yk F v)
theorem Q1x {n:Nat} {g w:Int} {F:Nat -> Ad} (hn:n<=8) (hg:0<=g) (hg60:g<=60) (hb:NB n F) (hC:∀v,v < n->K1 (F v)) :
  ((∀v,v < n->Qpf n g F v)/\Qb fuel (X2 ⟨g,Qd n F⟩ (w,Qe n (cardN F))) ((0:Int),Qd n fun _=>(0:Int))=some (Sum.inr (Qe n (setF F)))) \/
  ((¬ ∀v,v < n->Qpf n g F v)/\Qb fuel (X2 ⟨g,Qd n F⟩ (w,Qe n (cardN F))) ((0:Int),Qd n fun _=>(0:Int))=some (Sum.inl ())):=by
 have hlen:(Qd n F).length=n:=Q1
 have h:=Vd (n:=n) (by omega) (Qpf n g F) (fun i (t:List Int)=>(i,t)) (body:=X2 ⟨g,Qd n F⟩ (w,Qe n (cardN F)))
  (fun k=>Qd n fun j=>if j < k then (setF F j:Int) else 0) (.inr (Qe n (setF F))) (.inl ())
  (fun v hv hI hgd=>by
   unfold X2
   dsimp only
   rw [hlen,aH (dlt hv),Q5 hv,aC]
   rcases Qu4 (n:=n) (v:=v) (g:=g) (F:=F) (x:=F v) (S:=fun j=>if j < v then (setF F j:Int) else 0) (R:=[]) hn hv (hb.par v hv) (aI (by omega)) ((v:Int),Qd n fun j=>if j < v then (setF F j:Int) else 0) rfl with ⟨_,e⟩ | ⟨no,_⟩
   ·rw [e,aC]
    dsimp only
    obtain ⟨p1,p2,p3⟩:=Qa2 hgd.1.1
    rcases Qn9 (n:=n) (g:=g) (F:=F) (C:=cardN F) (x:=F v) (q:=Yk F v) (sets:=Qd n fun j=>if j=v then (bitsOf ((F v).Parents.map Int.toNat) 0:Int) else if j < v then (setF F j:Int) else 0) (order:=[]) hg hg60 (fun u hu=>(Qbn (hC u hu)).2) p3 (by have:=Qej p2 p3; omega) p1 (hb.rows v hv) (hb.row v hv) with ⟨_,e2⟩ | ⟨no,_⟩
    ·rw [e2,aC,aI (by decide)]
     congr 3
     refine Qm fun j _=>?_
     by_cases c:j=v
     ·subst c; rw [aH rfl,aH (by omega)]; rfl
     rw [aI c]
     by_cases c2:j < v
     ·rw [aH c2,aH (by omega)]
     rw [aI c2,aI (by omega)]
    exact absurd hgd.2 no
   exact absurd hgd.1 no)
  (fun v hv hI hgd=>by
   unfold X2
   dsimp only
   rw [hlen,aH (dlt hv),Q5 hv,aC]
   rcases Qu4 (n:=n) (v:=v) (g:=g) (F:=F) (x:=F v) (S:=fun j=>if j < v then (setF F j:Int) else 0) (R:=[]) hn hv (hb.par v hv) (aI (by omega)) ((v:Int),Qd n fun j=>if j < v then (setF F j:Int) else 0) rfl with ⟨hp,e⟩ | ⟨no,e⟩
   ·rw [e,aC]
    dsimp only
    obtain ⟨p1,p2,p3⟩:=Qa2 hp.1
    rcases Qn9 (n:=n) (g:=g) (F:=F) (C:=cardN F) (x:=F v) (q:=Yk F v) (sets:=Qd n fun j=>if j=v then (bitsOf ((F v).Parents.map Int.toNat) 0:Int) else if j < v then (setF F j:Int) else 0) (order:=[]) hg hg60 (fun u hu=>(Qbn (hC u hu)).2) p3 (by have:=Qej p2 p3; omega) p1 (hb.rows v hv) (hb.row v hv) with ⟨hf,_⟩ | ⟨no,e2⟩
    ·exact absurd ⟨hp,hf⟩ hgd
    rw [e2,aC,aH (by decide)]
   rw [e,aC])
  (fun hI=>by
   unfold X2
   dsimp only
   rw [hlen,aI (nlt n)]
   congr 3
   exact Qm fun j hj=>aH hj)
 have e0:(Qd n fun j=>if j < 0 then (setF F j:Int) else 0)=Qd n fun _=>(0:Int):=Qm fun j _=>aI (by omega)
 simp only [e0] at h
 exact h
end Go.Ab
