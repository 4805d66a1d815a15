/- What functions compute. No conditions. -/
import Derived.Test.YtokcpkcoahlkjaaProg
import Derived.Test.YtokcpkcoahlkjaaW8
import Derived.KernelRfl
import Derived.Test.YtokcpkcoahlkjaaW9
set_option linter.all false
namespace Go.Ab
open Go Go.Proofs
set_option maxRecDepth 100000
set_option maxHeartbeats 4000000
noncomputable abbrev s23_6 (p0:Tapi_Net) (p3:Tapi_Shift) (x5:(List (Int × Int × Int × Int))):List AObj:=[oX true false 2 (.agg [vI p0.Grain,eL false eTapi_Node p0.Nodes]),oX true true 4 (.agg [vI p3.Node,vI p3.Row,vI p3.From,vI p3.To]),oX true true 2 (.agg [vI 0,vI 0]),oX true true 2 (.agg [vI 0,vI 0]),oR true 4 (fun x=>AV.agg [vI x.1,vI x.2.1,vI x.2.2.1,vI x.2.2.2]) x5]
noncomputable abbrev s23_14 (x5:(List (Int × Int × Int × Int))) (s11:(Int × Int)):List (Nat × AV):=[(4,.ptr 0 0 0),(7,.ptr 1 0 0),(8,.ptr 2 0 0),(9,.ptr 3 0 0),(12,.ref 4 0 x5.length),(13,vI s11.1),(42,.ref 4 0 x5.length),(43,vI (zn x5)),(44,vI s11.2)]
noncomputable abbrev s23_23 (x22:(Int × Int)) (x5:(List (Int × Int × Int × Int))):List AObj:=[oX true true 2 (.agg [vI x22.1,vI 1]),oX true true 2 (.agg [vI x22.2,vI 1]),oR true 4 (fun x=>AV.agg [vI x.1,vI x.2.1,vI x.2.2.1,vI x.2.2.2]) x5]
noncomputable abbrev s23_41 (x5:(List (Int × Int × Int × Int))) (s24:(Int × Int × Int × Int × Int)):List (Nat × AV):=[(0,.yld 5),(1,.ptr 2 0 0),(2,.ptr 3 0 0),(10,.ref 4 0 x5.length),(11,vI (zn x5)),(12,vI s24.1)]
theorem g_sensitive_Stay_ok (p0:Tapi_Net) (p1:(List Int)) (p2:Int) (p3:Tapi_Shift) (x:(Tapi_Q × Tapi_Q × Int)) (h:g_sensitive_Stay p0 p1 p2 p3=some x):CallOk Try.prog 23 [.agg [vI p0.Grain,eL false eTapi_Node p0.Nodes],z1 p1,vI p2,.agg [vI p3.Node,vI p3.Row,vI p3.From,vI p3.To]] (.ret (.tup [.agg [vI x.1.N,vI x.1.D],.agg [vI x.2.1.N,vI x.2.1.D],vI x.2.2]) []):=by
 refine fn_ok [] Try.func23 rfl (by decide +kernel) rfl ?_
 unfold g_sensitive_Stay at h
 refine wp_eqB (base':=0) (st':=⟨[(0,.agg [vI p0.Grain,eL false eTapi_Node p0.Nodes]),(1,z1 p1),(2,vI p2),(3,.agg [vI p3.Node,vI p3.Row,vI p3.From,vI p3.To])],[],91⟩) kr kr ?_
 refine wp_seq (reg_in ?_)
 refine sgL false [] [] false gE ?_
 refine sz 4 5 (reg_end rfl (wp_seq (wp_seq (reg_in (sz 4 4 ?_)))))
 refine callR (as0:=[.agg [vI p0.Grain,eL false eTapi_Node p0.Nodes],z1 p1,vI p2,.agg [vI p3.Node,vI p3.Row,vI p3.From,vI p3.To],.nils]) (us:=[.agg [vI p0.Grain,eL false eTapi_Node p0.Nodes],z1 p1,vI p2,.agg [vI p3.Node,vI p3.Row,vI p3.From,vI p3.To],.nils]) (ids:=[]) kr bodyB_35 (msnap_cons (snap_agg (msnap_cons rfl (msnap_cons rfl msnap_nil))) (msnap_cons rfl (msnap_cons rfl (msnap_cons (snap_agg (msnap_cons rfl (msnap_cons rfl (msnap_cons rfl (msnap_cons rfl msnap_nil))))) (msnap_cons rfl msnap_nil))))) (fun x1 q2=>CallOk.args [[.keep,.keep],[.keep],[.keep],[.keep,.keep,.keep,.keep],[.lst true]] (g_sensitive_check_ok p0 p1 p2 p3 [] x1 q2)) gF h (fun x1 q2 h=>?_)
 refine sz 1 6 (reg_end rfl (wp_seq ?_))
 refine wgc [1,2,4,7,8,9,11] [0,1,2,3] ⟨[(1,z1 p1),(2,vI p2),(4,.ptr 0 0 0),(7,.ptr 1 0 0),(8,.ptr 2 0 0),(9,.ptr 3 0 0),(11,vI x1)],[oX true false 2 (.agg [vI p0.Grain,eL false eTapi_Node p0.Nodes]),oX true true 4 (.agg [vI p3.Node,vI p3.Row,vI p3.From,vI p3.To]),oX true true 2 (.agg [vI 0,vI 0]),oX true true 2 (.agg [vI 0,vI 0])],91⟩ ?_
 refine rn ?_
 refine wb [26] h (fun q4 h=>?_) (fun q4 h=>?_)
 ·refine wcT (wp_seq (wg [8,9,11] [2,3] (rn (wg [8,9,10] [0,1] ?_))))
  cases h
  exact wp_ret (show fnOut _ _ _ _=_ from by kernel_rfl)
 refine wcF (wp_skip (wp_seq (reg_in (sz 4 4 ?_))))
 refine callW bodyB_36 (g_sensitive_lines_ok p0 p1 p2 p3) h (fun x5 _ h=>?_)
 refine sz 1 6 (reg_end rfl (wp_seq (wp_seq (wg [4,7,8,9,12] [0,1,2,3,4] (reg_in (sz 1 1 ?_))))))
 refine bind_elim h (fun a7 q8 h=>?_)
 refine idxR' (enc:=(fun x=>AV.agg [vI x.1,vI x.2.1,vI x.2.2.1,vI x.2.2.2])) (l:=x5) (n:=0) (w:=4) (ob:=4) (ro:=false) (nr:=true) (fl:=true) (a:=a7) kr kr gE q8 ?_
 refine sz 1 3 ?_
 refine loadR (enc:=(fun x=>AV.agg [vI x.1,vI x.2.1,vI x.2.2.1,vI x.2.2.2])) (l:=x5) (n:=0) (w:=4) (ob:=4) (c:=2) (bx:=false) (ro:=false) (nr:=true) (fl:=true) (a:=a7) kr kr q8 gE ?_
 refine sz 1 5 (reg_end rfl ?_)
 refine wbz h (fun q10 h=>?_) (fun q10 h=>?_)
 ·refine wp_seq ?_
  refine wgc [8,9] [2,3] ⟨[(8,.ptr 0 0 0),(9,.ptr 1 0 0)],[oX true true 2 (.agg [vI 0,vI 0]),oX true true 2 (.agg [vI 0,vI 0])],91⟩ ?_
  refine rn (wg [8,9,10] [0,1] ?_)
  cases h
  exact wp_ret (show fnOut _ _ _ _=_ from by kernel_rfl)
 refine wp_skip (wp_seq ?_)
 refine wgc [4,7,8,9,12] [0,1,2,3,4] ⟨[(4,.ptr 0 0 0),(7,.ptr 1 0 0),(8,.ptr 2 0 0),(9,.ptr 3 0 0),(12,.ref 4 0 x5.length)],(s23_6 p0 p3 x5),91⟩ ?_
 refine rn (wp_seq (sq (wp_block ?_)))
 refine wwh h (fun s11=>⟨(s23_14 x5 s11),(s23_6 p0 p3 x5),91⟩) (fun v out=>out=.go (.exit 0) ⟨[(4,.ptr 0 0 0),(7,.ptr 1 0 0),(8,.ptr 2 0 0),(9,.ptr 3 0 0),(12,.ref 4 0 x5.length),(13,vI v)],(s23_6 p0 p3 x5),91⟩) (wk_gc (live:=[4,7,8,9,12,13,42,43,44]) (keep:=[0,1,2,3,4]) kr) ?_ ?_
 ·intro s11 o h
  unfold g_sensitive_Stay_b0 at h
  refine sq (wp_seq ?_)
  refine wb [45] h (fun q13 h=>?_) (fun q13 h=>?_)
  ·refine wcT (wp_skip (wp_seq (wp_block (wp_seq (reg_in (sz 1 1 ?_))))))
   refine bind_elim h (fun a14 q15 h=>?_)
   refine idxR' (enc:=(fun x=>AV.agg [vI x.1,vI x.2.1,vI x.2.2.1,vI x.2.2.2])) (l:=x5) (n:=s11.2) (w:=4) (ob:=4) (ro:=false) (nr:=true) (fl:=true) (a:=a14) kr kr gE q15 ?_
   refine loadR (enc:=(fun x=>AV.agg [vI x.1,vI x.2.1,vI x.2.2.1,vI x.2.2.2])) (l:=x5) (n:=s11.2) (w:=4) (ob:=4) (c:=0) (bx:=false) (ro:=false) (nr:=true) (fl:=true) (a:=a14) kr kr q15 gE ?_
   refine sz 3 6 (reg_end rfl (wp_seq (rga hfol (sy 4 4 ?_))))
   refine bind_elim h (fun a16 q17 h=>?_)
   refine idxR' (enc:=(fun x=>AV.agg [vI x.1,vI x.2.1,vI x.2.2.1,vI x.2.2.2])) (l:=x5) (n:=s11.1) (w:=4) (ob:=4) (ro:=false) (nr:=true) (fl:=true) (a:=a16) kr kr gE q17 ?_
   refine sy 1 6 ?_
   refine loadR (enc:=(fun x=>AV.agg [vI x.1,vI x.2.1,vI x.2.2.1,vI x.2.2.2])) (l:=x5) (n:=s11.1) (w:=4) (ob:=4) (c:=0) (bx:=false) (ro:=false) (nr:=true) (fl:=true) (a:=a16) kr kr q17 gE ?_
   refine sy 1 8 (rgd ?_)
   refine wbz h (fun q19 h=>?_) (fun q19 h=>?_)
   ·refine wgc [4,7,8,9,12,42,43,44,14] [0,1,2,3,4] ⟨[(4,.ptr 0 0 0),(7,.ptr 1 0 0),(8,.ptr 2 0 0),(9,.ptr 3 0 0),(12,.ref 4 0 x5.length),(42,.ref 4 0 x5.length),(43,vI (zn x5)),(44,vI s11.2),(14,vI s11.2)],(s23_6 p0 p3 x5),91⟩ ?_
    refine rn (rn ?_)
    cases h
    exact ⟨_,rfl,(wk_gc (live:=[4,7,8,9,12,13,42,43,44]) (keep:=[0,1,2,3,4]) kr)⟩
   refine wp_skip ?_
   refine wgc [4,7,8,9,12,13,42,43,44] [0,1,2,3,4] ⟨(s23_14 x5 s11),(s23_6 p0 p3 x5),91⟩ ?_
   refine rn ?_
   cases h
   exact ⟨_,rfl,(wk_gc (live:=[4,7,8,9,12,13,42,43,44]) (keep:=[0,1,2,3,4]) kr)⟩
  refine wcF (wg [4,7,8,9,12,13] [0,1,2,3,4] ?_)
  refine wp_exit ?_
  cases h
  exact ⟨kr,rfl⟩
 intro x21 h out hx
 subst hx
 refine wp_seq (reg_in (sz 2 2 ?_))
 refine callW bodyB_50 (g_sensitive_ends_ok p0 p3) h (fun x22 _ h=>?_)
 refine sz 5 8 (reg_end rfl (wp_seq (wg [8,9,12,13,16,17] [2,3,4] (rn (wp_seq (wp_seq ?_))))))
 refine wgc [8,9,12,13] [0,1,2] ⟨[(8,.ptr 0 0 0),(9,.ptr 1 0 0),(12,.ref 2 0 x5.length),(13,vI x21)],(s23_23 x22 x5),91⟩ ?_
 refine reg_in (sz 2 2 ?_)
 refine inlR (f:=59) (fn:=Try.f59) (as0:=[.ref 2 0 x5.length,vI x21]) kr Try.func59 rfl (by decide +kernel) rfl ?_
 refine wp_eqB (base':=3) (st':=⟨[(0,.ref 2 0 x5.length),(1,vI x21)],(s23_23 x22 x5),6⟩) kr kr ?_
 refine wp_seq (reg_in ?_)
 refine sgL false [] [] false gE ?_
 refine sz 2 3 (reg_end rfl (sq (wg [4] [3,4] ?_)))
 refine wp_ret ?_
 refine ⟨⟨[(8,.ptr 0 0 0),(9,.ptr 1 0 0),(12,.ref 2 0 x5.length),(13,vI x21),(69,.ref 2 0 x5.length),(70,vI x21),(71,.fn (.func 88) [] [.ptr 3 0 0,.ptr 4 0 0])],[oX true true 2 (.agg [vI x22.1,vI 1]),oX true true 2 (.agg [vI x22.2,vI 1]),oR true 4 (fun x=>AV.agg [vI x.1,vI x.2.1,vI x.2.2.1,vI x.2.2.2]) x5,oX false false 1 (.ref 2 0 x5.length),oX true true 1 (vI x21)],91⟩,by as_aux_lemma=>kernel_rfl,?_⟩
 refine reg_end rfl (wp_block ?_)
 refine wgc [8,9,71] [0,1,3,4,2] ⟨[(8,.ptr 0 0 0),(9,.ptr 1 0 0),(71,.fn (.func 88) [] [.ptr 2 0 0,.ptr 3 0 0])],[oX true true 2 (.agg [vI x22.1,vI 1]),oX true true 2 (.agg [vI x22.2,vI 1]),oX false false 1 (.ref 4 0 x5.length),oX true true 1 (vI x21),oR true 4 (fun x=>AV.agg [vI x.1,vI x.2.1,vI x.2.2.1,vI x.2.2.2]) x5],91⟩ ?_
 refine wp_range (f:=88) (fn:=Try.f88) (first:=[]) (caps:=[.ptr 2 0 0,.ptr 3 0 0]) rfl Try.func88 rfl (by decide +kernel) rfl rfl ?_
 refine wp_eqB (base':=6) (st':=⟨[(0,.yld 5),(1,.ptr 2 0 0),(2,.ptr 3 0 0)],[oX true true 2 (.agg [vI x22.1,vI 1]),oX true true 2 (.agg [vI x22.2,vI 1]),oX false false 1 (.ref 4 0 x5.length),oX true true 1 (vI x21),oR true 4 (fun x=>AV.agg [vI x.1,vI x.2.1,vI x.2.2.1,vI x.2.2.2]) x5,.loop 91 [(8,.ptr 0 0 0),(9,.ptr 1 0 0),(71,.fn (.func 88) [] [.ptr 2 0 0,.ptr 3 0 0])] [72,73] (cA Try.f23 [true,true,true,true,true,true,true,true,false,true,true]) (cB Try.f23 [true,true,true,true,true,true,true,true,false,true,true]) .ready none],50⟩) kr kr ?_
 refine sq (wp_block ?_)
 refine wwh h (fun s24=>⟨(s23_41 x5 s24),[oX true true 2 (.agg [vI s24.2.1,vI s24.2.2.1]),oX true true 2 (.agg [vI s24.2.2.2.1,vI s24.2.2.2.2]),oX false false 1 (.ref 4 0 x5.length),oX true true 1 (vI x21),oR true 4 (fun x=>AV.agg [vI x.1,vI x.2.1,vI x.2.2.1,vI x.2.2.2]) x5,.loop 91 [(8,.ptr 0 0 0),(9,.ptr 1 0 0),(71,.fn (.func 88) [] [.ptr 2 0 0,.ptr 3 0 0])] [72,73] (cA Try.f23 [true,true,true,true,true,true,true,true,false,true,true]) (cB Try.f23 [true,true,true,true,true,true,true,true,false,true,true]) .ready none],50⟩) (fun v out=>out=.go (.exit 0) ⟨[],[oX true true 2 (.agg [vI v.1,vI v.2.1]),oX true true 2 (.agg [vI v.2.2.1,vI v.2.2.2]),oX false false 1 (.ref 4 0 x5.length),oX true true 1 (vI x21),oR true 4 (fun x=>AV.agg [vI x.1,vI x.2.1,vI x.2.2.1,vI x.2.2.2]) x5,.loop 91 [(8,.ptr 0 0 0),(9,.ptr 1 0 0),(71,.fn (.func 88) [] [.ptr 2 0 0,.ptr 3 0 0])] [72,73] (cA Try.f23 [true,true,true,true,true,true,true,true,false,true,true]) (cB Try.f23 [true,true,true,true,true,true,true,true,false,true,true]) .ready none],50⟩) (wk_gc (live:=[0,1,2,10,11,12]) (keep:=[]) kr) ?_ ?_
 ·intro s24 o h
  unfold g_sensitive_Stay_b1 at h
  refine sq (wp_seq ?_)
  refine wb [13] h (fun q26 h=>?_) (fun q26 h=>?_)
  ·refine wcT (wp_skip (wp_seq (wp_block (wp_seq (reg_in ?_)))))
   refine bind_elim h (fun a27 q28 h=>?_)
   refine idxR' (enc:=(fun x=>AV.agg [vI x.1,vI x.2.1,vI x.2.2.1,vI x.2.2.2])) (l:=x5) (n:=s24.1) (w:=4) (ob:=4) (ro:=false) (nr:=true) (fl:=true) (a:=a27) kr kr gE q28 ?_
   refine loadR (enc:=(fun x=>AV.agg [vI x.1,vI x.2.1,vI x.2.2.1,vI x.2.2.2])) (l:=x5) (n:=s24.1) (w:=4) (ob:=4) (c:=0) (bx:=false) (ro:=false) (nr:=true) (fl:=true) (a:=a27) kr kr q28 gE ?_
   refine sz 2 4 (reg_end rfl (wp_seq (rga hfol (sy 2 2 ?_))))
   refine bind_elim h (fun a29 q30 h=>?_)
   refine idxR' (enc:=(fun x=>AV.agg [vI x.1,vI x.2.1,vI x.2.2.1,vI x.2.2.2])) (l:=x5) (n:=x21) (w:=4) (ob:=4) (ro:=false) (nr:=true) (fl:=true) (a:=a29) kr kr gE q30 ?_
   refine sy 1 4 ?_
   refine loadR (enc:=(fun x=>AV.agg [vI x.1,vI x.2.1,vI x.2.2.1,vI x.2.2.2])) (l:=x5) (n:=x21) (w:=4) (ob:=4) (c:=0) (bx:=false) (ro:=false) (nr:=true) (fl:=true) (a:=a29) kr kr q30 gE ?_
   refine sy 4 9 (rgd (wp_seq ?_))
   refine wgc [0,1,2,10,11,12,5,6] [6] ⟨[(0,.yld 5),(1,.ptr 2 0 0),(2,.ptr 3 0 0),(10,.ref 4 0 x5.length),(11,vI (zn x5)),(12,vI s24.1),(5,.ptr 6 0 0),(6,vI (zw (a29.1 - a27.1)))],[oX true true 2 (.agg [vI s24.2.1,vI s24.2.2.1]),oX true true 2 (.agg [vI s24.2.2.2.1,vI s24.2.2.2.2]),oX false false 1 (.ref 4 0 x5.length),oX true true 1 (vI x21),oR true 4 (fun x=>AV.agg [vI x.1,vI x.2.1,vI x.2.2.1,vI x.2.2.2]) x5,.loop 91 [(8,.ptr 0 0 0),(9,.ptr 1 0 0),(71,.fn (.func 88) [] [.ptr 2 0 0,.ptr 3 0 0])] [72,73] (cA Try.f23 [true,true,true,true,true,true,true,true,false,true,true]) (cB Try.f23 [true,true,true,true,true,true,true,true,false,true,true]) .ready none,oX true true 4 (.agg [vI a27.1,vI a27.2.1,vI a27.2.2.1,vI a27.2.2.2])],50⟩ ?_
   refine rga hfol (sy 2 2 ?_)
   refine idxR' (enc:=(fun x=>AV.agg [vI x.1,vI x.2.1,vI x.2.2.1,vI x.2.2.2])) (l:=x5) (n:=x21) (w:=4) (ob:=4) (ro:=false) (nr:=true) (fl:=true) (a:=a29) kr kr gE q30 ?_
   refine sy 1 4 ?_
   refine loadR (enc:=(fun x=>AV.agg [vI x.1,vI x.2.1,vI x.2.2.1,vI x.2.2.2])) (l:=x5) (n:=x21) (w:=4) (ob:=4) (c:=1) (bx:=false) (ro:=false) (nr:=true) (fl:=true) (a:=a29) kr kr q30 gE ?_
   refine sy 4 9 (rgd (wp_seq (wp_seq (wg [0,1,2,10,11,12,6,7] [] (rn ?_)))))
   refine wb [33] h (fun q32 h=>?_) (fun q32 h=>?_)
   ·refine wcT ?_
    refine wgc [0,1,2,10,11,12] [] ⟨(s23_41 x5 s24),[oX true true 2 (.agg [vI s24.2.1,vI s24.2.2.1]),oX true true 2 (.agg [vI s24.2.2.2.1,vI s24.2.2.2.2]),oX false false 1 (.ref 4 0 x5.length),oX true true 1 (vI x21),oR true 4 (fun x=>AV.agg [vI x.1,vI x.2.1,vI x.2.2.1,vI x.2.2.2]) x5,.loop 91 [(8,.ptr 0 0 0),(9,.ptr 1 0 0),(71,.fn (.func 88) [] [.ptr 2 0 0,.ptr 3 0 0])] [72,73] (cA Try.f23 [true,true,true,true,true,true,true,true,false,true,true]) (cB Try.f23 [true,true,true,true,true,true,true,true,false,true,true]) .ready none],50⟩ ?_
    refine wp_exit ?_
    refine rn ?_
    cases h
    exact ⟨_,rfl,(wk_gc (live:=[0,1,2,10,11,12]) (keep:=[]) kr)⟩
   refine wcF (wp_skip (wp_seq (reg_in (sz 3 3 ?_))))
   refine callW bodyB_51 (g_frac_Make_ok (zw (0 - (zw (a29.1 - a27.1)))) (zw (a29.2.1 - a27.2.1))) h (fun x33 _ h=>?_)
   refine sz 6 10 (reg_end rfl (wp_seq (wp_seq ?_)))
   refine wgc [0,1,2,10,11,12,7,8,9] [6] ⟨[(0,.yld 5),(1,.ptr 2 0 0),(2,.ptr 3 0 0),(10,.ref 4 0 x5.length),(11,vI (zn x5)),(12,vI s24.1),(7,vI (zw (a29.2.1 - a27.2.1))),(8,.ptr 6 0 0),(9,vI x33.2)],[oX true true 2 (.agg [vI s24.2.1,vI s24.2.2.1]),oX true true 2 (.agg [vI s24.2.2.2.1,vI s24.2.2.2.2]),oX false false 1 (.ref 4 0 x5.length),oX true true 1 (vI x21),oR true 4 (fun x=>AV.agg [vI x.1,vI x.2.1,vI x.2.2.1,vI x.2.2.2]) x5,.loop 91 [(8,.ptr 0 0 0),(9,.ptr 1 0 0),(71,.fn (.func 88) [] [.ptr 2 0 0,.ptr 3 0 0])] [72,73] (cA Try.f23 [true,true,true,true,true,true,true,true,false,true,true]) (cB Try.f23 [true,true,true,true,true,true,true,true,false,true,true]) .ready none,oX true true 2 (.agg [vI x33.1.N,vI x33.1.D])],50⟩ ?_
   refine rn ?_
   refine wb [42] h (fun q36 h=>?_) (fun q36 h=>?_)
   ·refine wcT (wg [0,1,2,10,11,12] [] ?_)
    refine wp_exit ?_
    refine rn ?_
    cases h
    exact ⟨_,rfl,(wk_gc (live:=[0,1,2,10,11,12]) (keep:=[]) kr)⟩
   refine wcF (wp_skip (wp_seq (reg_in (sz 4 4 ?_))))
   refine yldR (l:=5) (nt:=91) (us:=[vB (decide ((zw (a29.2.1 - a27.2.1)) < 0)),.agg [vI x33.1.N,vI x33.1.D]]) (sl:=[(8,.ptr 0 0 0),(9,.ptr 1 0 0),(71,.fn (.func 88) [] [.ptr 2 0 0,.ptr 3 0 0])]) (ps:=[72,73]) (assign:=cA Try.f23 [true,true,true,true,true,true,true,true,false,true,true]) (body:=cB Try.f23 [true,true,true,true,true,true,true,true,false,true,true]) (pe:=none) kr kr rfl ?_
   refine wp_eqB (base':=7) (st':=⟨[(8,.ptr 0 0 0),(9,.ptr 1 0 0),(71,.fn (.func 88) [] [.ptr 2 0 0,.ptr 3 0 0]),(72,vB (decide ((zw (a29.2.1 - a27.2.1)) < 0))),(73,.agg [vI x33.1.N,vI x33.1.D])],[oX true true 2 (.agg [vI s24.2.1,vI s24.2.2.1]),oX true true 2 (.agg [vI s24.2.2.2.1,vI s24.2.2.2.2]),oX false false 1 (.ref 4 0 x5.length),oX true true 1 (vI x21),oR true 4 (fun x=>AV.agg [vI x.1,vI x.2.1,vI x.2.2.1,vI x.2.2.2]) x5,.loop 91 [(8,.ptr 0 0 0),(9,.ptr 1 0 0),(71,.fn (.func 88) [] [.ptr 2 0 0,.ptr 3 0 0])] [72,73] (cA Try.f23 [true,true,true,true,true,true,true,true,false,true,true]) (cB Try.f23 [true,true,true,true,true,true,true,true,false,true,true]) .ready none,oX true true 2 (.agg [vI x33.1.N,vI x33.1.D])],91⟩) kr kr ?_
   refine sq (rn ?_)
   refine ⟨⟨[(8,.ptr 0 0 0),(9,.ptr 1 0 0),(71,.fn (.func 88) [] [.ptr 2 0 0,.ptr 3 0 0]),(72,vB (decide ((zw (a29.2.1 - a27.2.1)) < 0))),(73,.agg [vI x33.1.N,vI x33.1.D]),(18,vB (decide ((zw (a29.2.1 - a27.2.1)) < 0))),(19,.ptr 7 0 0)],[oX true true 2 (.agg [vI s24.2.1,vI s24.2.2.1]),oX true true 2 (.agg [vI s24.2.2.2.1,vI s24.2.2.2.2]),oX false false 1 (.ref 4 0 x5.length),oX true true 1 (vI x21),oR true 4 (fun x=>AV.agg [vI x.1,vI x.2.1,vI x.2.2.1,vI x.2.2.2]) x5,.loop 91 [(8,.ptr 0 0 0),(9,.ptr 1 0 0),(71,.fn (.func 88) [] [.ptr 2 0 0,.ptr 3 0 0])] [72,73] (cA Try.f23 [true,true,true,true,true,true,true,true,false,true,true]) (cB Try.f23 [true,true,true,true,true,true,true,true,false,true,true]) .busy none,oX true true 2 (.agg [vI x33.1.N,vI x33.1.D]),oX true true 2 (.agg [vI x33.1.N,vI x33.1.D])],91⟩,by as_aux_lemma=>kernel_rfl,?_⟩
   refine wp_block (wp_seq (wp_seq (reg_in (sz 2 2 (rwg [8,9,18,19,75] [7] ?_)))))
   refine rb [18,75] h (fun q38 h=>?_) (fun q38 h=>?_)
   ·refine sz 2 4 ?_
    refine callW bodyB_60 (g_sensitive_less_ok x33.1 (Tapi_Q.mk s24.2.2.2.1 s24.2.2.2.2)) h (fun x39 _ h=>?_)
    refine sz 1 6 (reg_end rfl ?_)
    refine wbz h (fun q42 h=>?_) (fun q42 h=>?_)
    ·refine wgc [8,9,18,19] [7] ⟨[(8,.ptr 0 0 0),(9,.ptr 1 0 0),(18,vB true),(19,.ptr 7 0 0)],[oX true true 2 (.agg [vI s24.2.1,vI s24.2.2.1]),oX true true 2 (.agg [vI s24.2.2.2.1,vI s24.2.2.2.2]),oX false false 1 (.ref 4 0 x5.length),oX true true 1 (vI x21),oR true 4 (fun x=>AV.agg [vI x.1,vI x.2.1,vI x.2.2.1,vI x.2.2.2]) x5,.loop 91 [(8,.ptr 0 0 0),(9,.ptr 1 0 0),(71,.fn (.func 88) [] [.ptr 2 0 0,.ptr 3 0 0])] [72,73] (cA Try.f23 [true,true,true,true,true,true,true,true,false,true,true]) (cB Try.f23 [true,true,true,true,true,true,true,true,false,true,true]) .busy none,oX true true 2 (.agg [vI x33.1.N,vI x33.1.D]),oX true true 2 (.agg [vI x33.1.N,vI x33.1.D])],91⟩ ?_
     refine rn (sq (wcF (wp_skip ?_)))
     refine ⟨⟨[(0,.yld 5),(1,.ptr 2 0 0),(2,.ptr 3 0 0),(10,.ref 4 0 x5.length),(11,vI (zn x5)),(12,vI s24.1),(7,vI (zw (a29.2.1 - a27.2.1))),(8,.ptr 6 0 0),(9,vI x33.2)]++[(41,vI x33.2),(42,vB false),(43,.yld 5),(44,vI (zw (a29.2.1 - a27.2.1))),(45,vB (decide ((zw (a29.2.1 - a27.2.1)) < 0))),(46,.agg [vI x33.1.N,vI x33.1.D])]++[(47,vB true)],[oX true true 2 (.agg [vI s24.2.1,vI s24.2.2.1]),oX true true 2 (.agg [vI x33.1.N,vI x33.1.D]),oX false false 1 (.ref 4 0 x5.length),oX true true 1 (vI x21),oR true 4 (fun x=>AV.agg [vI x.1,vI x.2.1,vI x.2.2.1,vI x.2.2.2]) x5,.loop 91 [(8,.ptr 0 0 0),(9,.ptr 1 0 0),(71,.fn (.func 88) [] [.ptr 2 0 0,.ptr 3 0 0])] [72,73] (cA Try.f23 [true,true,true,true,true,true,true,true,false,true,true]) (cB Try.f23 [true,true,true,true,true,true,true,true,false,true,true]) .ready none,oX true true 2 (.agg [vI x33.1.N,vI x33.1.D]),oX true true 2 (.agg [vI x33.1.N,vI x33.1.D])],50⟩,by as_aux_lemma=>kernel_rfl,?_⟩
     refine sz 1 6 (reg_end rfl (wcF (wp_skip (wg [0,1,2,10,11,12] [] (rn ?_)))))
     cases h
     exact ⟨_,rfl,(wk_gc (live:=[0,1,2,10,11,12]) (keep:=[]) kr)⟩
    refine wp_skip (wp_seq ?_)
    refine wgc [8,18,19] [7] ⟨[(8,.ptr 0 0 0),(18,vB true),(19,.ptr 7 0 0)],[oX true true 2 (.agg [vI s24.2.1,vI s24.2.2.1]),oX true true 2 (.agg [vI s24.2.2.2.1,vI s24.2.2.2.2]),oX false false 1 (.ref 4 0 x5.length),oX true true 1 (vI x21),oR true 4 (fun x=>AV.agg [vI x.1,vI x.2.1,vI x.2.2.1,vI x.2.2.2]) x5,.loop 91 [(8,.ptr 0 0 0),(9,.ptr 1 0 0),(71,.fn (.func 88) [] [.ptr 2 0 0,.ptr 3 0 0])] [72,73] (cA Try.f23 [true,true,true,true,true,true,true,true,false,true,true]) (cB Try.f23 [true,true,true,true,true,true,true,true,false,true,true]) .busy none,oX true true 2 (.agg [vI x33.1.N,vI x33.1.D]),oX true true 2 (.agg [vI x33.1.N,vI x33.1.D])],91⟩ ?_
    refine rn (wcF (wp_skip ?_))
    refine ⟨⟨[(0,.yld 5),(1,.ptr 2 0 0),(2,.ptr 3 0 0),(10,.ref 4 0 x5.length),(11,vI (zn x5)),(12,vI s24.1),(7,vI (zw (a29.2.1 - a27.2.1))),(8,.ptr 6 0 0),(9,vI x33.2)]++[(41,vI x33.2),(42,vB false),(43,.yld 5),(44,vI (zw (a29.2.1 - a27.2.1))),(45,vB (decide ((zw (a29.2.1 - a27.2.1)) < 0))),(46,.agg [vI x33.1.N,vI x33.1.D])]++[(47,vB true)],[oX true true 2 (.agg [vI s24.2.1,vI s24.2.2.1]),oX true true 2 (.agg [vI s24.2.2.2.1,vI s24.2.2.2.2]),oX false false 1 (.ref 4 0 x5.length),oX true true 1 (vI x21),oR true 4 (fun x=>AV.agg [vI x.1,vI x.2.1,vI x.2.2.1,vI x.2.2.2]) x5,.loop 91 [(8,.ptr 0 0 0),(9,.ptr 1 0 0),(71,.fn (.func 88) [] [.ptr 2 0 0,.ptr 3 0 0])] [72,73] (cA Try.f23 [true,true,true,true,true,true,true,true,false,true,true]) (cB Try.f23 [true,true,true,true,true,true,true,true,false,true,true]) .ready none,oX true true 2 (.agg [vI x33.1.N,vI x33.1.D]),oX true true 2 (.agg [vI x33.1.N,vI x33.1.D])],50⟩,by as_aux_lemma=>kernel_rfl,?_⟩
    refine sz 1 6 (reg_end rfl (wcF (wp_skip (wg [0,1,2,10,11,12] [] (rn ?_)))))
    cases h
    exact ⟨_,rfl,(wk_gc (live:=[0,1,2,10,11,12]) (keep:=[]) kr)⟩
   refine sz 4 6 (reg_end rfl (wcF (wp_skip (wp_seq ?_))))
   refine wgc [8,18,19] [7] ⟨[(8,.ptr 0 0 0),(18,vB false),(19,.ptr 7 0 0)],[oX true true 2 (.agg [vI s24.2.1,vI s24.2.2.1]),oX true true 2 (.agg [vI s24.2.2.2.1,vI s24.2.2.2.2]),oX false false 1 (.ref 4 0 x5.length),oX true true 1 (vI x21),oR true 4 (fun x=>AV.agg [vI x.1,vI x.2.1,vI x.2.2.1,vI x.2.2.2]) x5,.loop 91 [(8,.ptr 0 0 0),(9,.ptr 1 0 0),(71,.fn (.func 88) [] [.ptr 2 0 0,.ptr 3 0 0])] [72,73] (cA Try.f23 [true,true,true,true,true,true,true,true,false,true,true]) (cB Try.f23 [true,true,true,true,true,true,true,true,false,true,true]) .busy none,oX true true 2 (.agg [vI x33.1.N,vI x33.1.D]),oX true true 2 (.agg [vI x33.1.N,vI x33.1.D])],91⟩ ?_
   refine reg_in (sz 5 5 ?_)
   refine callW bodyB_60 (g_sensitive_less_ok (Tapi_Q.mk s24.2.1 s24.2.2.1) x33.1) h (fun x43 _ h=>?_)
   refine sz 1 7 (reg_end rfl ?_)
   refine wb [86,87] h (fun q46 h=>?_) (fun q46 h=>?_)
   ·refine wcT (wg [8,19] [7] (rn ?_))
    refine ⟨⟨[(0,.yld 5),(1,.ptr 2 0 0),(2,.ptr 3 0 0),(10,.ref 4 0 x5.length),(11,vI (zn x5)),(12,vI s24.1),(7,vI (zw (a29.2.1 - a27.2.1))),(8,.ptr 6 0 0),(9,vI x33.2)]++[(41,vI x33.2),(42,vB false),(43,.yld 5),(44,vI (zw (a29.2.1 - a27.2.1))),(45,vB (decide ((zw (a29.2.1 - a27.2.1)) < 0))),(46,.agg [vI x33.1.N,vI x33.1.D])]++[(47,vB true)],[oX true true 2 (.agg [vI x33.1.N,vI x33.1.D]),oX true true 2 (.agg [vI s24.2.2.2.1,vI s24.2.2.2.2]),oX false false 1 (.ref 4 0 x5.length),oX true true 1 (vI x21),oR true 4 (fun x=>AV.agg [vI x.1,vI x.2.1,vI x.2.2.1,vI x.2.2.2]) x5,.loop 91 [(8,.ptr 0 0 0),(9,.ptr 1 0 0),(71,.fn (.func 88) [] [.ptr 2 0 0,.ptr 3 0 0])] [72,73] (cA Try.f23 [true,true,true,true,true,true,true,true,false,true,true]) (cB Try.f23 [true,true,true,true,true,true,true,true,false,true,true]) .ready none,oX true true 2 (.agg [vI x33.1.N,vI x33.1.D]),oX true true 2 (.agg [vI x33.1.N,vI x33.1.D])],50⟩,by as_aux_lemma=>kernel_rfl,?_⟩
    refine sz 1 6 (reg_end rfl (wcF (wp_skip ?_)))
    refine wgc [0,1,2,10,11,12] [] ⟨(s23_41 x5 s24),[oX true true 2 (.agg [vI x33.1.N,vI x33.1.D]),oX true true 2 (.agg [vI s24.2.2.2.1,vI s24.2.2.2.2]),oX false false 1 (.ref 4 0 x5.length),oX true true 1 (vI x21),oR true 4 (fun x=>AV.agg [vI x.1,vI x.2.1,vI x.2.2.1,vI x.2.2.2]) x5,.loop 91 [(8,.ptr 0 0 0),(9,.ptr 1 0 0),(71,.fn (.func 88) [] [.ptr 2 0 0,.ptr 3 0 0])] [72,73] (cA Try.f23 [true,true,true,true,true,true,true,true,false,true,true]) (cB Try.f23 [true,true,true,true,true,true,true,true,false,true,true]) .ready none],50⟩ ?_
    refine rn ?_
    cases h
    exact ⟨_,rfl,(wk_gc (live:=[0,1,2,10,11,12]) (keep:=[]) kr)⟩
   refine wcF (wp_skip ?_)
   refine ⟨⟨[(0,.yld 5),(1,.ptr 2 0 0),(2,.ptr 3 0 0),(10,.ref 4 0 x5.length),(11,vI (zn x5)),(12,vI s24.1),(7,vI (zw (a29.2.1 - a27.2.1))),(8,.ptr 6 0 0),(9,vI x33.2)]++[(41,vI x33.2),(42,vB false),(43,.yld 5),(44,vI (zw (a29.2.1 - a27.2.1))),(45,vB (decide ((zw (a29.2.1 - a27.2.1)) < 0))),(46,.agg [vI x33.1.N,vI x33.1.D])]++[(47,vB true)],[oX true true 2 (.agg [vI s24.2.1,vI s24.2.2.1]),oX true true 2 (.agg [vI s24.2.2.2.1,vI s24.2.2.2.2]),oX false false 1 (.ref 4 0 x5.length),oX true true 1 (vI x21),oR true 4 (fun x=>AV.agg [vI x.1,vI x.2.1,vI x.2.2.1,vI x.2.2.2]) x5,.loop 91 [(8,.ptr 0 0 0),(9,.ptr 1 0 0),(71,.fn (.func 88) [] [.ptr 2 0 0,.ptr 3 0 0])] [72,73] (cA Try.f23 [true,true,true,true,true,true,true,true,false,true,true]) (cB Try.f23 [true,true,true,true,true,true,true,true,false,true,true]) .ready none,oX true true 2 (.agg [vI x33.1.N,vI x33.1.D]),oX true true 2 (.agg [vI x33.1.N,vI x33.1.D])],50⟩,by as_aux_lemma=>kernel_rfl,?_⟩
   refine sz 1 6 (reg_end rfl (wcF (wp_skip (wg [0,1,2,10,11,12] [] (rn ?_)))))
   cases h
   exact ⟨_,rfl,(wk_gc (live:=[0,1,2,10,11,12]) (keep:=[]) kr)⟩
  refine wcF (wg [] [] ?_)
  refine wp_exit ?_
  cases h
  exact ⟨kr,rfl⟩
 intro x48 h out hx
 subst hx
 refine ⟨.go .normal ⟨[(8,.ptr 0 0 0),(9,.ptr 1 0 0),(71,.fn (.func 88) [] [.ptr 2 0 0,.ptr 3 0 0])],[oX true true 2 (.agg [vI x48.1,vI x48.2.1]),oX true true 2 (.agg [vI x48.2.2.1,vI x48.2.2.2]),oX false false 1 (.ref 4 0 x5.length),oX true true 1 (vI x21),oR true 4 (fun x=>AV.agg [vI x.1,vI x.2.1,vI x.2.2.1,vI x.2.2.2]) x5,.dead],91⟩,by as_aux_lemma=>kernel_rfl,?_⟩
 refine wp_seq (rga hfol (sy 5 5 (rgd (wg [8,9,10] [0,1] ?_))))
 cases h
 exact wp_ret (show fnOut _ _ _ _=_ from by kernel_rfl)
theorem g_law24_stay_ok (p0:(List Int)) (p1:Int) (p2:Int) (x:Bool) (h:g_law24_stay p0 p1 p2=some x):CallOk Try.prog 55 [z1 p0,vI p1,vI p2] (.ret (vB x) []):=by
 refine fn_ok [] Try.func55 rfl (by decide +kernel) rfl ?_
 unfold g_law24_stay at h
 refine wp_eqB (base':=0) (st':=⟨[(0,z1 p0),(1,vI p1),(2,vI p2)],[],32⟩) kr kr ?_
 refine sq (wp_seq (reg_in ?_))
 refine callW bodyB_31 (g_law24_rain_ok ) h (fun x1 _ h=>?_)
 refine sz 2 3 ?_
 refine callR (as0:=[.agg [vI x1.Grain,.ref 0 0 x1.Nodes.length],z1 p0,vI 0,.agg [vI 0,vI 0,vI 0,vI 1]]) (ids:=[0]) kr bodyB_23 (msnap_cons (snap_agg (msnap_cons rfl (msnap_cons (snap_full (w:=3) (bx:=false) (ro:=false) kr) msnap_nil (by rfl)) (by rfl))) (msnap_cons rfl (msnap_cons rfl (msnap_cons (snap_agg (msnap_cons rfl (msnap_cons rfl (msnap_cons rfl (msnap_cons rfl msnap_nil (by rfl)) (by rfl)) (by rfl)) (by rfl))) msnap_nil (by rfl)) (by rfl)) (by rfl)) (by rfl)) (fun x3 q4=>g_sensitive_Stay_ok x1 p0 0 (Tapi_Shift.mk 0 0 0 1) x3 q4) gF h (fun x3 q4 h=>?_)
 refine sz 9 13 (reg_end rfl (wp_seq ?_))
 refine wgc [1,2,7,8,9] [1,2] ⟨[(1,vI p1),(2,vI p2),(7,.ptr 0 0 0),(8,.ptr 1 0 0),(9,vI x3.2.2)],[oX true true 2 (.agg [vI x3.1.N,vI x3.1.D]),oX true true 2 (.agg [vI x3.2.1.N,vI x3.2.1.D])],32⟩ ?_
 refine reg_in (sz 3 3 ?_)
 refine rb [19,20] h (fun q6 h=>?_) (fun q6 h=>?_)
 ·refine sz 6 9 (rwg [2,8,26] [1] ?_)
  refine rb [26] h (fun q8 h=>?_) (fun q8 h=>?_)
  ·refine sz 6 15 (reg_end rfl ?_)
   refine wgc [6] [] ⟨[(6,vB ((x3.2.1.N==p2) && ((x3.2.1.D==1) && true)))],[],32⟩ ?_
   cases h
   exact wp_ret (show fnOut _ _ _ _=_ from by kernel_rfl)
  refine sz 6 15 (reg_end rfl ?_)
  refine wgc [6] [] ⟨[(6,vB false)],[],32⟩ ?_
  cases h
  exact wp_ret (show fnOut _ _ _ _=_ from by kernel_rfl)
 refine sz 12 15 (reg_end rfl (wg [6] [] ?_))
 cases h
 exact wp_ret (show fnOut _ _ _ _=_ from by kernel_rfl)
noncomputable abbrev s20_5 (x1:Tapi_Net) (x3:((Int × Int × Int × Int) × Int)) (x5:((Int × Int × Int × Int) × Int)):List AObj:=[oX false false 2 (.agg [vI x1.Grain,.ref 6 0 x1.Nodes.length]),.row false false true true 1 [vI (-1),vI 1],oX true true 4 (.agg [vI 0,vI 0,vI 0,vI 1]),oX true true 4 (.agg [vI 1,vI 1,vI 1,vI 0]),oX true true 4 (.agg [vI x3.1.1,vI x3.1.2.1,vI x3.1.2.2.1,vI x3.1.2.2.2]),oX true true 4 (.agg [vI x5.1.1,vI x5.1.2.1,vI x5.1.2.2.1,vI x5.1.2.2.2]),oR false 3 eTapi_Node x1.Nodes]
noncomputable abbrev s20_17 (x5:((Int × Int × Int × Int) × Int)):List AObj:=[.row false false true true 1 [vI (-1),vI 1],oX true true 4 (.agg [vI 0,vI 0,vI 0,vI 1]),oX true true 4 (.agg [vI 1,vI 1,vI 1,vI 0]),oX true true 4 (.agg [vI x5.1.1,vI x5.1.2.1,vI x5.1.2.2.1,vI x5.1.2.2.2]),oX true true 2 (.agg [vI 1,vI 2])]
noncomputable abbrev s20_22  : List AObj:=[.row false false true true 1 [vI (-1),vI 1],oX true true 4 (.agg [vI 0,vI 0,vI 0,vI 1]),oX true true 4 (.agg [vI 1,vI 1,vI 1,vI 0]),oX true true 2 (.agg [vI 1,vI 2])]
theorem g_law24_works_ok  (x:Bool) (h:g_law24_works=some x):CallOk Try.prog 20 [] (.ret (vB x) []):=by
 refine fn_ok [] Try.func20 rfl (by decide +kernel) rfl ?_
 unfold g_law24_works at h
 refine wp_eqB (base':=0) (st':=⟨[],[],181⟩) kr kr ?_
 refine sq (wp_seq (reg_in ?_))
 refine callW bodyB_31 (g_law24_rain_ok ) h (fun x1 _ h=>?_)
 refine sgL false [] [] true gE ?_
 refine sgL false [] [] false gE ?_
 refine sz 2 5 (reg_end rfl (sq (wp_seq (wg [1,2,3,4] [2,1,3,4,0] (reg_in (sz 3 3 ?_))))))
 refine callR (as0:=[.agg [vI x1.Grain,.ref 4 0 x1.Nodes.length],.ref 1 0 2,vI 0,vI 1,.agg [vI 0,vI 0,vI 0,vI 1]]) (ids:=[4,1]) kr bodyB_12 (msnap_cons (snap_agg (msnap_cons rfl (msnap_cons (snap_full (w:=3) (bx:=false) (ro:=false) kr) msnap_nil (by rfl)) (by rfl))) (msnap_cons (show snap _ _ _=some (_,[1]) from kr) (msnap_cons rfl (msnap_cons rfl (msnap_cons (snap_agg (msnap_cons rfl (msnap_cons rfl (msnap_cons rfl (msnap_cons rfl msnap_nil (by rfl)) (by rfl)) (by rfl)) (by rfl))) msnap_nil (by rfl)) (by rfl)) (by rfl)) (by rfl)) (by rfl)) (fun x3 q4=>g_sensitive_Line_ok x1 [-1,1] 0 1 (Tapi_Shift.mk 0 0 0 1) x3 q4) gF h (fun x3 q4 h=>?_)
 refine sz 6 10 (reg_end rfl (wp_seq ?_))
 refine wgc [1,2,3,4,5,6] [0,1,2,3,5,4] ⟨[(1,.ptr 0 0 0),(2,.ref 1 0 2),(3,.ptr 2 0 0),(4,.ptr 3 0 0),(5,.ptr 4 0 0),(6,vI x3.2)],[oX false false 2 (.agg [vI x1.Grain,.ref 5 0 x1.Nodes.length]),.row false false true true 1 [vI (-1),vI 1],oX true true 4 (.agg [vI 0,vI 0,vI 0,vI 1]),oX true true 4 (.agg [vI 1,vI 1,vI 1,vI 0]),oX true true 4 (.agg [vI x3.1.1,vI x3.1.2.1,vI x3.1.2.2.1,vI x3.1.2.2.2]),oR false 3 eTapi_Node x1.Nodes],181⟩ ?_
 refine reg_in (sz 3 3 ?_)
 refine callR (as0:=[.agg [vI x1.Grain,.ref 5 0 x1.Nodes.length],.ref 1 0 2,vI 0,vI 1,.agg [vI 1,vI 1,vI 1,vI 0]]) (ids:=[5,1]) kr bodyB_12 (msnap_cons (snap_agg (msnap_cons rfl (msnap_cons (snap_full (w:=3) (bx:=false) (ro:=false) kr) msnap_nil (by rfl)) (by rfl))) (msnap_cons (show snap _ _ _=some (_,[1]) from kr) (msnap_cons rfl (msnap_cons rfl (msnap_cons (snap_agg (msnap_cons rfl (msnap_cons rfl (msnap_cons rfl (msnap_cons rfl msnap_nil (by rfl)) (by rfl)) (by rfl)) (by rfl))) msnap_nil (by rfl)) (by rfl)) (by rfl)) (by rfl)) (by rfl)) (fun x5 q6=>g_sensitive_Line_ok x1 [-1,1] 0 1 (Tapi_Shift.mk 1 1 1 0) x5 q6) gF h (fun x5 q6 h=>?_)
 refine sz 6 10 (reg_end rfl (wp_seq (wg [1,2,3,4,5,6,7,8] [0,1,2,3,4,6,5] (reg_in (sz 4 4 ?_)))))
 refine callR (as0:=[.agg [vI x1.Grain,.ref 6 0 x1.Nodes.length],.ref 1 0 2,vI 0,vI 1,.agg [vI 0,vI 0,vI 0,vI 1],.agg [vI 8,vI 1]]) (ids:=[6,1]) kr bodyB_16 (msnap_cons (snap_agg (msnap_cons rfl (msnap_cons (snap_full (w:=3) (bx:=false) (ro:=false) kr) msnap_nil (by rfl)) (by rfl))) (msnap_cons (show snap _ _ _=some (_,[1]) from kr) (msnap_cons rfl (msnap_cons rfl (msnap_cons (snap_agg (msnap_cons rfl (msnap_cons rfl (msnap_cons rfl (msnap_cons rfl msnap_nil (by rfl)) (by rfl)) (by rfl)) (by rfl))) (msnap_cons (snap_agg (msnap_cons rfl (msnap_cons rfl msnap_nil (by rfl)) (by rfl))) msnap_nil (by rfl)) (by rfl)) (by rfl)) (by rfl)) (by rfl)) (by rfl)) (fun x7 q8=>g_sensitive_At_ok x1 [-1,1] 0 1 (Tapi_Shift.mk 0 0 0 1) (Tapi_Q.mk 8 1) x7 q8) gF h (fun x7 q8 h=>?_)
 refine sz 6 11 (reg_end rfl (wp_seq ?_))
 refine wgc [1,2,3,4,5,6,7,8,10] [0,1,2,3,4,5,6] ⟨[(1,.ptr 0 0 0),(2,.ref 1 0 2),(3,.ptr 2 0 0),(4,.ptr 3 0 0),(5,.ptr 4 0 0),(6,vI x3.2),(7,.ptr 5 0 0),(8,vI x5.2),(10,vI x7.2)],(s20_5 x1 x3 x5),181⟩ ?_
 refine reg_in (sz 1 1 ?_)
 refine sgL false [] [] true gE ?_
 refine sz 1 3 ?_
 refine callR (as0:=[.agg [vI x1.Grain,.ref 6 0 x1.Nodes.length],.ref 7 0 2,vI 0,vI 1,.agg [vI 0,vI 0,vI 0,vI 1]]) (ids:=[6,7]) kr bodyB_12 (msnap_cons (snap_agg (msnap_cons rfl (msnap_cons (snap_full (w:=3) (bx:=false) (ro:=false) kr) msnap_nil (by rfl)) (by rfl))) (msnap_cons (show snap _ _ _=some (_,[7]) from kr) (msnap_cons rfl (msnap_cons rfl (msnap_cons (snap_agg (msnap_cons rfl (msnap_cons rfl (msnap_cons rfl (msnap_cons rfl msnap_nil (by rfl)) (by rfl)) (by rfl)) (by rfl))) msnap_nil (by rfl)) (by rfl)) (by rfl)) (by rfl)) (by rfl)) (fun x9 q10=>g_sensitive_Line_ok x1 [2,0] 0 1 (Tapi_Shift.mk 0 0 0 1) x9 q10) gF h (fun x9 q10 h=>?_)
 refine sz 6 10 (reg_end rfl (wp_seq (wg [1,2,3,4,5,6,7,8,10,12] [0,1,2,3,4,5,6] (reg_in (sz 3 3 ?_)))))
 refine callR (as0:=[.agg [vI x1.Grain,.ref 6 0 x1.Nodes.length],.ref 1 0 2,vI 2,vI 0,.agg [vI 0,vI 0,vI 0,vI 1]]) (ids:=[6,1]) kr bodyB_12 (msnap_cons (snap_agg (msnap_cons rfl (msnap_cons (snap_full (w:=3) (bx:=false) (ro:=false) kr) msnap_nil (by rfl)) (by rfl))) (msnap_cons (show snap _ _ _=some (_,[1]) from kr) (msnap_cons rfl (msnap_cons rfl (msnap_cons (snap_agg (msnap_cons rfl (msnap_cons rfl (msnap_cons rfl (msnap_cons rfl msnap_nil (by rfl)) (by rfl)) (by rfl)) (by rfl))) msnap_nil (by rfl)) (by rfl)) (by rfl)) (by rfl)) (by rfl)) (fun x11 q12=>g_sensitive_Line_ok x1 [-1,1] 2 0 (Tapi_Shift.mk 0 0 0 1) x11 q12) gF h (fun x11 q12 h=>?_)
 refine sz 6 10 (reg_end rfl (wp_seq ?_))
 refine wgc [1,2,3,4,5,6,7,8,10,12,14] [0,1,2,3,4,5,6] ⟨[(1,.ptr 0 0 0),(2,.ref 1 0 2),(3,.ptr 2 0 0),(4,.ptr 3 0 0),(5,.ptr 4 0 0),(6,vI x3.2),(7,.ptr 5 0 0),(8,vI x5.2),(10,vI x7.2),(12,vI x9.2),(14,vI x11.2)],(s20_5 x1 x3 x5),181⟩ ?_
 refine reg_in (sz 3 3 ?_)
 refine callR (as0:=[.agg [vI x1.Grain,.ref 6 0 x1.Nodes.length],.ref 1 0 2,vI 0,vI 1,.agg [vI 0,vI 0,vI 0,vI 0]]) (ids:=[6,1]) kr bodyB_12 (msnap_cons (snap_agg (msnap_cons rfl (msnap_cons (snap_full (w:=3) (bx:=false) (ro:=false) kr) msnap_nil (by rfl)) (by rfl))) (msnap_cons (show snap _ _ _=some (_,[1]) from kr) (msnap_cons rfl (msnap_cons rfl (msnap_cons (snap_agg (msnap_cons rfl (msnap_cons rfl (msnap_cons rfl (msnap_cons rfl msnap_nil (by rfl)) (by rfl)) (by rfl)) (by rfl))) msnap_nil (by rfl)) (by rfl)) (by rfl)) (by rfl)) (by rfl)) (fun x13 q14=>g_sensitive_Line_ok x1 [-1,1] 0 1 (Tapi_Shift.mk 0 0 0 0) x13 q14) gF h (fun x13 q14 h=>?_)
 refine sz 6 10 (reg_end rfl (wp_seq (wg [1,2,3,4,5,6,7,8,10,12,14,16] [0,1,2,3,4,5,6] (reg_in (sz 4 4 ?_)))))
 refine callR (as0:=[.agg [vI x1.Grain,.ref 6 0 x1.Nodes.length],.ref 1 0 2,vI 0,vI 1,.agg [vI 0,vI 0,vI 0,vI 1],.agg [vI 2,vI 4]]) (ids:=[6,1]) kr bodyB_16 (msnap_cons (snap_agg (msnap_cons rfl (msnap_cons (snap_full (w:=3) (bx:=false) (ro:=false) kr) msnap_nil (by rfl)) (by rfl))) (msnap_cons (show snap _ _ _=some (_,[1]) from kr) (msnap_cons rfl (msnap_cons rfl (msnap_cons (snap_agg (msnap_cons rfl (msnap_cons rfl (msnap_cons rfl (msnap_cons rfl msnap_nil (by rfl)) (by rfl)) (by rfl)) (by rfl))) (msnap_cons (snap_agg (msnap_cons rfl (msnap_cons rfl msnap_nil (by rfl)) (by rfl))) msnap_nil (by rfl)) (by rfl)) (by rfl)) (by rfl)) (by rfl)) (by rfl)) (fun x15 q16=>g_sensitive_At_ok x1 [-1,1] 0 1 (Tapi_Shift.mk 0 0 0 1) (Tapi_Q.mk 2 4) x15 q16) gF h (fun x15 q16 h=>?_)
 refine sz 6 11 (reg_end rfl (wp_seq ?_))
 refine wgc [1,2,3,4,5,6,7,8,10,12,14,16,18] [0,1,2,3,4,5,6] ⟨[(1,.ptr 0 0 0),(2,.ref 1 0 2),(3,.ptr 2 0 0),(4,.ptr 3 0 0),(5,.ptr 4 0 0),(6,vI x3.2),(7,.ptr 5 0 0),(8,vI x5.2),(10,vI x7.2),(12,vI x9.2),(14,vI x11.2),(16,vI x13.2),(18,vI x15.2)],(s20_5 x1 x3 x5),181⟩ ?_
 refine reg_in (sz 4 4 ?_)
 refine callR (as0:=[.agg [vI x1.Grain,.ref 6 0 x1.Nodes.length],.ref 1 0 2,vI 0,vI 1,.agg [vI 0,vI 0,vI 0,vI 1],.agg [vI 1,vI 2000]]) (ids:=[6,1]) kr bodyB_16 (msnap_cons (snap_agg (msnap_cons rfl (msnap_cons (snap_full (w:=3) (bx:=false) (ro:=false) kr) msnap_nil (by rfl)) (by rfl))) (msnap_cons (show snap _ _ _=some (_,[1]) from kr) (msnap_cons rfl (msnap_cons rfl (msnap_cons (snap_agg (msnap_cons rfl (msnap_cons rfl (msnap_cons rfl (msnap_cons rfl msnap_nil (by rfl)) (by rfl)) (by rfl)) (by rfl))) (msnap_cons (snap_agg (msnap_cons rfl (msnap_cons rfl msnap_nil (by rfl)) (by rfl))) msnap_nil (by rfl)) (by rfl)) (by rfl)) (by rfl)) (by rfl)) (by rfl)) (fun x17 q18=>g_sensitive_At_ok x1 [-1,1] 0 1 (Tapi_Shift.mk 0 0 0 1) (Tapi_Q.mk 1 2000) x17 q18) gF h (fun x17 q18 h=>?_)
 refine sz 6 11 (reg_end rfl (wp_seq (wg [2,3,4,5,6,7,8,10,12,14,16,18,20] [1,2,3,4,5] (rn (wp_seq (reg_in (sz 4 4 ?_)))))))
 refine rw_wk (wk_gc (live:=[2,3,4,6,7,8,10,12,14,16,18,20,21,90]) (keep:=[0,1,2,4,5]) (st':=⟨[(2,.ref 0 0 2),(3,.ptr 1 0 0),(4,.ptr 2 0 0),(6,vI x3.2),(7,.ptr 3 0 0),(8,vI x5.2),(10,vI x7.2),(12,vI x9.2),(14,vI x11.2),(16,vI x13.2),(18,vI x15.2),(20,vI x17.2),(21,.ptr 4 0 0),(90,vB ((x3.1.1==24) && ((x3.1.2.1==8) && ((x3.1.2.2.1==38) && ((x3.1.2.2.2==6) && true)))))],(s20_17 x5),181⟩) kr) ?_
 refine rb [90] h (fun q20 h=>?_) (fun q20 h=>?_)
 ·refine sz 4 8 (rwg [2,3,4,7,8,10,12,14,16,18,20,21,94] [0,1,2,3,4] ?_)
  refine rb [94] h (fun q22 h=>?_) (fun q22 h=>?_)
  ·refine sz 5 13 (rwg [2,3,4,8,10,12,14,16,18,20,21,99] [0,1,2,4] ?_)
   refine rb [99] h (fun q24 h=>?_) (fun q24 h=>?_)
   ·refine sz 4 17 (rwg [2,3,4,10,12,14,16,18,20,21,103] [0,1,2,3] ?_)
    refine rb [103] h (fun q26 h=>?_) (fun q26 h=>?_)
    ·refine sz 4 21 ?_
     refine rw_wk (wk_gc (live:=[2,3,4,12,14,16,18,20,21,107]) (keep:=[0,1,2,3]) (st':=⟨[(2,.ref 0 0 2),(3,.ptr 1 0 0),(4,.ptr 2 0 0),(12,vI x9.2),(14,vI x11.2),(16,vI x13.2),(18,vI x15.2),(20,vI x17.2),(21,.ptr 3 0 0),(107,vB (x7.2==2))],s20_22,181⟩) kr) ?_
     refine rb [107] h (fun q28 h=>?_) (fun q28 h=>?_)
     ·refine sz 4 25 (rwg [2,3,4,14,16,18,20,21,111] [0,1,2,3] ?_)
      refine rb [111] h (fun q30 h=>?_) (fun q30 h=>?_)
      ·refine sz 4 29 (rwg [2,3,4,16,18,20,21,115] [0,1,2,3] ?_)
       refine rb [115] h (fun q32 h=>?_) (fun q32 h=>?_)
       ·refine sz 4 33 (rwg [2,3,4,18,20,21,119] [0,1,2,3] ?_)
        refine rb [119] h (fun q34 h=>?_) (fun q34 h=>?_)
        ·refine sz 4 37 ?_
         refine rw_wk (wk_gc (live:=[2,3,4,20,21,123]) (keep:=[0,1,2,3]) (st':=⟨[(2,.ref 0 0 2),(3,.ptr 1 0 0),(4,.ptr 2 0 0),(20,vI x17.2),(21,.ptr 3 0 0),(123,vB (x15.2==5))],s20_22,181⟩) kr) ?_
         refine rb [123] h (fun q36 h=>?_) (fun q36 h=>?_)
         ·refine sz 4 41 (rwg [2,3,4,21,127] [0,1,2,3] ?_)
          refine rb [127] h (fun q38 h=>?_) (fun q38 h=>?_)
          ·refine callW bodyB_53 (g_law24_at_ok 0 12 19) h (fun x39 _ h=>?_)
           refine sz 2 44 ?_
           refine rb [128,129,130] h (fun q42 h=>?_) (fun q42 h=>?_)
           ·refine callW bodyB_53 (g_law24_at_ok 1 8 11) h (fun x43 _ h=>?_)
            refine sz 2 47 (rwg [2,3,4,21,133] [0,1,2,3] ?_)
            refine rb [133] h (fun q46 h=>?_) (fun q46 h=>?_)
            ·refine callW bodyB_53 (g_law24_at_ok 7 1 1) h (fun x47 _ h=>?_)
             refine sz 2 50 (reg_end rfl (wp_seq (reg_in (sz 2 2 ?_))))
             refine rw_wk (wk_gc (live:=[2,3,4,21,137]) (keep:=[0,1,2,3]) (st':=⟨[(2,.ref 0 0 2),(3,.ptr 1 0 0),(4,.ptr 2 0 0),(21,.ptr 3 0 0),(137,vB x47)],s20_22,181⟩) kr) ?_
             refine rb [137] h (fun q50 h=>?_) (fun q50 h=>?_)
             ·refine sz 4 6 ?_
              refine callR (as0:=[.ref 0 0 2,.agg [vI 0,vI 0,vI 0,vI 1],.agg [vI 1,vI 2],.agg [vI (-1),vI 1],vI 0]) (ids:=[0]) kr bodyB_54 (msnap_cons (show snap _ _ _=some (_,[0]) from kr) (msnap_cons (snap_agg (msnap_cons rfl (msnap_cons rfl (msnap_cons rfl (msnap_cons rfl msnap_nil (by rfl)) (by rfl)) (by rfl)) (by rfl))) (msnap_cons (snap_agg (msnap_cons rfl (msnap_cons rfl msnap_nil (by rfl)) (by rfl))) (msnap_cons (snap_agg (msnap_cons rfl (msnap_cons rfl msnap_nil (by rfl)) (by rfl))) (msnap_cons rfl msnap_nil (by rfl)) (by rfl)) (by rfl)) (by rfl)) (by rfl)) (fun x51 q52=>g_law24_threshold_ok [-1,1] (Tapi_Shift.mk 0 0 0 1) (Tapi_Q.mk 1 2) (Tapi_Q.mk (-1) 1) 0 x51 q52) gF h (fun x51 q52 h=>?_)
              refine sz 2 9 (rwg [2,3,4,21,144] [0,1,2,3] ?_)
              refine rb [144] h (fun q54 h=>?_) (fun q54 h=>?_)
              ·refine sz 1 10 ?_
               refine callR (as0:=[.ref 0 0 2,vI (-1),vI 7]) (ids:=[0]) kr bodyB_55 (msnap_cons (show snap _ _ _=some (_,[0]) from kr) (msnap_cons rfl (msnap_cons rfl msnap_nil (by rfl)) (by rfl)) (by rfl)) (fun x55 q56=>g_law24_stay_ok [-1,1] (-1) 7 x55 q56) gF h (fun x55 q56 h=>?_)
               refine sz 2 13 (rwg [2,3,4,21,148] [0,1,2,3] ?_)
               refine rb [148] h (fun q58 h=>?_) (fun q58 h=>?_)
               ·refine sgL false [] [] true gE ?_
                refine callR (as0:=[.ref 4 0 2,vI (-3),vI 2]) (ids:=[4]) kr bodyB_55 (msnap_cons (show snap _ _ _=some (_,[4]) from kr) (msnap_cons rfl (msnap_cons rfl msnap_nil (by rfl)) (by rfl)) (by rfl)) (fun x59 q60=>g_law24_stay_ok [-1,-1] (-3) 2 x59 q60) gF h (fun x59 q60 h=>?_)
                refine sz 2 17 (reg_end rfl (wp_seq (reg_in (sz 2 2 ?_))))
                refine rw_wk (wk_gc (live:=[2,3,4,21,153]) (keep:=[0,1,2,3]) (st':=⟨[(2,.ref 0 0 2),(3,.ptr 1 0 0),(4,.ptr 2 0 0),(21,.ptr 3 0 0),(153,vB x59)],s20_22,181⟩) kr) ?_
                refine rb [153] h (fun q62 h=>?_) (fun q62 h=>?_)
                ·refine sz 4 6 ?_
                 refine callR (as0:=[.ref 0 0 2,.agg [vI 0,vI 0,vI 0,vI 1],.agg [vI 0,vI 1],.agg [vI (-3),vI 1],vI 0]) (ids:=[0]) kr bodyB_54 (msnap_cons (show snap _ _ _=some (_,[0]) from kr) (msnap_cons (snap_agg (msnap_cons rfl (msnap_cons rfl (msnap_cons rfl (msnap_cons rfl msnap_nil (by rfl)) (by rfl)) (by rfl)) (by rfl))) (msnap_cons (snap_agg (msnap_cons rfl (msnap_cons rfl msnap_nil (by rfl)) (by rfl))) (msnap_cons (snap_agg (msnap_cons rfl (msnap_cons rfl msnap_nil (by rfl)) (by rfl))) (msnap_cons rfl msnap_nil (by rfl)) (by rfl)) (by rfl)) (by rfl)) (by rfl)) (fun x63 q64=>g_law24_threshold_ok [-1,1] (Tapi_Shift.mk 0 0 0 1) (Tapi_Q.mk 0 1) (Tapi_Q.mk (-3) 1) 0 x63 q64) gF h (fun x63 q64 h=>?_)
                 refine sz 2 9 (rwg [2,3,4,21,160] [0,1,2,3] ?_)
                 refine rb [160] h (fun q66 h=>?_) (fun q66 h=>?_)
                 ·refine sz 4 13 ?_
                  refine callR (as0:=[.ref 0 0 2,.agg [vI 1,vI 1,vI 1,vI 0],.agg [vI 1,vI 2],.agg [vI 10,vI 3],vI 0]) (ids:=[0]) kr bodyB_54 (msnap_cons (show snap _ _ _=some (_,[0]) from kr) (msnap_cons (snap_agg (msnap_cons rfl (msnap_cons rfl (msnap_cons rfl (msnap_cons rfl msnap_nil (by rfl)) (by rfl)) (by rfl)) (by rfl))) (msnap_cons (snap_agg (msnap_cons rfl (msnap_cons rfl msnap_nil (by rfl)) (by rfl))) (msnap_cons (snap_agg (msnap_cons rfl (msnap_cons rfl msnap_nil (by rfl)) (by rfl))) (msnap_cons rfl msnap_nil (by rfl)) (by rfl)) (by rfl)) (by rfl)) (by rfl)) (fun x67 q68=>g_law24_threshold_ok [-1,1] (Tapi_Shift.mk 1 1 1 0) (Tapi_Q.mk 1 2) (Tapi_Q.mk 10 3) 0 x67 q68) gF h (fun x67 q68 h=>?_)
                  refine sz 2 16 (rwg [2,3,4,167] [0,1,2] ?_)
                  refine rb [167] h (fun q70 h=>?_) (fun q70 h=>?_)
                  ·refine sgL false [] [] true gE ?_
                   refine sz 3 20 ?_
                   refine callR (as0:=[.ref 3 0 2,.agg [vI 0,vI 0,vI 0,vI 1],.agg [vI 1,vI 1],.agg [vI 0,vI 0],vI 4]) (ids:=[3]) kr bodyB_54 (msnap_cons (show snap _ _ _=some (_,[3]) from kr) (msnap_cons (snap_agg (msnap_cons rfl (msnap_cons rfl (msnap_cons rfl (msnap_cons rfl msnap_nil (by rfl)) (by rfl)) (by rfl)) (by rfl))) (msnap_cons (snap_agg (msnap_cons rfl (msnap_cons rfl msnap_nil (by rfl)) (by rfl))) (msnap_cons (snap_agg (msnap_cons rfl (msnap_cons rfl msnap_nil (by rfl)) (by rfl))) (msnap_cons rfl msnap_nil (by rfl)) (by rfl)) (by rfl)) (by rfl)) (by rfl)) (fun x71 q72=>g_law24_threshold_ok [1,1] (Tapi_Shift.mk 0 0 0 1) (Tapi_Q.mk 1 1) (Tapi_Q.mk 0 0) 4 x71 q72) gF h (fun x71 q72 h=>?_)
                   refine sz 2 23 ?_
                   refine rw_wk (wk_gc (live:=[2,4,174]) (keep:=[0,2]) (st':=⟨[(2,.ref 0 0 2),(4,.ptr 1 0 0),(174,vB x71)],[.row false false true true 1 [vI (-1),vI 1],oX true true 4 (.agg [vI 1,vI 1,vI 1,vI 0])],181⟩) kr) ?_
                   refine rb [174] h (fun q74 h=>?_) (fun q74 h=>?_)
                   ·refine sz 4 27 ?_
                    refine callR (as0:=[.ref 0 0 2,.agg [vI 1,vI 1,vI 1,vI 0],.agg [vI 3,vI 4],.agg [vI 0,vI 0],vI 4]) (ids:=[0]) kr bodyB_54 (msnap_cons (show snap _ _ _=some (_,[0]) from kr) (msnap_cons (snap_agg (msnap_cons rfl (msnap_cons rfl (msnap_cons rfl (msnap_cons rfl msnap_nil (by rfl)) (by rfl)) (by rfl)) (by rfl))) (msnap_cons (snap_agg (msnap_cons rfl (msnap_cons rfl msnap_nil (by rfl)) (by rfl))) (msnap_cons (snap_agg (msnap_cons rfl (msnap_cons rfl msnap_nil (by rfl)) (by rfl))) (msnap_cons rfl msnap_nil (by rfl)) (by rfl)) (by rfl)) (by rfl)) (by rfl)) (fun x75 q76=>g_law24_threshold_ok [-1,1] (Tapi_Shift.mk 1 1 1 0) (Tapi_Q.mk 3 4) (Tapi_Q.mk 0 0) 4 x75 q76) gF h (fun x75 q76 h=>?_)
                    refine sz 2 30 (reg_end rfl (wg [0] [] ?_))
                    cases h
                    exact wp_ret (show fnOut _ _ _ _=_ from by kernel_rfl)
                   refine sz 7 30 (reg_end rfl (wg [0] [] ?_))
                   cases h
                   exact wp_ret (show fnOut _ _ _ _=_ from by kernel_rfl)
                  refine sz 14 30 (reg_end rfl ?_)
                  refine wgc [0] [] ⟨[(0,vB false)],[],181⟩ ?_
                  cases h
                  exact wp_ret (show fnOut _ _ _ _=_ from by kernel_rfl)
                 refine sz 21 30 (reg_end rfl ?_)
                 refine wgc [0] [] ⟨[(0,vB false)],[],181⟩ ?_
                 cases h
                 exact wp_ret (show fnOut _ _ _ _=_ from by kernel_rfl)
                refine sz 28 30 (reg_end rfl ?_)
                refine wgc [0] [] ⟨[(0,vB false)],[],181⟩ ?_
                cases h
                exact wp_ret (show fnOut _ _ _ _=_ from by kernel_rfl)
               refine sz 4 17 (reg_end rfl (sq ?_))
               refine wgc [0] [] ⟨[(0,vB false)],[],181⟩ ?_
               cases h
               exact wp_ret (show fnOut _ _ _ _=_ from by kernel_rfl)
              refine sz 8 17 (reg_end rfl (wp_seq ?_))
              refine wgc [2,3,4,21,22] [0,1,2,3] ⟨[(2,.ref 0 0 2),(3,.ptr 1 0 0),(4,.ptr 2 0 0),(21,.ptr 3 0 0),(22,vB false)],s20_22,181⟩ ?_
              refine rn (wg [0] [] ?_)
              cases h
              exact wp_ret (show fnOut _ _ _ _=_ from by kernel_rfl)
             refine sz 15 17 (reg_end rfl (wp_seq (wg [2,3,4,21,22] [0,1,2,3] (rn ?_))))
             refine wgc [0] [] ⟨[(0,vB false)],[],181⟩ ?_
             cases h
             exact wp_ret (show fnOut _ _ _ _=_ from by kernel_rfl)
            refine sz 3 50 (reg_end rfl (sq (wp_seq ?_)))
            refine wgc [2,3,4,21,22] [0,1,2,3] ⟨[(2,.ref 0 0 2),(3,.ptr 1 0 0),(4,.ptr 2 0 0),(21,.ptr 3 0 0),(22,vB false)],s20_22,181⟩ ?_
            refine rn (wg [0] [] ?_)
            cases h
            exact wp_ret (show fnOut _ _ _ _=_ from by kernel_rfl)
           refine sz 6 50 (reg_end rfl (wp_seq ?_))
           refine wgc [2,3,4,21,22] [0,1,2,3] ⟨[(2,.ref 0 0 2),(3,.ptr 1 0 0),(4,.ptr 2 0 0),(21,.ptr 3 0 0),(22,vB false)],s20_22,181⟩ ?_
           refine rn (wp_seq (wg [2,3,4,21,22] [0,1,2,3] (rn (wg [0] [] ?_))))
           cases h
           exact wp_ret (show fnOut _ _ _ _=_ from by kernel_rfl)
          refine sz 9 50 (reg_end rfl (wp_seq (wg [2,3,4,21,22] [0,1,2,3] (rn (wp_seq ?_)))))
          refine wgc [2,3,4,21,22] [0,1,2,3] ⟨[(2,.ref 0 0 2),(3,.ptr 1 0 0),(4,.ptr 2 0 0),(21,.ptr 3 0 0),(22,vB false)],s20_22,181⟩ ?_
          refine rn (wg [0] [] ?_)
          cases h
          exact wp_ret (show fnOut _ _ _ _=_ from by kernel_rfl)
         refine sz 13 50 (reg_end rfl (wp_seq (wg [2,3,4,21,22] [0,1,2,3] (rn (wp_seq ?_)))))
         refine wgc [2,3,4,21,22] [0,1,2,3] ⟨[(2,.ref 0 0 2),(3,.ptr 1 0 0),(4,.ptr 2 0 0),(21,.ptr 3 0 0),(22,vB false)],s20_22,181⟩ ?_
         refine rn (wg [0] [] ?_)
         cases h
         exact wp_ret (show fnOut _ _ _ _=_ from by kernel_rfl)
        refine sz 17 50 (reg_end rfl (wp_seq ?_))
        refine wgc [2,3,4,21,22] [0,1,2,3] ⟨[(2,.ref 0 0 2),(3,.ptr 1 0 0),(4,.ptr 2 0 0),(21,.ptr 3 0 0),(22,vB false)],s20_22,181⟩ ?_
        refine rn (wp_seq (wg [2,3,4,21,22] [0,1,2,3] (rn (wg [0] [] ?_))))
        cases h
        exact wp_ret (show fnOut _ _ _ _=_ from by kernel_rfl)
       refine sz 21 50 (reg_end rfl (wp_seq ?_))
       refine wgc [2,3,4,21,22] [0,1,2,3] ⟨[(2,.ref 0 0 2),(3,.ptr 1 0 0),(4,.ptr 2 0 0),(21,.ptr 3 0 0),(22,vB false)],s20_22,181⟩ ?_
       refine rn (wp_seq (wg [2,3,4,21,22] [0,1,2,3] (rn (wg [0] [] ?_))))
       cases h
       exact wp_ret (show fnOut _ _ _ _=_ from by kernel_rfl)
      refine sz 25 50 (reg_end rfl (wp_seq ?_))
      refine wgc [2,3,4,21,22] [0,1,2,3] ⟨[(2,.ref 0 0 2),(3,.ptr 1 0 0),(4,.ptr 2 0 0),(21,.ptr 3 0 0),(22,vB false)],s20_22,181⟩ ?_
      refine rn (wp_seq (wg [2,3,4,21,22] [0,1,2,3] (rn (wg [0] [] ?_))))
      cases h
      exact wp_ret (show fnOut _ _ _ _=_ from by kernel_rfl)
     refine sz 29 50 (reg_end rfl (wp_seq ?_))
     refine wgc [2,3,4,21,22] [0,1,2,3] ⟨[(2,.ref 0 0 2),(3,.ptr 1 0 0),(4,.ptr 2 0 0),(21,.ptr 3 0 0),(22,vB false)],s20_22,181⟩ ?_
     refine rn (wp_seq (wg [2,3,4,21,22] [0,1,2,3] (rn (wg [0] [] ?_))))
     cases h
     exact wp_ret (show fnOut _ _ _ _=_ from by kernel_rfl)
    refine sgz 33 50 (S:=⟨[(2,.ref 0 0 2),(3,.ptr 1 0 0),(4,.ptr 2 0 0),(10,vI x7.2),(12,vI x9.2),(14,vI x11.2),(16,vI x13.2),(18,vI x15.2),(20,vI x17.2),(21,.ptr 3 0 0),(103,vB false),(104,.tup []),(105,.tup []),(106,vB false),(107,vB false),(108,.tup []),(109,.tup []),(110,vB false),(111,vB false),(112,.tup []),(113,.tup []),(114,vB false),(115,vB false),(116,.tup []),(117,.tup []),(118,vB false),(119,vB false),(120,.tup []),(121,.tup []),(122,vB false),(123,vB false),(124,.tup []),(125,.tup []),(126,vB false),(127,vB false),(128,.tup []),(129,vB false),(130,vB false),(131,.tup []),(132,vB false),(133,vB false),(134,.tup []),(135,vB false),(22,vB false)],s20_22,181⟩) ?_
    refine reg_end rfl (wp_seq (wg [2,3,4,21,22] [0,1,2,3] (rn (wp_seq (wg [2,3,4,21,22] [0,1,2,3] (rn (wg [0] [] ?_)))))))
    cases h
    exact wp_ret (show fnOut _ _ _ _=_ from by kernel_rfl)
   refine sgz 37 50 (S:=⟨[(2,.ref 0 0 2),(3,.ptr 1 0 0),(4,.ptr 2 0 0),(8,vI x5.2),(10,vI x7.2),(12,vI x9.2),(14,vI x11.2),(16,vI x13.2),(18,vI x15.2),(20,vI x17.2),(21,.ptr 3 0 0),(99,vB false),(100,.tup []),(101,.tup []),(102,vB false),(103,vB false),(104,.tup []),(105,.tup []),(106,vB false),(107,vB false),(108,.tup []),(109,.tup []),(110,vB false),(111,vB false),(112,.tup []),(113,.tup []),(114,vB false),(115,vB false),(116,.tup []),(117,.tup []),(118,vB false),(119,vB false),(120,.tup []),(121,.tup []),(122,vB false),(123,vB false),(124,.tup []),(125,.tup []),(126,vB false),(127,vB false),(128,.tup []),(129,vB false),(130,vB false),(131,.tup []),(132,vB false),(133,vB false),(134,.tup []),(135,vB false),(22,vB false)],s20_22,181⟩) ?_
   refine reg_end rfl (wp_seq (wg [2,3,4,21,22] [0,1,2,3] (rn (wp_seq (wg [2,3,4,21,22] [0,1,2,3] (rn (wg [0] [] ?_)))))))
   cases h
   exact wp_ret (show fnOut _ _ _ _=_ from by kernel_rfl)
  refine sgz 42 50 (S:=⟨[(2,.ref 0 0 2),(3,.ptr 1 0 0),(4,.ptr 2 0 0),(7,.ptr 3 0 0),(8,vI x5.2),(10,vI x7.2),(12,vI x9.2),(14,vI x11.2),(16,vI x13.2),(18,vI x15.2),(20,vI x17.2),(21,.ptr 4 0 0),(94,vB false),(95,.tup []),(96,.tup []),(97,.tup []),(98,vB false),(99,vB false),(100,.tup []),(101,.tup []),(102,vB false),(103,vB false),(104,.tup []),(105,.tup []),(106,vB false),(107,vB false),(108,.tup []),(109,.tup []),(110,vB false),(111,vB false),(112,.tup []),(113,.tup []),(114,vB false),(115,vB false),(116,.tup []),(117,.tup []),(118,vB false),(119,vB false),(120,.tup []),(121,.tup []),(122,vB false),(123,vB false),(124,.tup []),(125,.tup []),(126,vB false),(127,vB false),(128,.tup []),(129,vB false),(130,vB false),(131,.tup []),(132,vB false),(133,vB false),(134,.tup []),(135,vB false),(22,vB false)],(s20_17 x5),181⟩) ?_
  refine reg_end rfl (wp_seq (wg [2,3,4,21,22] [0,1,2,4] (rn (wp_seq (wg [2,3,4,21,22] [0,1,2,3] (rn (wg [0] [] ?_)))))))
  cases h
  exact wp_ret (show fnOut _ _ _ _=_ from by kernel_rfl)
 refine sgz 46 50 (S:=⟨[(2,.ref 0 0 2),(3,.ptr 1 0 0),(4,.ptr 2 0 0),(6,vI x3.2),(7,.ptr 3 0 0),(8,vI x5.2),(10,vI x7.2),(12,vI x9.2),(14,vI x11.2),(16,vI x13.2),(18,vI x15.2),(20,vI x17.2),(21,.ptr 4 0 0),(90,vB false),(91,.tup []),(92,.tup []),(93,vB false),(94,vB false),(95,.tup []),(96,.tup []),(97,.tup []),(98,vB false),(99,vB false),(100,.tup []),(101,.tup []),(102,vB false),(103,vB false),(104,.tup []),(105,.tup []),(106,vB false),(107,vB false),(108,.tup []),(109,.tup []),(110,vB false),(111,vB false),(112,.tup []),(113,.tup []),(114,vB false),(115,vB false),(116,.tup []),(117,.tup []),(118,vB false),(119,vB false),(120,.tup []),(121,.tup []),(122,vB false),(123,vB false),(124,.tup []),(125,.tup []),(126,vB false),(127,vB false),(128,.tup []),(129,vB false),(130,vB false),(131,.tup []),(132,vB false),(133,vB false),(134,.tup []),(135,vB false),(22,vB false)],(s20_17 x5),181⟩) ?_
 refine reg_end rfl (wp_seq (wg [2,3,4,21,22] [0,1,2,4] (rn (wp_seq (wg [2,3,4,21,22] [0,1,2,3] (rn (wg [0] [] ?_)))))))
 cases h
 exact wp_ret (show fnOut _ _ _ _=_ from by kernel_rfl)
theorem g_ref02_At_ok (p0:(List Int)) (p1:(List Int)) (x:(List Int)) (h:g_ref02_At p0 p1=some x):CallOk Try.prog 46 [z1 p0,z1 p1] (.ret (.ref 0 0 x.length) [oR true 1 eI x]):=by
 refine fn_ok [] Try.func46 rfl (by decide +kernel) rfl ?_
 unfold g_ref02_At at h
 refine wp_eqB (base':=0) (st':=⟨[(0,z1 p0),(1,z1 p1)],[],24⟩) kr kr ?_
 refine sq (sq (wp_seq (sq (wp_block ?_))))
 refine wwh h (fun s1=>⟨[(0,z1 p0),(1,z1 p1),(5,.ref 0 0 s1.2.length),(6,vI s1.1)],[oR true 1 eI s1.2],24⟩) (fun v out=>out=.go (.exit 0) ⟨[(5,.ref 0 0 v.length)],[oR true 1 eI v],24⟩) (wk_trans (wk_gc (live:=[0,1,5,6]) (keep:=[]) (st':=⟨[(0,z1 p0),(1,z1 p1),(5,.nils),(6,vI 0)],[],24⟩) kr) (wk_trans (wk_nil 5 1 true true (st':=⟨[(0,z1 p0),(1,z1 p1),(5,.ref 0 0 0),(6,vI 0)],[.row false false true true 1 []],24⟩) kr) (wk_gc (live:=[0,1,5,6]) (keep:=[0]) kr))) ?_ ?_
 ·intro s1 o h
  unfold g_ref02_At_b0 at h
  refine wp_seq (wp_seq (reg_in (sz 2 2 ?_)))
  refine lenL (enc:=eI) (l:=p1) (fl:=true) kr gE ?_
  refine sz 1 4 (reg_end rfl ?_)
  refine wb [10] h (fun q3 h=>?_) (fun q3 h=>?_)
  ·refine wcT (wp_skip (wp_seq (wp_block (reg_in (sz 4 4 ?_)))))
   refine bind_elim h (fun a4 q5 h=>?_)
   refine idxL' (enc:=eI) (l:=p1) (n:=s1.1) (fl:=true) (w:=1) (a:=a4) kr rfl gE q5 ?_
   refine sz 1 6 ?_
   refine bind_elim h (fun a6 q7 h=>?_)
   refine idxL' (enc:=eI) (l:=p0) (n:=a4) (fl:=true) (w:=1) (a:=a6) kr rfl gE q7 ?_
   refine sz 1 8 ?_
   refine sgL false [] [] true gE ?_
   refine appR (enc:=eI) (l:=s1.2) (m:=([a6]:(List Int))) (w:=1) (bytes:=8) (ob:=0) (nr:=true) (fl:=true) (nr':=true) (fl':=true) (b:=.ref 1 0 1) (rds:=[1]) false kr kr kr rfl gE kr h (fun h=>?_)
   refine sz 1 11 (reg_end rfl ?_)
   refine wgc [0,1,5,6] [2] ⟨[(0,z1 p0),(1,z1 p1),(5,.ref 0 0 ((s1.2++([a6]:(List Int))).length)),(6,vI s1.1)],[oR true 1 eI (s1.2++([a6]:(List Int)))],24⟩ ?_
   refine rn ?_
   cases h
   exact ⟨_,rfl,(wk_gc (live:=[0,1,5,6]) (keep:=[0]) kr)⟩
  refine wcF (wg [5] [0] ?_)
  refine wp_exit ?_
  cases h
  exact ⟨kr,rfl⟩
 intro x9 h out hx
 subst hx
 refine sq (wg [4] [0] ?_)
 cases h
 exact wp_ret (show fnOut _ _ _ _=_ from by kernel_rfl)
theorem g_ref05_Cards_ok (p0:Tapi_Net) (x:(List Int)) (h:g_ref05_Cards p0=some x):CallOk Try.prog 78 [.agg [vI p0.Grain,eL false eTapi_Node p0.Nodes]] (.ret (.ref 0 0 x.length) [oR true 1 eI x]):=by
 refine fn_ok [] Try.func78 rfl (by decide +kernel) rfl ?_
 unfold g_ref05_Cards at h
 refine wp_eqB (base':=0) (st':=⟨[(0,.agg [vI p0.Grain,eL false eTapi_Node p0.Nodes])],[],22⟩) kr kr ?_
 refine wp_seq (reg_in ?_)
 refine sgL false [] [] false gE ?_
 refine sz 1 2 (reg_end rfl (sq (wp_seq (sq (wp_block ?_)))))
 refine wwh h (fun s1=>⟨[(1,.ptr 0 0 0),(3,.ref 1 0 s1.2.length),(4,vI s1.1)],[oX true false 2 (.agg [vI p0.Grain,eL false eTapi_Node p0.Nodes]),oR true 1 eI s1.2],22⟩) (fun v out=>out=.go (.exit 0) ⟨[(3,.ref 0 0 v.length)],[oR true 1 eI v],22⟩) (wk_trans (wk_gc (live:=[1,3,4]) (keep:=[0]) (st':=⟨[(1,.ptr 0 0 0),(3,.nils),(4,vI 0)],[oX true false 2 (.agg [vI p0.Grain,eL false eTapi_Node p0.Nodes])],22⟩) kr) (wk_trans (wk_nil 3 1 true true (st':=⟨[(1,.ptr 0 0 0),(3,.ref 1 0 0),(4,vI 0)],[oX true false 2 (.agg [vI p0.Grain,eL false eTapi_Node p0.Nodes]),.row false false true true 1 []],22⟩) kr) (wk_gc (live:=[1,3,4]) (keep:=[0,1]) kr))) ?_ ?_
 ·intro s1 o h
  unfold g_ref05_Cards_b0 at h
  refine wp_seq (wp_seq (reg_in (sz 3 3 ?_)))
  refine lenL (enc:=eTapi_Node) (l:=p0.Nodes) (fl:=false) kr gE ?_
  refine sz 1 5 (reg_end rfl ?_)
  refine wbz h (fun q3 h=>?_) (fun q3 h=>?_)
  ·refine wp_skip (wp_seq (wp_block (wg [1,3,4] [0,1] (reg_in (sz 4 4 ?_)))))
   refine bind_elim h (fun a4 q5 h=>?_)
   refine idxL' (enc:=eTapi_Node) (l:=p0.Nodes) (n:=s1.1) (fl:=false) (w:=3) (a:=a4) kr rfl gE q5 ?_
   refine sz 2 7 ?_
   refine sgL false [] [] true gE ?_
   refine appR (enc:=eI) (l:=s1.2) (m:=([a4.Card]:(List Int))) (w:=1) (bytes:=8) (ob:=1) (nr:=true) (fl:=true) (nr':=true) (fl':=true) (b:=.ref 2 0 1) (rds:=[2]) false kr kr kr rfl gE kr h (fun h=>?_)
   refine sz 1 10 (reg_end rfl ?_)
   refine wgc [1,3,4] [0,3] ⟨[(1,.ptr 0 0 0),(3,.ref 1 0 ((s1.2++([a4.Card]:(List Int))).length)),(4,vI s1.1)],[oX true false 2 (.agg [vI p0.Grain,eL false eTapi_Node p0.Nodes]),oR true 1 eI (s1.2++([a4.Card]:(List Int)))],22⟩ ?_
   refine rn ?_
   cases h
   exact ⟨_,rfl,(wk_gc (live:=[1,3,4]) (keep:=[0,1]) kr)⟩
  refine wg [3] [1] ?_
  refine wp_exit ?_
  cases h
  exact ⟨kr,rfl⟩
 intro x7 h out hx
 subst hx
 refine sq (wg [2] [0] ?_)
 cases h
 exact wp_ret (show fnOut _ _ _ _=_ from by kernel_rfl)
theorem g_ref05_ParentCards_ok (p0:Tapi_Net) (p1:Int) (x:(List Int)) (h:g_ref05_ParentCards p0 p1=some x):CallOk Try.prog 45 [.agg [vI p0.Grain,eL false eTapi_Node p0.Nodes],vI p1] (.ret (.ref 0 0 x.length) [oR true 1 eI x]):=by
 refine fn_ok [] Try.func45 rfl (by decide +kernel) rfl ?_
 unfold g_ref05_ParentCards at h
 refine wp_eqB (base':=0) (st':=⟨[(0,.agg [vI p0.Grain,eL false eTapi_Node p0.Nodes]),(1,vI p1)],[],14⟩) kr kr ?_
 refine wp_seq (reg_in ?_)
 refine sgL false [] [] false gE ?_
 refine sz 1 2 (reg_end rfl (wp_seq (rga hfol (sy 1 1 ?_))))
 refine callW bodyB_78 (fun x1 q2=>CallOk.froz (g_ref05_Cards_ok p0 x1 q2) (snap_full (w:=1) (bx:=false) (ro:=false) rfl)) h (fun x1 q2 h=>?_)
 refine sy 3 5 ?_
 refine bind_elim h (fun a3 q4 h=>?_)
 refine idxL' (enc:=eTapi_Node) (l:=p0.Nodes) (n:=p1) (fl:=false) (w:=3) (a:=a3) kr rfl gE q4 ?_
 refine sy 2 8 ?_
 refine callW bodyB_46 (g_ref02_At_ok x1 a3.Parents) h (fun x5 _ h=>?_)
 refine sy 1 10 (rgd ?_)
 refine wgc [4] [1] ⟨[(4,.ref 0 0 x5.length)],[oR true 1 eI x5],14⟩ ?_
 cases h
 exact wp_ret (show fnOut _ _ _ _=_ from by kernel_rfl)
theorem g_ref02_Draft_Cards_ok (p0:Tharuspexref02_Draft) (x:(List Int)) (h:g_ref02_Draft_Cards p0=some x):CallOk Try.prog 90 [.agg [eL true (AV.int .u8) p0.C,.int .u16 p0.Which,eL true (AV.int .u8) p0.Order]] (.ret (.ref 0 0 x.length) [oR true 1 eI x]):=by
 refine fn_ok [] Try.func90 rfl (by decide +kernel) rfl ?_
 unfold g_ref02_Draft_Cards at h
 refine wp_eqB (base':=0) (st':=⟨[(0,.agg [eL true (AV.int .u8) p0.C,.int .u16 p0.Which,eL true (AV.int .u8) p0.Order])],[],28⟩) kr kr ?_
 refine wp_seq (reg_in ?_)
 refine sgL false [] [] false gE ?_
 refine sz 1 2 (reg_end rfl (sq (wp_seq (sq (wp_block ?_)))))
 refine wwh h (fun s1=>⟨[(1,.ptr 0 0 0),(3,.ref 1 0 s1.2.length),(4,vI s1.1)],[oX true false 3 (.agg [eL true (AV.int .u8) p0.C,.int .u16 p0.Which,eL true (AV.int .u8) p0.Order]),oR true 1 eI s1.2],28⟩) (fun v out=>out=.go (.exit 0) ⟨[(3,.ref 0 0 v.length)],[oR true 1 eI v],28⟩) (wk_trans (wk_gc (live:=[1,3,4]) (keep:=[0]) (st':=⟨[(1,.ptr 0 0 0),(3,.nils),(4,vI 0)],[oX true false 3 (.agg [eL true (AV.int .u8) p0.C,.int .u16 p0.Which,eL true (AV.int .u8) p0.Order])],28⟩) kr) (wk_trans (wk_nil 3 1 true true (st':=⟨[(1,.ptr 0 0 0),(3,.ref 1 0 0),(4,vI 0)],[oX true false 3 (.agg [eL true (AV.int .u8) p0.C,.int .u16 p0.Which,eL true (AV.int .u8) p0.Order]),.row false false true true 1 []],28⟩) kr) (wk_gc (live:=[1,3,4]) (keep:=[0,1]) kr))) ?_ ?_
 ·intro s1 o h
  unfold g_ref02_Draft_Cards_b0 at h
  refine wp_seq (wp_seq (reg_in (sz 3 3 ?_)))
  refine lenL (enc:=(AV.int .u8)) (l:=p0.C) (fl:=true) kr gE ?_
  refine sz 2 6 (rwg [1,3,4,10] [0,1] ?_)
  refine rb [10] h (fun q3 h=>?_) (fun q3 h=>?_)
  ·refine sz 3 9 (reg_end rfl ?_)
   refine wb [12,13] h (fun q5 h=>?_) (fun q5 h=>?_)
   ·refine wcT (wp_skip (wp_seq (wp_block (reg_in (sz 4 4 ?_)))))
    refine bind_elim h (fun a6 q7 h=>?_)
    refine idxL' (enc:=(AV.int .u8)) (l:=p0.C) (n:=s1.1) (fl:=true) (w:=1) (a:=a6) kr rfl gE q7 ?_
    refine sz 4 9 ?_
    refine sgL false [] [] true gE ?_
    refine appR (enc:=eI) (l:=s1.2) (m:=([zw (1+(zw (Int.tmod a6 4)))]:(List Int))) (w:=1) (bytes:=8) (ob:=1) (nr:=true) (fl:=true) (nr':=true) (fl':=true) (b:=.ref 2 0 1) (rds:=[2]) false kr kr kr rfl gE kr h (fun h=>?_)
    refine sz 1 12 (reg_end rfl ?_)
    refine wgc [1,3,4] [0,3] ⟨[(1,.ptr 0 0 0),(3,.ref 1 0 ((s1.2++([zw (1+(zw (Int.tmod a6 4)))]:(List Int))).length)),(4,vI s1.1)],[oX true false 3 (.agg [eL true (AV.int .u8) p0.C,.int .u16 p0.Which,eL true (AV.int .u8) p0.Order]),oR true 1 eI (s1.2++([zw (1+(zw (Int.tmod a6 4)))]:(List Int)))],28⟩ ?_
    refine rn ?_
    cases h
    exact ⟨_,rfl,(wk_gc (live:=[1,3,4]) (keep:=[0,1]) kr)⟩
   refine wcF (wg [3] [1] ?_)
   refine wp_exit ?_
   cases h
   exact ⟨kr,rfl⟩
  refine sz 3 9 (reg_end rfl (wcF (wg [3] [1] ?_)))
  refine wp_exit ?_
  cases h
  exact ⟨kr,rfl⟩
 intro x9 h out hx
 subst hx
 refine sq (wg [2] [0] ?_)
 cases h
 exact wp_ret (show fnOut _ _ _ _=_ from by kernel_rfl)
theorem g_ref02_Draft_Permutation_ok (p0:Tharuspexref02_Draft) (x:(List Int)) (h:g_ref02_Draft_Permutation p0=some x):CallOk Try.prog 61 [.agg [eL true (AV.int .u8) p0.C,.int .u16 p0.Which,eL true (AV.int .u8) p0.Order]] (.ret (.ref 0 0 x.length) [oR true 1 eI x]):=by
 refine fn_ok [] Try.func61 rfl (by decide +kernel) rfl ?_
 unfold g_ref02_Draft_Permutation at h
 refine wp_eqB (base':=0) (st':=⟨[(0,.agg [eL true (AV.int .u8) p0.C,.int .u16 p0.Which,eL true (AV.int .u8) p0.Order])],[],42⟩) kr kr ?_
 refine wp_seq (reg_in ?_)
 refine sgL false [] [] false gE ?_
 refine sz 1 2 (reg_end rfl (sq (wp_seq (sq (wp_block ?_)))))
 refine wwh h (fun s1=>⟨[(1,.ptr 0 0 0),(3,.ref 1 0 s1.2.length),(4,vI s1.1)],[oX true false 3 (.agg [eL true (AV.int .u8) p0.C,.int .u16 p0.Which,eL true (AV.int .u8) p0.Order]),oR true 1 eI s1.2],42⟩) (fun v out=>out=.go (.exit 0) ⟨[(3,.ref 0 0 v.length)],[oR true 1 eI v],42⟩) (wk_trans (wk_gc (live:=[1,3,4]) (keep:=[0]) (st':=⟨[(1,.ptr 0 0 0),(3,.nils),(4,vI 0)],[oX true false 3 (.agg [eL true (AV.int .u8) p0.C,.int .u16 p0.Which,eL true (AV.int .u8) p0.Order])],42⟩) kr) (wk_trans (wk_nil 3 1 true true (st':=⟨[(1,.ptr 0 0 0),(3,.ref 1 0 0),(4,vI 0)],[oX true false 3 (.agg [eL true (AV.int .u8) p0.C,.int .u16 p0.Which,eL true (AV.int .u8) p0.Order]),.row false false true true 1 []],42⟩) kr) (wk_gc (live:=[1,3,4]) (keep:=[0,1]) kr))) ?_ ?_
 ·intro s1 o h
  unfold g_ref02_Draft_Permutation_b0 at h
  refine wp_seq (wp_seq (reg_in (sz 2 2 ?_)))
  refine callW bodyB_90 (g_ref02_Draft_Cards_ok p0) h (fun x2 _ h=>?_)
  refine sz 2 5 (reg_end rfl ?_)
  refine wbz h (fun q5 h=>?_) (fun q5 h=>?_)
  ·refine wp_skip (wp_seq (wp_block (wp_seq (wg [1,3,4] [0,1] (rn (wp_seq (wp_seq (reg_in (sz 3 3 ?_)))))))))
   refine lenL (enc:=(AV.int .u8)) (l:=p0.Order) (fl:=true) kr gE ?_
   refine sz 1 5 (reg_end rfl ?_)
   refine wbz h (fun q7 h=>?_) (fun q7 h=>?_)
   ·refine wgc [1,3,4] [0,1] ⟨[(1,.ptr 0 0 0),(3,.ref 1 0 s1.2.length),(4,vI s1.1)],[oX true false 3 (.agg [eL true (AV.int .u8) p0.C,.int .u16 p0.Which,eL true (AV.int .u8) p0.Order]),oR true 1 eI s1.2],42⟩ ?_
    refine reg_in (sz 3 3 ?_)
    refine bind_elim h (fun a8 q9 h=>?_)
    refine idxL' (enc:=(AV.int .u8)) (l:=p0.Order) (n:=s1.1) (fl:=true) (w:=1) (a:=a8) kr rfl gE q9 ?_
    refine sz 4 8 ?_
    refine remR (k:=.i64) (a:=zw (a8)) (b:=zw (s1.1+1)) kr gE h (fun h=>?_)
    refine sz 1 10 (reg_end rfl (wp_seq (wg [1,3,4,5] [0,1] (rn (wp_seq (reg_in (sz 3 3 ?_)))))))
    refine sliceP (enc:=eI) (l:=s1.2) (ob:=1) (ro:=false) (nr:=true) (fl:=true) (lo:=none) (hi:=(some (vI (Int.tmod (zw (a8)) (zw (s1.1+1)))))) (a:=0) (b:=Int.tmod (zw (a8)) (zw (s1.1+1))) (w:=1) kr kr rfl rfl gE h (fun q10 h=>?_)
    refine appN (enc:=eI) (m:=(sub s1.2 0 (Int.tmod (zw (a8)) (zw (s1.1+1))))) (w:=1) (bytes:=8) (nr':=true) (fl':=true) (a:=.nils) (b:=.ref 1 0 (zt (Int.tmod (zw (a8)) (zw (s1.1+1))) - zt (0:Int))) (rds:=[1]) false kr (.inl rfl) (elems_part (a:=0) (b:=Int.tmod (zw (a8)) (zw (s1.1+1))) (ro:=false) kr q10) rfl gE kr h (fun h=>?_)
    refine sz 1 6 ?_
    refine sgL false [] [] true gE ?_
    refine appR (enc:=eI) (l:=(sub s1.2 0 (Int.tmod (zw (a8)) (zw (s1.1+1))))) (m:=([s1.1]:(List Int))) (w:=1) (bytes:=8) (ob:=2) (nr:=true) (fl:=true) (nr':=true) (fl':=true) (b:=.ref 3 0 1) (rds:=[3]) false kr kr kr rfl gE kr h (fun h=>?_)
    refine sz 1 9 (reg_end rfl ?_)
    refine wgc [1,3,4,5,6] [0,1,4] ⟨[(1,.ptr 0 0 0),(3,.ref 1 0 s1.2.length),(4,vI s1.1),(5,vI (Int.tmod (zw (a8)) (zw (s1.1+1)))),(6,.ref 2 0 (((sub s1.2 0 (Int.tmod (zw (a8)) (zw (s1.1+1))))++([s1.1]:(List Int))).length))],[oX true false 3 (.agg [eL true (AV.int .u8) p0.C,.int .u16 p0.Which,eL true (AV.int .u8) p0.Order]),oR true 1 eI s1.2,oR true 1 eI ((sub s1.2 0 (Int.tmod (zw (a8)) (zw (s1.1+1))))++([s1.1]:(List Int)))],42⟩ ?_
    refine reg_in (sz 3 3 ?_)
    refine sliceP (enc:=eI) (l:=s1.2) (ob:=1) (ro:=false) (nr:=true) (fl:=true) (lo:=(some (vI (Int.tmod (zw (a8)) (zw (s1.1+1)))))) (hi:=none) (a:=Int.tmod (zw (a8)) (zw (s1.1+1))) (b:=(zn s1.2)) (w:=1) kr kr rfl rfl gE h (fun q11 h=>?_)
    refine appR (enc:=eI) (l:=((sub s1.2 0 (Int.tmod (zw (a8)) (zw (s1.1+1))))++([s1.1]:(List Int)))) (m:=(sub s1.2 (Int.tmod (zw (a8)) (zw (s1.1+1))) (zn s1.2))) (w:=1) (bytes:=8) (ob:=2) (nr:=true) (fl:=true) (nr':=true) (fl':=true) (b:=.ref 1 (zt (Int.tmod (zw (a8)) (zw (s1.1+1)))) (zt (zn s1.2) - zt (Int.tmod (zw (a8)) (zw (s1.1+1))))) (rds:=[1]) false kr kr (elems_part (a:=Int.tmod (zw (a8)) (zw (s1.1+1))) (b:=(zn s1.2)) (ro:=false) kr q11) rfl gE kr h (fun h=>?_)
    refine sz 1 6 (reg_end rfl (wg [1,3,4] [0,3] (rn ?_)))
    cases h
    exact ⟨_,rfl,(wk_gc (live:=[1,3,4]) (keep:=[0,1]) kr)⟩
   refine wp_skip (wp_seq ?_)
   refine wgc [1,3,4,5] [0,1] ⟨[(1,.ptr 0 0 0),(3,.ref 1 0 s1.2.length),(4,vI s1.1),(5,vI 0)],[oX true false 3 (.agg [eL true (AV.int .u8) p0.C,.int .u16 p0.Which,eL true (AV.int .u8) p0.Order]),oR true 1 eI s1.2],42⟩ ?_
   refine rn (wp_seq (reg_in (sz 3 3 ?_)))
   refine sliceP (enc:=eI) (l:=s1.2) (ob:=1) (ro:=false) (nr:=true) (fl:=true) (lo:=none) (hi:=(some (vI 0))) (a:=0) (b:=0) (w:=1) kr kr rfl rfl gE h (fun q12 h=>?_)
   refine appN (enc:=eI) (m:=(sub s1.2 0 0)) (w:=1) (bytes:=8) (nr':=true) (fl':=true) (a:=.nils) (b:=.ref 1 0 0) (rds:=[1]) false kr (.inl rfl) (elems_part (a:=0) (b:=0) (ro:=false) kr q12) rfl gE kr h (fun h=>?_)
   refine sz 1 6 ?_
   refine sgL false [] [] true gE ?_
   refine appR (enc:=eI) (l:=(sub s1.2 0 0)) (m:=([s1.1]:(List Int))) (w:=1) (bytes:=8) (ob:=2) (nr:=true) (fl:=true) (nr':=true) (fl':=true) (b:=.ref 3 0 1) (rds:=[3]) false kr kr kr rfl gE kr h (fun h=>?_)
   refine sz 1 9 (reg_end rfl (wg [1,3,4,5,6] [0,1,4] (reg_in (sz 3 3 ?_))))
   refine sliceP (enc:=eI) (l:=s1.2) (ob:=1) (ro:=false) (nr:=true) (fl:=true) (lo:=(some (vI 0))) (hi:=none) (a:=0) (b:=(zn s1.2)) (w:=1) kr kr rfl rfl gE h (fun q13 h=>?_)
   refine appR (enc:=eI) (l:=((sub s1.2 0 0)++([s1.1]:(List Int)))) (m:=(sub s1.2 0 (zn s1.2))) (w:=1) (bytes:=8) (ob:=2) (nr:=true) (fl:=true) (nr':=true) (fl':=true) (b:=.ref 1 0 (zt (zn s1.2) - zt (0:Int))) (rds:=[1]) false kr kr (elems_part (a:=0) (b:=(zn s1.2)) (ro:=false) kr q13) rfl gE kr h (fun h=>?_)
   refine sz 1 6 (reg_end rfl ?_)
   refine wgc [1,3,4] [0,3] ⟨[(1,.ptr 0 0 0),(3,.ref 1 0 ((((sub s1.2 0 0)++([s1.1]:(List Int)))++(sub s1.2 0 (zn s1.2))).length)),(4,vI s1.1)],[oX true false 3 (.agg [eL true (AV.int .u8) p0.C,.int .u16 p0.Which,eL true (AV.int .u8) p0.Order]),oR true 1 eI (((sub s1.2 0 0)++([s1.1]:(List Int)))++(sub s1.2 0 (zn s1.2)))],42⟩ ?_
   refine rn ?_
   cases h
   exact ⟨_,rfl,(wk_gc (live:=[1,3,4]) (keep:=[0,1]) kr)⟩
  refine wg [3] [1] ?_
  refine wp_exit ?_
  cases h
  exact ⟨kr,rfl⟩
 intro x15 h out hx
 subst hx
 refine sq (wg [2] [0] ?_)
 cases h
 exact wp_ret (show fnOut _ _ _ _=_ from by kernel_rfl)
theorem g_ref02_Size_ok (p0:(List Int)) (x:Int) (h:g_ref02_Size p0=some x):CallOk Try.prog 62 [z1 p0] (.ret (vI x) []):=by
 refine fn_ok [] Try.func62 rfl (by decide +kernel) rfl ?_
 unfold g_ref02_Size at h
 refine wp_eqB (base':=0) (st':=⟨[(0,z1 p0)],[],18⟩) kr kr ?_
 refine sq (sq (wp_seq (sq (wp_block ?_))))
 refine wwh h (fun s1=>⟨[(0,z1 p0),(3,vI s1.1),(4,vI s1.2)],[],18⟩) (fun v out=>out=.go (.exit 0) ⟨[(3,vI v)],[],18⟩) (wk_gc (live:=[0,3,4]) (keep:=[]) kr) ?_ ?_
 ·intro s1 o h
  unfold g_ref02_Size_b0 at h
  refine wp_seq (wp_seq (reg_in (sz 2 2 ?_)))
  refine lenL (enc:=eI) (l:=p0) (fl:=true) kr gE ?_
  refine sz 1 4 (reg_end rfl ?_)
  refine wb [8] h (fun q3 h=>?_) (fun q3 h=>?_)
  ·refine wcT (wp_skip (wp_seq (wp_block (reg_in (sz 3 3 ?_)))))
   refine bind_elim h (fun a4 q5 h=>?_)
   refine idxL' (enc:=eI) (l:=p0) (n:=s1.2) (fl:=true) (w:=1) (a:=a4) kr rfl gE q5 ?_
   refine sz 3 7 (reg_end rfl ?_)
   refine wgc [0,3,4] [] ⟨[(0,z1 p0),(3,vI (zw (s1.1*a4))),(4,vI s1.2)],[],18⟩ ?_
   refine rn ?_
   cases h
   exact ⟨_,rfl,(wk_gc (live:=[0,3,4]) (keep:=[]) kr)⟩
  refine wcF (wg [3] [] ?_)
  refine wp_exit ?_
  cases h
  exact ⟨kr,rfl⟩
 intro x7 h out hx
 subst hx
 refine sq (wg [2] [] ?_)
 cases h
 exact wp_ret (show fnOut _ _ _ _=_ from by kernel_rfl)
theorem g_ref05_row_ok (p0:Int) (p1:Int) (p2:(List Int)) (p3:Int) (x:(List Int)) (h:g_ref05_row p0 p1 p2 p3=some x):CallOk Try.prog 63 [vI p0,vI p1,eL true (AV.int .u8) p2,vI p3] (.ret (.ref 0 0 x.length) [oR true 1 eI x]):=by
 refine fn_ok [] Try.func63 rfl (by decide +kernel) rfl ?_
 unfold g_ref05_row at h
 refine wp_eqB (base':=0) (st':=⟨[(0,vI p0),(1,vI p1),(2,eL true (AV.int .u8) p2),(3,vI p3)],[],84⟩) kr kr ?_
 refine sq (wp_seq (reg_in (sz 1 1 ?_)))
 refine mkL (enc:=eI) (z:=(0:Int)) (z0:=vI 0) (n:=p1) (m:=p1) (w:=1) (bytes:=8) [] true kr rfl gE kr h (fun h=>?_)
 refine sz 1 3 (reg_end rfl (sq (wp_seq (sq (wp_block ?_)))))
 refine wwh h (fun s1=>⟨[(0,vI p0),(1,vI p1),(2,eL true (AV.int .u8) p2),(3,vI p3),(9,.ref 0 0 s1.2.2.length),(10,vI s1.1),(11,vI s1.2.1)],[oR true 1 eI s1.2.2],84⟩) (fun v out=>out=.go (.exit 0) ⟨[(0,vI p0),(1,vI p1),(9,.ref 0 0 v.2.length),(10,vI v.1)],[oR true 1 eI v.2],84⟩) (wk_gc (live:=[0,1,2,3,9,10,11]) (keep:=[0]) kr) ?_ ?_
 ·intro s1 o h
  unfold g_ref05_row_b0 at h
  refine wp_seq (sq ?_)
  refine wb [19] h (fun q3 h=>?_) (fun q3 h=>?_)
  ·refine wcT (wp_skip (wp_seq (wp_block (wp_seq (wp_seq (reg_in (sz 1 1 ?_)))))))
   refine lenL (enc:=(AV.int .u8)) (l:=p2) (fl:=true) kr gE ?_
   refine sz 1 3 (reg_end rfl ?_)
   refine wbz h (fun q5 h=>?_) (fun q5 h=>?_)
   ·refine wg [0,1,2,3,9,10,11] [0] (reg_in (sz 7 7 ?_))
    refine lenL (enc:=(AV.int .u8)) (l:=p2) (fl:=true) kr gE ?_
    refine remR (k:=.i64) (a:=zw (p3+s1.2.1)) (b:=(zn p2)) kr gE h (fun h=>?_)
    refine bind_elim h (fun a6 q7 h=>?_)
    refine idxL' (enc:=(AV.int .u8)) (l:=p2) (n:=Int.tmod (zw (p3+s1.2.1)) (zn p2)) (fl:=true) (w:=1) (a:=a6) kr rfl gE q7 ?_
    refine sz 3 13 ?_
    refine bind_elim h (fun a8 q9 h=>?_)
    refine idxR' (enc:=eI) (l:=s1.2.2) (n:=s1.2.1) (w:=1) (ob:=0) (ro:=false) (nr:=true) (fl:=true) (a:=a8) kr kr gE q9 ?_
    refine storeR (enc:=eI) (l:=s1.2.2) (n:=s1.2.1) (ob:=0) (w:=1) (bx:=false) (nr:=true) (fl:=true) (c:=0) (a:=a8) (a':=zw (Int.tmod a6 8)) (v:=vI (zw (Int.tmod a6 8))) false kr kr q9 kr rfl kr gE kr ?_
    refine rl [9,25] (n:=s1.2.2.length) (m:=(List.set s1.2.2 (zt s1.2.1) (zw (Int.tmod a6 8))).length) (by simp only [List.length_set]) ?_
    refine reg_end rfl ?_
    refine wgc [0,1,2,3,9,10,11] [0] ⟨[(0,vI p0),(1,vI p1),(2,eL true (AV.int .u8) p2),(3,vI p3),(9,.ref 0 0 ((List.set s1.2.2 (zt s1.2.1) (zw (Int.tmod a6 8))).length)),(10,vI s1.1),(11,vI s1.2.1)],[oR true 1 eI (List.set s1.2.2 (zt s1.2.1) (zw (Int.tmod a6 8)))],84⟩ ?_
    refine reg_in (sz 3 3 ?_)
    refine idxR' (enc:=eI) (l:=(List.set s1.2.2 (zt s1.2.1) (zw (Int.tmod a6 8)))) (n:=s1.2.1) (w:=1) (ob:=0) (ro:=false) (nr:=true) (fl:=true) (a:=(zw (Int.tmod a6 8))) kr kr gE (lkI_set (zw (Int.tmod a6 8)) q9) ?_
    refine loadR (enc:=eI) (l:=(List.set s1.2.2 (zt s1.2.1) (zw (Int.tmod a6 8)))) (n:=s1.2.1) (w:=1) (ob:=0) (c:=0) (bx:=false) (ro:=false) (nr:=true) (fl:=true) (a:=(zw (Int.tmod a6 8))) kr kr (lkI_set (zw (Int.tmod a6 8)) q9) gE ?_
    refine sz 2 7 (reg_end rfl (wg [0,1,2,3,9,10,11] [0] (rn ?_)))
    cases h
    exact ⟨_,rfl,(wk_gc (live:=[0,1,2,3,9,10,11]) (keep:=[0]) kr)⟩
   refine wp_skip ?_
   refine wgc [0,1,2,3,9,10,11] [0] ⟨[(0,vI p0),(1,vI p1),(2,eL true (AV.int .u8) p2),(3,vI p3),(9,.ref 0 0 s1.2.2.length),(10,vI s1.1),(11,vI s1.2.1)],[oR true 1 eI s1.2.2],84⟩ ?_
   refine reg_in (sz 3 3 ?_)
   refine bind_elim h (fun a11 q12 h=>?_)
   refine idxR' (enc:=eI) (l:=s1.2.2) (n:=s1.2.1) (w:=1) (ob:=0) (ro:=false) (nr:=true) (fl:=true) (a:=a11) kr kr gE q12 ?_
   refine loadR (enc:=eI) (l:=s1.2.2) (n:=s1.2.1) (w:=1) (ob:=0) (c:=0) (bx:=false) (ro:=false) (nr:=true) (fl:=true) (a:=a11) kr kr q12 gE ?_
   refine sz 2 7 (reg_end rfl (wg [0,1,2,3,9,10,11] [0] (rn ?_)))
   cases h
   exact ⟨_,rfl,(wk_gc (live:=[0,1,2,3,9,10,11]) (keep:=[0]) kr)⟩
  refine wcF (wg [0,1,9,10] [0] ?_)
  refine wp_exit ?_
  cases h
  exact ⟨kr,rfl⟩
 intro x14 h out hx
 subst hx
 refine sq (wp_seq (sq (wp_block ?_)))
 refine wwh h (fun s15=>⟨[(0,vI p0),(1,vI p1),(9,.ref 0 0 s15.2.2.2.length),(10,vI x14.1),(12,vI s15.1),(13,vI s15.2.1),(14,vI s15.2.2.1)],[oR true 1 eI s15.2.2.2],84⟩) (fun v out=>out=.go (.exit 2) ⟨[(9,.ref 0 0 v.2.2.length),(12,vI v.1),(13,vI v.2.1)],[oR true 1 eI v.2.2],84⟩) (wk_gc (live:=[0,1,9,10,12,13,14]) (keep:=[0]) kr) ?_ ?_
 ·intro s15 o h
  unfold g_ref05_row_b1 at h
  refine wp_seq (sq ?_)
  refine wb [48] h (fun q17 h=>?_) (fun q17 h=>?_)
  ·refine wcT (wp_skip (wp_seq (wp_block (wp_seq (wp_seq (reg_in (sz 2 2 ?_)))))))
   refine bind_elim h (fun a18 q19 h=>?_)
   refine idxR' (enc:=eI) (l:=s15.2.2.2) (n:=s15.2.2.1) (w:=1) (ob:=0) (ro:=false) (nr:=true) (fl:=true) (a:=a18) kr kr gE q19 ?_
   refine loadR (enc:=eI) (l:=s15.2.2.2) (n:=s15.2.2.1) (w:=1) (ob:=0) (c:=0) (bx:=false) (ro:=false) (nr:=true) (fl:=true) (a:=a18) kr kr q19 gE ?_
   refine sz 1 5 (reg_end rfl ?_)
   refine wbz h (fun q21 h=>?_) (fun q21 h=>?_)
   ·refine wp_seq ?_
    refine wgc [0,1,9,10,12,14] [0] ⟨[(0,vI p0),(1,vI p1),(9,.ref 0 0 s15.2.2.2.length),(10,vI x14.1),(12,vI s15.1),(14,vI s15.2.2.1)],[oR true 1 eI s15.2.2.2],84⟩ ?_
    refine reg_in (sz 5 5 ?_)
    refine idxR' (enc:=eI) (l:=s15.2.2.2) (n:=s15.2.2.1) (w:=1) (ob:=0) (ro:=false) (nr:=true) (fl:=true) (a:=a18) kr kr gE q19 ?_
    refine loadR (enc:=eI) (l:=s15.2.2.2) (n:=s15.2.2.1) (w:=1) (ob:=0) (c:=0) (bx:=false) (ro:=false) (nr:=true) (fl:=true) (a:=a18) kr kr q19 gE ?_
    refine sz 2 9 ?_
    refine quoR (k:=.i64) (a:=zw (p0*a18)) (b:=x14.1) kr gE h (fun h=>?_)
    refine idxR' (enc:=eI) (l:=s15.2.2.2) (n:=s15.2.2.1) (w:=1) (ob:=0) (ro:=false) (nr:=true) (fl:=true) (a:=a18) kr kr gE q19 ?_
    refine storeR (enc:=eI) (l:=s15.2.2.2) (n:=s15.2.2.1) (ob:=0) (w:=1) (bx:=false) (nr:=true) (fl:=true) (c:=0) (a:=a18) (a':=zw (Int.tdiv (zw (p0*a18)) x14.1)) (v:=vI (zw (Int.tdiv (zw (p0*a18)) x14.1))) false kr kr q19 kr rfl kr gE kr ?_
    refine rl [9,56,59] (n:=s15.2.2.2.length) (m:=(List.set s15.2.2.2 (zt s15.2.2.1) (zw (Int.tdiv (zw (p0*a18)) x14.1))).length) (by simp only [List.length_set]) ?_
    refine reg_end rfl (wg [0,1,9,10,12,14] [0] (rn (reg_in (sz 3 3 ?_))))
    refine idxR' (enc:=eI) (l:=(List.set s15.2.2.2 (zt s15.2.2.1) (zw (Int.tdiv (zw (p0*a18)) x14.1)))) (n:=s15.2.2.1) (w:=1) (ob:=0) (ro:=false) (nr:=true) (fl:=true) (a:=(zw (Int.tdiv (zw (p0*a18)) x14.1))) kr kr gE (lkI_set (zw (Int.tdiv (zw (p0*a18)) x14.1)) q19) ?_
    refine loadR (enc:=eI) (l:=(List.set s15.2.2.2 (zt s15.2.2.1) (zw (Int.tdiv (zw (p0*a18)) x14.1)))) (n:=s15.2.2.1) (w:=1) (ob:=0) (c:=0) (bx:=false) (ro:=false) (nr:=true) (fl:=true) (a:=(zw (Int.tdiv (zw (p0*a18)) x14.1))) kr kr (lkI_set (zw (Int.tdiv (zw (p0*a18)) x14.1)) q19) gE ?_
    refine sz 2 7 (reg_end rfl ?_)
    refine wgc [0,1,9,10,12,14,13] [0] ⟨[(0,vI p0),(1,vI p1),(9,.ref 0 0 ((List.set s15.2.2.2 (zt s15.2.2.1) (zw (Int.tdiv (zw (p0*a18)) x14.1))).length)),(10,vI x14.1),(12,vI (zw (s15.1 - (zw (Int.tdiv (zw (p0*a18)) x14.1))))),(14,vI s15.2.2.1),(13,vI s15.2.2.1)],[oR true 1 eI (List.set s15.2.2.2 (zt s15.2.2.1) (zw (Int.tdiv (zw (p0*a18)) x14.1)))],84⟩ ?_
    refine rn ?_
    cases h
    exact ⟨_,rfl,(wk_gc (live:=[0,1,9,10,12,13,14]) (keep:=[0]) kr)⟩
   refine wp_skip ?_
   refine wgc [0,1,9,10,12,13,14] [0] ⟨[(0,vI p0),(1,vI p1),(9,.ref 0 0 s15.2.2.2.length),(10,vI x14.1),(12,vI s15.1),(13,vI s15.2.1),(14,vI s15.2.2.1)],[oR true 1 eI s15.2.2.2],84⟩ ?_
   refine reg_in (sz 3 3 ?_)
   refine idxR' (enc:=eI) (l:=s15.2.2.2) (n:=s15.2.2.1) (w:=1) (ob:=0) (ro:=false) (nr:=true) (fl:=true) (a:=a18) kr kr gE q19 ?_
   refine loadR (enc:=eI) (l:=s15.2.2.2) (n:=s15.2.2.1) (w:=1) (ob:=0) (c:=0) (bx:=false) (ro:=false) (nr:=true) (fl:=true) (a:=a18) kr kr q19 gE ?_
   refine sz 2 7 (reg_end rfl (wg [0,1,9,10,12,13,14] [0] (rn ?_)))
   cases h
   exact ⟨_,rfl,(wk_gc (live:=[0,1,9,10,12,13,14]) (keep:=[0]) kr)⟩
  refine wcF (wg [9,12,13] [0] ?_)
  refine wp_exit ?_
  cases h
  exact ⟨kr,rfl⟩
 intro x24 h out hx
 subst hx
 refine wp_seq (reg_in (sz 4 4 ?_))
 refine bind_elim h (fun a25 q26 h=>?_)
 refine idxR' (enc:=eI) (l:=x24.2.2) (n:=x24.2.1) (w:=1) (ob:=0) (ro:=false) (nr:=true) (fl:=true) (a:=a25) kr kr gE q26 ?_
 refine loadR (enc:=eI) (l:=x24.2.2) (n:=x24.2.1) (w:=1) (ob:=0) (c:=0) (bx:=false) (ro:=false) (nr:=true) (fl:=true) (a:=a25) kr kr q26 gE ?_
 refine sz 2 8 ?_
 refine idxR' (enc:=eI) (l:=x24.2.2) (n:=x24.2.1) (w:=1) (ob:=0) (ro:=false) (nr:=true) (fl:=true) (a:=a25) kr kr gE q26 ?_
 refine storeR (enc:=eI) (l:=x24.2.2) (n:=x24.2.1) (ob:=0) (w:=1) (bx:=false) (nr:=true) (fl:=true) (c:=0) (a:=a25) (a':=zw (a25+x24.1)) (v:=vI (zw (a25+x24.1))) false kr kr q26 kr rfl kr gE kr ?_
 refine rl [9,74,76] (n:=x24.2.2.length) (m:=(List.set x24.2.2 (zt x24.2.1) (zw (a25+x24.1))).length) (by simp only [List.length_set]) ?_
 refine reg_end rfl (wp_seq (wg [9] [0] (rn ?_)))
 refine wgc [8] [0] ⟨[(8,.ref 0 0 ((List.set x24.2.2 (zt x24.2.1) (zw (a25+x24.1))).length))],[oR true 1 eI (List.set x24.2.2 (zt x24.2.1) (zw (a25+x24.1)))],84⟩ ?_
 cases h
 exact wp_ret (show fnOut _ _ _ _=_ from by kernel_rfl)
end Go.Ab
