/- What functions compute. No conditions. -/
import Derived.Test.YtebpheijhmlpjaaProg
import Derived.Test.YtebpheijhmlpjaaW9
import Derived.KernelRfl
import Derived.Test.YtebpheijhmlpjaaW10
set_option linter.all false
namespace Go.Ab
open Go Go.Proofs
set_option maxRecDepth 100000
set_option maxHeartbeats 4000000
noncomputable abbrev s17_5 (p2:Int) (x1:(Tpath_searcher × Int)):List AObj:=[oX true true 1 (vI p2),oX true false 5 (.agg [vI x1.1.Hidden.Grain,z1 x1.1.Hidden.First,z2 x1.1.Hidden.Step,z2 x1.1.Hidden.Show,z1 x1.1.seen])]
noncomputable abbrev s17_10 (x1:(Tpath_searcher × Int)):List (Nat × AV):=[(0,.agg [vI x1.1.Hidden.Grain,z1 x1.1.Hidden.First,z2 x1.1.Hidden.Step,z2 x1.1.Hidden.Show,z1 x1.1.seen]),(1,.agg [.ref 3 0 1,.nils,.fn (.func 43) [] [.ptr 2 0 0,.ptr 0 0 0],.fn (.func 46) [] []])]
noncomputable abbrev s17_37 (p2:Int) (x1:(Tpath_searcher × Int)) (s19:(Int × (List (List (List Tpath_weighed))))):List AObj:=[.row true true true true 1 [vI p2],oX true false 5 (.agg [vI x1.1.Hidden.Grain,z1 x1.1.Hidden.First,z2 x1.1.Hidden.Step,z2 x1.1.Hidden.Show,z1 x1.1.seen]),.row true true true false 1 [.fn (.func 39) [] []],.row false true true false 2 [.agg [vI 1,.lst true []]],oX true false 5 (.agg [vI x1.1.Hidden.Grain,z1 x1.1.Hidden.First,z2 x1.1.Hidden.Step,z2 x1.1.Hidden.Show,z1 x1.1.seen]),oX false false 4 (.agg [.ref 3 0 1,.nils,.fn (.func 43) [] [.ptr 2 0 0,.ptr 0 0 0],.fn (.func 46) [] []]),.refs 7 (eF (eL false eTpath_weighed) s19.2),.fam 1 false (eF (eL false eTpath_weighed) s19.2)]
noncomputable abbrev s17_60 (p2:Int) (x1:(Tpath_searcher × Int)) (s43:(Int × (List (List (List Tpath_weighed))))):List AObj:=[.row true true true true 1 [vI p2],oX true false 5 (.agg [vI x1.1.Hidden.Grain,z1 x1.1.Hidden.First,z2 x1.1.Hidden.Step,z2 x1.1.Hidden.Show,z1 x1.1.seen]),.row true true true false 1 [.fn (.func 39) [] []],.row false true true false 2 [.agg [vI 1,.lst true []]],oX true false 5 (.agg [vI x1.1.Hidden.Grain,z1 x1.1.Hidden.First,z2 x1.1.Hidden.Step,z2 x1.1.Hidden.Show,z1 x1.1.seen]),oX false false 4 (.agg [.ref 3 0 1,.nils,.fn (.func 43) [] [.ptr 2 0 0,.ptr 0 0 0],.fn (.func 46) [] []]),.refs 7 (eF (eL false eTpath_weighed) s43.2),.fam 1 false (eF (eL false eTpath_weighed) s43.2)]
noncomputable abbrev s17_79 (p2:Int) (x1:(Tpath_searcher × Int)) (s14:(Int × (List (List (List Tpath_weighed))))):List AObj:=[.row true true true true 1 [vI p2],oX true false 5 (.agg [vI x1.1.Hidden.Grain,z1 x1.1.Hidden.First,z2 x1.1.Hidden.Step,z2 x1.1.Hidden.Show,z1 x1.1.seen]),.row true true true false 1 [.fn (.func 39) [] []],.row false true true false 2 [.agg [vI 1,.lst true []]],oX true false 5 (.agg [vI x1.1.Hidden.Grain,z1 x1.1.Hidden.First,z2 x1.1.Hidden.Step,z2 x1.1.Hidden.Show,z1 x1.1.seen]),oX false false 4 (.agg [.ref 3 0 1,.nils,.fn (.func 43) [] [.ptr 2 0 0,.ptr 0 0 0],.fn (.func 46) [] []]),.refs 7 (eF (eL false eTpath_weighed) s14.2),.fam 1 false (eF (eL false eTpath_weighed) s14.2)]
noncomputable abbrev s17_133 (p2:Int) (x1:(Tpath_searcher × Int)) (s19:(Int × (List (List (List Tpath_weighed))))) (s14:(Int × (List (List (List Tpath_weighed))))) (a37:(List (List Tpath_weighed))):List AObj:=[.row true true true true 1 [vI p2],oX true false 5 (.agg [vI x1.1.Hidden.Grain,z1 x1.1.Hidden.First,z2 x1.1.Hidden.Step,z2 x1.1.Hidden.Show,z1 x1.1.seen]),.row true true true false 1 [.fn (.func 39) [] []],.row false true true false 2 [.agg [vI 1,.lst true []]],oX true false 5 (.agg [vI x1.1.Hidden.Grain,z1 x1.1.Hidden.First,z2 x1.1.Hidden.Step,z2 x1.1.Hidden.Show,z1 x1.1.seen]),oX false false 4 (.agg [.ref 3 0 1,.nils,.fn (.func 43) [] [.ptr 2 0 0,.ptr 0 0 0],.fn (.func 46) [] []]),.row false false false false 1 ((famRefs 7 0 (eF (eL false eTpath_weighed) (List.set s19.2 (zt s14.1) ([]:List (List Tpath_weighed))))).set (zt s14.1) (.ref 8 0 a37.length)),.fam 1 false (eF (eL false eTpath_weighed) (List.set s19.2 (zt s14.1) ([]:List (List Tpath_weighed)))),oR false 1 (eL false eTpath_weighed) a37]
noncomputable abbrev s17_136 (p2:Int) (x1:(Tpath_searcher × Int)) (s19:(Int × (List (List (List Tpath_weighed))))) (s14:(Int × (List (List (List Tpath_weighed))))) (a37:(List (List Tpath_weighed))) (x36:(List Tpath_weighed)):List AObj:=[.row true true true true 1 [vI p2],oX true false 5 (.agg [vI x1.1.Hidden.Grain,z1 x1.1.Hidden.First,z2 x1.1.Hidden.Step,z2 x1.1.Hidden.Show,z1 x1.1.seen]),.row true true true false 1 [.fn (.func 39) [] []],.row false true true false 2 [.agg [vI 1,.lst true []]],oX true false 5 (.agg [vI x1.1.Hidden.Grain,z1 x1.1.Hidden.First,z2 x1.1.Hidden.Step,z2 x1.1.Hidden.Show,z1 x1.1.seen]),oX false false 4 (.agg [.ref 3 0 1,.nils,.fn (.func 43) [] [.ptr 2 0 0,.ptr 0 0 0],.fn (.func 46) [] []]),.refs 7 (eF (eL false eTpath_weighed) (List.set (List.set s19.2 (zt s14.1) ([]:List (List Tpath_weighed))) (zt s14.1) (a37++([x36]:(List (List Tpath_weighed)))))),.fam 1 false (eF (eL false eTpath_weighed) (List.set (List.set s19.2 (zt s14.1) ([]:List (List Tpath_weighed))) (zt s14.1) (a37++([x36]:(List (List Tpath_weighed)))))),.dead,.row false false true false 1 [eL false eTpath_weighed x36],.dead]
noncomputable abbrev s17_160 (p2:Int) (x1:(Tpath_searcher × Int)) (s43:(Int × (List (List (List Tpath_weighed))))) (s14:(Int × (List (List (List Tpath_weighed))))) (a61:(List (List Tpath_weighed))):List AObj:=[.row true true true true 1 [vI p2],oX true false 5 (.agg [vI x1.1.Hidden.Grain,z1 x1.1.Hidden.First,z2 x1.1.Hidden.Step,z2 x1.1.Hidden.Show,z1 x1.1.seen]),.row true true true false 1 [.fn (.func 39) [] []],.row false true true false 2 [.agg [vI 1,.lst true []]],oX true false 5 (.agg [vI x1.1.Hidden.Grain,z1 x1.1.Hidden.First,z2 x1.1.Hidden.Step,z2 x1.1.Hidden.Show,z1 x1.1.seen]),oX false false 4 (.agg [.ref 3 0 1,.nils,.fn (.func 43) [] [.ptr 2 0 0,.ptr 0 0 0],.fn (.func 46) [] []]),.row false false false false 1 ((famRefs 7 0 (eF (eL false eTpath_weighed) (List.set s43.2 (zt s14.1) ([]:List (List Tpath_weighed))))).set (zt s14.1) (.ref 8 0 a61.length)),.fam 1 false (eF (eL false eTpath_weighed) (List.set s43.2 (zt s14.1) ([]:List (List Tpath_weighed)))),oR false 1 (eL false eTpath_weighed) a61]
noncomputable abbrev s17_163 (p2:Int) (x1:(Tpath_searcher × Int)) (s43:(Int × (List (List (List Tpath_weighed))))) (s14:(Int × (List (List (List Tpath_weighed))))) (a61:(List (List Tpath_weighed))) (x60:(List Tpath_weighed)):List AObj:=[.row true true true true 1 [vI p2],oX true false 5 (.agg [vI x1.1.Hidden.Grain,z1 x1.1.Hidden.First,z2 x1.1.Hidden.Step,z2 x1.1.Hidden.Show,z1 x1.1.seen]),.row true true true false 1 [.fn (.func 39) [] []],.row false true true false 2 [.agg [vI 1,.lst true []]],oX true false 5 (.agg [vI x1.1.Hidden.Grain,z1 x1.1.Hidden.First,z2 x1.1.Hidden.Step,z2 x1.1.Hidden.Show,z1 x1.1.seen]),oX false false 4 (.agg [.ref 3 0 1,.nils,.fn (.func 43) [] [.ptr 2 0 0,.ptr 0 0 0],.fn (.func 46) [] []]),.refs 7 (eF (eL false eTpath_weighed) (List.set (List.set s43.2 (zt s14.1) ([]:List (List Tpath_weighed))) (zt s14.1) (a61++([x60]:(List (List Tpath_weighed)))))),.fam 1 false (eF (eL false eTpath_weighed) (List.set (List.set s43.2 (zt s14.1) ([]:List (List Tpath_weighed))) (zt s14.1) (a61++([x60]:(List (List Tpath_weighed)))))),.dead,.row false false true false 1 [eL false eTpath_weighed x60],.dead]
theorem g_path_Most_ok (p0:Tapi_Hidden) (p1:(List Int)) (p2:Int) (x:((List (List Int)) × (List Int) × Int)) (h:g_path_Most p0 p1 p2=some x):CallOk Try.prog 17 [.agg [vI p0.Grain,z1 p0.First,z2 p0.Step,z2 p0.Show],z1 p1,vI p2] (.ret (.tup [.ref 0 0 x.1.length,.ref 1 0 x.2.1.length,vI x.2.2]) [oR false 1 z1 x.1,oR true 1 eI x.2.1]):=by
 refine fn_ok [] Try.func17 rfl (by decide +kernel) rfl ?_
 unfold g_path_Most at h
 refine wp_eqB (base':=0) (st':=⟨[(0,.agg [vI p0.Grain,z1 p0.First,z2 p0.Step,z2 p0.Show]),(1,z1 p1),(2,vI p2)],[],59⟩) kr kr ?_
 refine wp_seq (reg_in ?_)
 refine sgL false [] [] false gE ?_
 refine sz 4 5 (reg_end rfl (wp_seq ?_))
 refine wp_post ?_
 refine reg_in (sz 2 2 ?_)
 refine callW bodyB_35 (g_path_newSearcher_ok p0 p1) h (fun x1 _ h=>?_)
 refine sz 3 6 ?_
 refine sgL false [] [] false gE ?_
 refine sz 2 9 (reg_end rfl ?_)
 refine ⟨_,wk_refl,?_⟩
 refine wp_seq (wp_seq ?_)
 refine wgc [5,6,7,9,10] [1,2] ⟨[(5,.ptr 0 0 0),(6,.nils),(7,.nils),(9,.ptr 1 0 0),(10,vI x1.2)],(s17_5 p2 x1),59⟩ ?_
 refine rn ?_
 refine wb [22] h (fun q4 h=>?_) (fun q4 h=>?_)
 ·refine wcT (wp_seq (wg [10] [] (rn (wg [6,7,8] [] ?_))))
  refine wp_wk (wk_nil 6 1 true false gE) ?_
  refine wp_wk (wk_nil 7 1 true true gE) ?_
  cases h
  exact wp_ret (show fnOut _ _ _ _=_ from by kernel_rfl)
 refine wcF (wp_skip (wp_seq (wp_seq ?_)))
 refine wp_post ?_
 refine reg_in (sz 3 3 ?_)
 refine rb [25,26] h (fun q6 h=>?_) (fun q6 h=>?_)
 ·refine sz 3 6 (reg_end rfl ?_)
  refine ⟨_,wk_refl,?_⟩
  refine wcT (wp_seq ?_)
  refine wgc [] [] ⟨[],[],59⟩ ?_
  refine rn (wg [6,7,8] [] ?_)
  refine wp_wk (wk_nil 6 1 true false gE) ?_
  refine wp_wk (wk_nil 7 1 true true gE) ?_
  cases h
  exact wp_ret (show fnOut _ _ _ _=_ from by kernel_rfl)
 refine sz 3 6 (reg_end rfl ?_)
 refine ⟨_,wk_refl,?_⟩
 refine wbz h (fun q8 h=>?_) (fun q8 h=>?_)
 ·refine wp_seq ?_
  refine wgc [] [] ⟨[],[],59⟩ ?_
  refine rn (wg [6,7,8] [] ?_)
  refine wp_wk (wk_nil 6 1 true false gE) ?_
  refine wp_wk (wk_nil 7 1 true true gE) ?_
  cases h
  exact wp_ret (show fnOut _ _ _ _=_ from by kernel_rfl)
 refine wp_skip (wp_seq ?_)
 refine wgc [5,6,7,9] [0,1] ⟨[(5,.ptr 0 0 0),(6,.nils),(7,.nils),(9,.ptr 1 0 0)],(s17_5 p2 x1),59⟩ ?_
 refine wp_post ?_
 refine reg_in ?_
 refine sgL false [] [] false gE ?_
 refine sz 1 2 (reg_end rfl ?_)
 refine ⟨_,wk_refl,?_⟩
 refine wp_seq ?_
 refine wp_post ?_
 refine reg_in (sz 2 2 ?_)
 refine sgL false [] [.keep,.lst true] false gE ?_
 refine sz 2 5 ?_
 refine inlR (f:=42) (fn:=Try.f42) (as0:=[.agg [vI x1.1.Hidden.Grain,z1 x1.1.Hidden.First,z2 x1.1.Hidden.Step,z2 x1.1.Hidden.Show,z1 x1.1.seen],.agg [.ref 3 0 1,.nils,.fn (.func 43) [] [.ptr 2 0 0,.ptr 0 0 0],.fn (.func 46) [] []]]) kr Try.func42 rfl (by decide +kernel) rfl ?_
 refine wp_eqB (base':=4) (st':=⟨(s17_10 x1),[oX true true 1 (vI p2),oX true false 5 (.agg [vI x1.1.Hidden.Grain,z1 x1.1.Hidden.First,z2 x1.1.Hidden.Step,z2 x1.1.Hidden.Show,z1 x1.1.seen]),oX true false 1 (.fn (.func 39) [] []),.row false false true false 2 [.agg [vI 1,.lst true []]]],91⟩) kr kr ?_
 refine wp_seq (reg_in ?_)
 refine sgL false [] [] false gE ?_
 refine sgL false [] [] false gE ?_
 refine sz 1 3 (reg_end rfl (wp_seq ?_))
 refine wp_post ?_
 refine reg_in (sz 2 2 ?_)
 refine lenL (enc:=eI) (l:=x1.1.seen) (fl:=true) kr gE ?_
 refine sz 1 4 ?_
 refine mkL (enc:=fun _=>AV.nils) (z:=([]:(List (List Tpath_weighed)))) (z0:=AV.nils) (n:=zw ((zn x1.1.seen)+1)) (m:=zw ((zn x1.1.seen)+1)) (w:=1) (bytes:=24) [] false kr rfl gE kr h (fun h=>?_)
 refine sgz 1 6 (S:=⟨(s17_10 x1)++[(2,.ptr 4 0 0),(3,.ptr 5 0 0),(4,.nils),(11,.ptr 4 0 4),(12,z1 x1.1.seen),(13,vI (zn x1.1.seen)),(14,vI (zw ((zn x1.1.seen)+1)))]++[(15,.ref 6 0 ((List.replicate (zt (zw ((zn x1.1.seen)+1))) ([]:(List (List Tpath_weighed)))).length)),(5,.ref 6 0 ((List.replicate (zt (zw ((zn x1.1.seen)+1))) ([]:(List (List Tpath_weighed)))).length))],[oX true true 1 (vI p2),oX true false 5 (.agg [vI x1.1.Hidden.Grain,z1 x1.1.Hidden.First,z2 x1.1.Hidden.Step,z2 x1.1.Hidden.Show,z1 x1.1.seen]),oX true false 1 (.fn (.func 39) [] []),.row false false true false 2 [.agg [vI 1,.lst true []]],oX true false 5 (.agg [vI x1.1.Hidden.Grain,z1 x1.1.Hidden.First,z2 x1.1.Hidden.Step,z2 x1.1.Hidden.Show,z1 x1.1.seen]),oX false false 4 (.agg [.ref 3 0 1,.nils,.fn (.func 43) [] [.ptr 2 0 0,.ptr 0 0 0],.fn (.func 46) [] []]),.row false false true false 1 (List.map (fun _=>AV.nils) (List.replicate (zt (zw ((zn x1.1.seen)+1))) ([]:(List (List Tpath_weighed)))))],91⟩) ?_
 refine reg_end rfl ?_
 refine ⟨⟨(s17_10 x1)++[(2,.ptr 4 0 0),(3,.ptr 5 0 0),(4,.nils),(11,.ptr 4 0 4),(12,z1 x1.1.seen),(13,vI (zn x1.1.seen)),(14,vI (zw ((zn x1.1.seen)+1)))]++[(15,.ref 6 0 ((List.replicate (zt (zw ((zn x1.1.seen)+1))) ([]:(List (List Tpath_weighed)))).length)),(5,.ref 6 0 ((List.replicate (zt (zw ((zn x1.1.seen)+1))) ([]:(List (List Tpath_weighed)))).length))],[oX true true 1 (vI p2),oX true false 5 (.agg [vI x1.1.Hidden.Grain,z1 x1.1.Hidden.First,z2 x1.1.Hidden.Step,z2 x1.1.Hidden.Show,z1 x1.1.seen]),oX true false 1 (.fn (.func 39) [] []),.row false false true false 2 [.agg [vI 1,.lst true []]],oX true false 5 (.agg [vI x1.1.Hidden.Grain,z1 x1.1.Hidden.First,z2 x1.1.Hidden.Step,z2 x1.1.Hidden.Show,z1 x1.1.seen]),oX false false 4 (.agg [.ref 3 0 1,.nils,.fn (.func 43) [] [.ptr 2 0 0,.ptr 0 0 0],.fn (.func 46) [] []]),.refs 7 (eF (eL false eTpath_weighed) (List.replicate (zt (zw ((zn x1.1.seen)+1))) ([]:(List (List Tpath_weighed))))),.fam 1 false (eF (eL false eTpath_weighed) (List.replicate (zt (zw ((zn x1.1.seen)+1))) ([]:(List (List Tpath_weighed)))))],91⟩,(wk_fam 6 1 false (eL false eTpath_weighed) (x0:=([]:List (List Tpath_weighed))) (enc1:=fun _=>AV.nils) (st':=⟨(s17_10 x1)++[(2,.ptr 4 0 0),(3,.ptr 5 0 0),(4,.nils),(11,.ptr 4 0 4),(12,z1 x1.1.seen),(13,vI (zn x1.1.seen)),(14,vI (zw ((zn x1.1.seen)+1)))]++[(15,.ref 6 0 ((List.replicate (zt (zw ((zn x1.1.seen)+1))) ([]:(List (List Tpath_weighed)))).length)),(5,.ref 6 0 ((List.replicate (zt (zw ((zn x1.1.seen)+1))) ([]:(List (List Tpath_weighed)))).length))],[oX true true 1 (vI p2),oX true false 5 (.agg [vI x1.1.Hidden.Grain,z1 x1.1.Hidden.First,z2 x1.1.Hidden.Step,z2 x1.1.Hidden.Show,z1 x1.1.seen]),oX true false 1 (.fn (.func 39) [] []),.row false false true false 2 [.agg [vI 1,.lst true []]],oX true false 5 (.agg [vI x1.1.Hidden.Grain,z1 x1.1.Hidden.First,z2 x1.1.Hidden.Step,z2 x1.1.Hidden.Show,z1 x1.1.seen]),oX false false 4 (.agg [.ref 3 0 1,.nils,.fn (.func 43) [] [.ptr 2 0 0,.ptr 0 0 0],.fn (.func 46) [] []]),.refs 7 (eF (eL false eTpath_weighed) (List.replicate (zt (zw ((zn x1.1.seen)+1))) ([]:(List (List Tpath_weighed))))),.fam 1 false (eF (eL false eTpath_weighed) (List.replicate (zt (zw ((zn x1.1.seen)+1))) ([]:(List (List Tpath_weighed)))))],91⟩) rfl rfl rfl (by kernel_rfl)),?_⟩
 refine wp_seq (wg [2,3,5] [4,5,6,7] ?_)
 refine wp_post ?_
 refine rga hfol (sy 3 3 ?_)
 refine lenL (enc:=eI) (l:=x1.1.seen) (fl:=true) kr gE ?_
 refine sgy 2 6 (S:=⟨[(2,.ptr 4 0 0),(3,.ptr 5 0 0),(5,.ref 6 0 ((List.replicate (zt (zw ((zn x1.1.seen)+1))) ([]:(List (List Tpath_weighed)))).length))]++[(16,.ref 6 0 ((List.replicate (zt (zw ((zn x1.1.seen)+1))) ([]:(List (List Tpath_weighed)))).length)),(17,.ptr 4 0 4),(18,z1 x1.1.seen)]++[(19,vI (zn x1.1.seen)),(20,.ptr 5 0 0),(21,.ref 3 0 1)],[oX true true 1 (vI p2),oX true false 5 (.agg [vI x1.1.Hidden.Grain,z1 x1.1.Hidden.First,z2 x1.1.Hidden.Step,z2 x1.1.Hidden.Show,z1 x1.1.seen]),oX true false 1 (.fn (.func 39) [] []),.row false false true false 2 [.agg [vI 1,.lst true []]],oX true false 5 (.agg [vI x1.1.Hidden.Grain,z1 x1.1.Hidden.First,z2 x1.1.Hidden.Step,z2 x1.1.Hidden.Show,z1 x1.1.seen]),oX false false 4 (.agg [.ref 3 0 1,.nils,.fn (.func 43) [] [.ptr 2 0 0,.ptr 0 0 0],.fn (.func 46) [] []]),.refs 7 (eF (eL false eTpath_weighed) (List.replicate (zt (zw ((zn x1.1.seen)+1))) ([]:(List (List Tpath_weighed))))),.fam 1 false (eF (eL false eTpath_weighed) (List.replicate (zt (zw ((zn x1.1.seen)+1))) ([]:(List (List Tpath_weighed)))))],91⟩) ?_
 refine bsR (parts:=[(0,.lst false [.agg [vI 1,.lst true []]])]) (ids:=[3]) (es:=[(3,.row false true true false 2 [.agg [vI 1,.lst true []]]),(8,.row false false true (List.all [.lst false [.agg [vI 1,.lst true []]]] AV.scs) 1 [.lst false [.agg [vI 1,.lst true []]]])]) (S:=⟨[(2,.ptr 4 0 0),(3,.ptr 5 0 0),(5,.ref 6 0 ((List.replicate (zt (zw ((zn x1.1.seen)+1))) ([]:(List (List Tpath_weighed)))).length))]++[(16,.ref 6 0 ((List.replicate (zt (zw ((zn x1.1.seen)+1))) ([]:(List (List Tpath_weighed)))).length)),(17,.ptr 4 0 4),(18,z1 x1.1.seen)]++[(19,vI (zn x1.1.seen)),(20,.ptr 5 0 0),(21,.ref 3 0 1),(22,.ref 8 0 1)],[oX true true 1 (vI p2),oX true false 5 (.agg [vI x1.1.Hidden.Grain,z1 x1.1.Hidden.First,z2 x1.1.Hidden.Step,z2 x1.1.Hidden.Show,z1 x1.1.seen]),oX true false 1 (.fn (.func 39) [] []),.row false true true false 2 [.agg [vI 1,.lst true []]],oX true false 5 (.agg [vI x1.1.Hidden.Grain,z1 x1.1.Hidden.First,z2 x1.1.Hidden.Step,z2 x1.1.Hidden.Show,z1 x1.1.seen]),oX false false 4 (.agg [.ref 3 0 1,.nils,.fn (.func 43) [] [.ptr 2 0 0,.ptr 0 0 0],.fn (.func 46) [] []]),.refs 7 (eF (eL false eTpath_weighed) (List.replicate (zt (zw ((zn x1.1.seen)+1))) ([]:(List (List Tpath_weighed))))),.fam 1 false (eF (eL false eTpath_weighed) (List.replicate (zt (zw ((zn x1.1.seen)+1))) ([]:(List (List Tpath_weighed))))),.row false false true false 1 [.lst false [.agg [vI 1,.lst true []]]]],91⟩) [.lst false] false rfl (sparts_snap rfl (show snap _ _ _=some (_,[3]) from kr) sparts_nil (by rfl)) kr ?_
 refine sy 3 10 ?_
 refine lenL (enc:=eI) (l:=x1.1.Hidden.First) (fl:=true) kr gE ?_
 refine callR (as0:=[.ref 8 0 1,vI (zn x1.1.Hidden.First)]) (ids:=[8]) kr bodyB_75 (msnap_cons (show snap _ _ _=some (_,[8]) from kr) (msnap_cons rfl msnap_nil (by rfl)) (by rfl)) (fun x9 q10=>g_slices_Repeat_path_weighed_path_weighed_ok [[(Tpath_weighed.mk 1 [])]] (zn x1.1.Hidden.First) x9 q10) gF h (fun x9 q10 h=>?_)
 refine bind_elim h (fun a11 q12 h=>?_)
 refine idxF (enc:=(eL false eTpath_weighed)) (ls:=(List.replicate (zt (zw ((zn x1.1.seen)+1))) ([]:(List (List Tpath_weighed))))) (x:=a11) (n:=(zn x1.1.seen)) (ob:=6) (j:=7) kr kr q12 gE ?_
 refine storeF (enc:=(eL false eTpath_weighed)) (ls:=(List.replicate (zt (zw ((zn x1.1.seen)+1))) ([]:(List (List Tpath_weighed))))) (x:=a11) (n:=(zn x1.1.seen)) (ob:=6) (j:=7) (m:=9) (q:=x9.length) (S:=⟨[(2,.ptr 4 0 0),(3,.ptr 5 0 0),(5,.ref 6 0 ((List.replicate (zt (zw ((zn x1.1.seen)+1))) ([]:(List (List Tpath_weighed)))).length))]++[(16,.ref 6 0 ((List.replicate (zt (zw ((zn x1.1.seen)+1))) ([]:(List (List Tpath_weighed)))).length)),(17,.ptr 4 0 4),(18,z1 x1.1.seen)]++[(19,vI (zn x1.1.seen)),(20,.ptr 5 0 0),(21,.ref 3 0 1),(22,.ref 8 0 1),(23,.ptr 4 0 0),(24,.ptr 4 0 1),(25,z1 x1.1.Hidden.First),(26,vI (zn x1.1.Hidden.First)),(27,.ref 9 0 x9.length),(28,.ptr 6 (zt (zn x1.1.seen)) 0)],[oX true true 1 (vI p2),oX true false 5 (.agg [vI x1.1.Hidden.Grain,z1 x1.1.Hidden.First,z2 x1.1.Hidden.Step,z2 x1.1.Hidden.Show,z1 x1.1.seen]),oX true false 1 (.fn (.func 39) [] []),.row false true true false 2 [.agg [vI 1,.lst true []]],oX true false 5 (.agg [vI x1.1.Hidden.Grain,z1 x1.1.Hidden.First,z2 x1.1.Hidden.Step,z2 x1.1.Hidden.Show,z1 x1.1.seen]),oX false false 4 (.agg [.ref 3 0 1,.nils,.fn (.func 43) [] [.ptr 2 0 0,.ptr 0 0 0],.fn (.func 46) [] []]),.row false false false false 1 ((famRefs 7 0 (eF (eL false eTpath_weighed) (List.replicate (zt (zw ((zn x1.1.seen)+1))) ([]:(List (List Tpath_weighed)))))).set (zt (zn x1.1.seen)) (.ref 9 0 x9.length)),.fam 1 false (eF (eL false eTpath_weighed) (List.replicate (zt (zw ((zn x1.1.seen)+1))) ([]:(List (List Tpath_weighed))))),.row false true true false 1 [.lst false [.agg [vI 1,.lst true []]]],oR false 1 (eL false eTpath_weighed) x9],91⟩) kr kr q12 kr kr kr ?_
 refine rgd ?_
 refine ⟨⟨[(2,.ptr 4 0 0),(3,.ptr 5 0 0),(5,.ref 6 0 ((List.set (List.replicate (zt (zw ((zn x1.1.seen)+1))) ([]:(List (List Tpath_weighed)))) (zt (zn x1.1.seen)) x9).length)),(16,.ref 6 0 ((List.set (List.replicate (zt (zw ((zn x1.1.seen)+1))) ([]:(List (List Tpath_weighed)))) (zt (zn x1.1.seen)) x9).length)),(17,.ptr 4 0 4),(18,z1 x1.1.seen),(19,vI (zn x1.1.seen)),(20,.ptr 5 0 0),(21,.ref 3 0 1),(22,.ref 8 0 1),(23,.ptr 4 0 0),(24,.ptr 4 0 1),(25,z1 x1.1.Hidden.First),(26,vI (zn x1.1.Hidden.First)),(28,.ptr 6 (zt (zn x1.1.seen)) 0)],[oX true true 1 (vI p2),oX true false 5 (.agg [vI x1.1.Hidden.Grain,z1 x1.1.Hidden.First,z2 x1.1.Hidden.Step,z2 x1.1.Hidden.Show,z1 x1.1.seen]),oX true false 1 (.fn (.func 39) [] []),.row false true true false 2 [.agg [vI 1,.lst true []]],oX true false 5 (.agg [vI x1.1.Hidden.Grain,z1 x1.1.Hidden.First,z2 x1.1.Hidden.Step,z2 x1.1.Hidden.Show,z1 x1.1.seen]),oX false false 4 (.agg [.ref 3 0 1,.nils,.fn (.func 43) [] [.ptr 2 0 0,.ptr 0 0 0],.fn (.func 46) [] []]),.refs 7 (eF (eL false eTpath_weighed) (List.set (List.replicate (zt (zw ((zn x1.1.seen)+1))) ([]:(List (List Tpath_weighed)))) (zt (zn x1.1.seen)) x9)),.fam 1 false (eF (eL false eTpath_weighed) (List.set (List.replicate (zt (zw ((zn x1.1.seen)+1))) ([]:(List (List Tpath_weighed)))) (zt (zn x1.1.seen)) x9)),.row false true true false 1 [.lst false [.agg [vI 1,.lst true []]]],.dead],91⟩,(wk_trans (wk_adopt 6 7 9 (enc:=(eL false eTpath_weighed)) (ls:=(List.replicate (zt (zw ((zn x1.1.seen)+1))) ([]:(List (List Tpath_weighed))))) (x:=a11) (b:=x9) (n:=(zn x1.1.seen)) [2,3,5,16,17,18,19,20,21,22,23,24,25,26,28] (st':=⟨[(2,.ptr 4 0 0),(3,.ptr 5 0 0),(5,.ref 6 0 ((List.replicate (zt (zw ((zn x1.1.seen)+1))) ([]:(List (List Tpath_weighed)))).length))]++[(16,.ref 6 0 ((List.replicate (zt (zw ((zn x1.1.seen)+1))) ([]:(List (List Tpath_weighed)))).length)),(17,.ptr 4 0 4),(18,z1 x1.1.seen)]++[(19,vI (zn x1.1.seen)),(20,.ptr 5 0 0),(21,.ref 3 0 1),(22,.ref 8 0 1),(23,.ptr 4 0 0),(24,.ptr 4 0 1),(25,z1 x1.1.Hidden.First),(26,vI (zn x1.1.Hidden.First)),(28,.ptr 6 (zt (zn x1.1.seen)) 0)],[oX true true 1 (vI p2),oX true false 5 (.agg [vI x1.1.Hidden.Grain,z1 x1.1.Hidden.First,z2 x1.1.Hidden.Step,z2 x1.1.Hidden.Show,z1 x1.1.seen]),oX true false 1 (.fn (.func 39) [] []),.row false true true false 2 [.agg [vI 1,.lst true []]],oX true false 5 (.agg [vI x1.1.Hidden.Grain,z1 x1.1.Hidden.First,z2 x1.1.Hidden.Step,z2 x1.1.Hidden.Show,z1 x1.1.seen]),oX false false 4 (.agg [.ref 3 0 1,.nils,.fn (.func 43) [] [.ptr 2 0 0,.ptr 0 0 0],.fn (.func 46) [] []]),.refs 7 (eF (eL false eTpath_weighed) (List.set (List.replicate (zt (zw ((zn x1.1.seen)+1))) ([]:(List (List Tpath_weighed)))) (zt (zn x1.1.seen)) x9)),.fam 1 false (eF (eL false eTpath_weighed) (List.set (List.replicate (zt (zw ((zn x1.1.seen)+1))) ([]:(List (List Tpath_weighed)))) (zt (zn x1.1.seen)) x9)),.row false true true false 1 [.lst false [.agg [vI 1,.lst true []]]],.dead],91⟩) rfl rfl rfl q12 (by kernel_rfl) (by kernel_rfl)) (wk_eq (congrArg (fun n13=>(⟨[(2,.ptr 4 0 0),(3,.ptr 5 0 0),(5,.ref 6 0 n13),(16,.ref 6 0 n13),(17,.ptr 4 0 4),(18,z1 x1.1.seen),(19,vI (zn x1.1.seen)),(20,.ptr 5 0 0),(21,.ref 3 0 1),(22,.ref 8 0 1),(23,.ptr 4 0 0),(24,.ptr 4 0 1),(25,z1 x1.1.Hidden.First),(26,vI (zn x1.1.Hidden.First)),(28,.ptr 6 (zt (zn x1.1.seen)) 0)],[oX true true 1 (vI p2),oX true false 5 (.agg [vI x1.1.Hidden.Grain,z1 x1.1.Hidden.First,z2 x1.1.Hidden.Step,z2 x1.1.Hidden.Show,z1 x1.1.seen]),oX true false 1 (.fn (.func 39) [] []),.row false true true false 2 [.agg [vI 1,.lst true []]],oX true false 5 (.agg [vI x1.1.Hidden.Grain,z1 x1.1.Hidden.First,z2 x1.1.Hidden.Step,z2 x1.1.Hidden.Show,z1 x1.1.seen]),oX false false 4 (.agg [.ref 3 0 1,.nils,.fn (.func 43) [] [.ptr 2 0 0,.ptr 0 0 0],.fn (.func 46) [] []]),.refs 7 (eF (eL false eTpath_weighed) (List.set (List.replicate (zt (zw ((zn x1.1.seen)+1))) ([]:(List (List Tpath_weighed)))) (zt (zn x1.1.seen)) x9)),.fam 1 false (eF (eL false eTpath_weighed) (List.set (List.replicate (zt (zw ((zn x1.1.seen)+1))) ([]:(List (List Tpath_weighed)))) (zt (zn x1.1.seen)) x9)),.row false true true false 1 [.lst false [.agg [vI 1,.lst true []]]],.dead],91⟩:St)) (show (List.replicate (zt (zw ((zn x1.1.seen)+1))) ([]:(List (List Tpath_weighed)))).length=(List.set (List.replicate (zt (zw ((zn x1.1.seen)+1))) ([]:(List (List Tpath_weighed)))) (zt (zn x1.1.seen)) x9).length by simp only [List.length_set])))),?_⟩
 refine wp_seq (wp_seq (wg [2,3,5] [4,5,6,7] ?_))
 refine wp_post ?_
 refine reg_in (sz 2 2 ?_)
 refine lenL (enc:=eI) (l:=x1.1.seen) (fl:=true) kr gE ?_
 refine sz 2 5 (reg_end rfl ?_)
 refine ⟨_,wk_refl,?_⟩
 refine wp_block ?_
 refine wwh h (fun s14=>⟨[(2,.ptr 4 0 0),(3,.ptr 5 0 0),(5,.ref 6 0 s14.2.length),(6,vI s14.1)],(s17_79 p2 x1 s14),91⟩) (fun v out=>out=.go (.exit 0) ⟨[(5,.ref 4 0 v.length)],[.row true true true true 1 [vI p2],oX true false 5 (.agg [vI x1.1.Hidden.Grain,z1 x1.1.Hidden.First,z2 x1.1.Hidden.Step,z2 x1.1.Hidden.Show,z1 x1.1.seen]),.row true true true false 1 [.fn (.func 39) [] []],.row false true true false 2 [.agg [vI 1,.lst true []]],.refs 5 (eF (eL false eTpath_weighed) v),.fam 1 false (eF (eL false eTpath_weighed) v)],91⟩) (wk_trans (wk_gc (live:=[2,3,5,6]) (keep:=[4,5,6,7]) (st':=⟨[(2,.ptr 4 0 0),(3,.ptr 5 0 0),(5,.ref 6 0 ((List.set (List.replicate (zt (zw ((zn x1.1.seen)+1))) ([]:(List (List Tpath_weighed)))) (zt (zn x1.1.seen)) x9).length)),(6,vI (zw ((zn x1.1.seen) - 1)))],[oX true true 1 (vI p2),oX true false 5 (.agg [vI x1.1.Hidden.Grain,z1 x1.1.Hidden.First,z2 x1.1.Hidden.Step,z2 x1.1.Hidden.Show,z1 x1.1.seen]),oX true false 1 (.fn (.func 39) [] []),.row false true true false 2 [.agg [vI 1,.lst true []]],oX true false 5 (.agg [vI x1.1.Hidden.Grain,z1 x1.1.Hidden.First,z2 x1.1.Hidden.Step,z2 x1.1.Hidden.Show,z1 x1.1.seen]),oX false false 4 (.agg [.ref 3 0 1,.nils,.fn (.func 43) [] [.ptr 2 0 0,.ptr 0 0 0],.fn (.func 46) [] []]),.refs 7 (eF (eL false eTpath_weighed) (List.set (List.replicate (zt (zw ((zn x1.1.seen)+1))) ([]:(List (List Tpath_weighed)))) (zt (zn x1.1.seen)) x9)),.fam 1 false (eF (eL false eTpath_weighed) (List.set (List.replicate (zt (zw ((zn x1.1.seen)+1))) ([]:(List (List Tpath_weighed)))) (zt (zn x1.1.seen)) x9))],91⟩) kr) (wk_trans (wk_frz [0] (st':=⟨[(2,.ptr 4 0 0),(3,.ptr 5 0 0),(5,.ref 6 0 ((List.set (List.replicate (zt (zw ((zn x1.1.seen)+1))) ([]:(List (List Tpath_weighed)))) (zt (zn x1.1.seen)) x9).length)),(6,vI (zw ((zn x1.1.seen) - 1)))],[.row true true true true 1 [vI p2],oX true false 5 (.agg [vI x1.1.Hidden.Grain,z1 x1.1.Hidden.First,z2 x1.1.Hidden.Step,z2 x1.1.Hidden.Show,z1 x1.1.seen]),oX true false 1 (.fn (.func 39) [] []),.row false true true false 2 [.agg [vI 1,.lst true []]],oX true false 5 (.agg [vI x1.1.Hidden.Grain,z1 x1.1.Hidden.First,z2 x1.1.Hidden.Step,z2 x1.1.Hidden.Show,z1 x1.1.seen]),oX false false 4 (.agg [.ref 3 0 1,.nils,.fn (.func 43) [] [.ptr 2 0 0,.ptr 0 0 0],.fn (.func 46) [] []]),.refs 7 (eF (eL false eTpath_weighed) (List.set (List.replicate (zt (zw ((zn x1.1.seen)+1))) ([]:(List (List Tpath_weighed)))) (zt (zn x1.1.seen)) x9)),.fam 1 false (eF (eL false eTpath_weighed) (List.set (List.replicate (zt (zw ((zn x1.1.seen)+1))) ([]:(List (List Tpath_weighed)))) (zt (zn x1.1.seen)) x9))],91⟩) kr) (wk_frz [2] kr))) ?_ ?_
 ·intro s14 o h
  unfold g_path_Most_b4 at h
  refine wp_seq (sq ?_)
  refine wb [34] h (fun q16 h=>?_) (fun q16 h=>?_)
  ·refine wcT (wp_skip (wp_seq (wp_block (wp_seq ?_))))
   refine wp_post ?_
   refine reg_in (sz 3 3 ?_)
   refine lenL (enc:=eI) (l:=x1.1.Hidden.First) (fl:=true) kr gE ?_
   refine sz 1 5 (reg_end rfl ?_)
   refine ⟨_,wk_refl,?_⟩
   refine wp_seq (wp_seq ?_)
   refine wgc [2,3,5,6,7] [4,5,6,7] ⟨[(2,.ptr 4 0 0),(3,.ptr 5 0 0),(5,.ref 6 0 s14.2.length),(6,vI s14.1),(7,vI (zn x1.1.Hidden.First))],(s17_79 p2 x1 s14),91⟩ ?_
   refine rn ?_
   refine wb [42] h (fun q18 h=>?_) (fun q18 h=>?_)
   ·refine wcT (rn (sq (wp_block ?_)))
    refine wwh h (fun s19=>⟨[(2,.ptr 4 0 0),(3,.ptr 5 0 0),(5,.ref 6 0 s19.2.length),(6,vI s14.1),(43,vI 1),(44,vI s19.1)],(s17_37 p2 x1 s19),91⟩) (fun v out=>out=.go (.exit 2) ⟨[(2,.ptr 4 0 0),(3,.ptr 5 0 0),(5,.ref 6 0 v.length),(6,vI s14.1)],[.row true true true true 1 [vI p2],oX true false 5 (.agg [vI x1.1.Hidden.Grain,z1 x1.1.Hidden.First,z2 x1.1.Hidden.Step,z2 x1.1.Hidden.Show,z1 x1.1.seen]),.row true true true false 1 [.fn (.func 39) [] []],.row false true true false 2 [.agg [vI 1,.lst true []]],oX true false 5 (.agg [vI x1.1.Hidden.Grain,z1 x1.1.Hidden.First,z2 x1.1.Hidden.Step,z2 x1.1.Hidden.Show,z1 x1.1.seen]),oX false false 4 (.agg [.ref 3 0 1,.nils,.fn (.func 43) [] [.ptr 2 0 0,.ptr 0 0 0],.fn (.func 46) [] []]),.refs 7 (eF (eL false eTpath_weighed) v),.fam 1 false (eF (eL false eTpath_weighed) v)],91⟩) (wk_gc (live:=[2,3,5,6,43,44]) (keep:=[4,5,6,7]) kr) ?_ ?_
    ·intro s19 o h
     unfold g_path_Most_b1 at h
     refine sq (wp_seq ?_)
     refine wb [45] h (fun q21 h=>?_) (fun q21 h=>?_)
     ·refine wcT (wp_skip (wp_seq (wp_block (sq (wp_seq ?_)))))
      refine wp_post ?_
      refine rn ?_
      refine ⟨_,wk_refl,?_⟩
      refine wp_seq (wp_seq ?_)
      refine wp_post ?_
      refine reg_in (sz 3 3 ?_)
      refine lenL (enc:=eI) (l:=x1.1.Hidden.First) (fl:=true) kr gE ?_
      refine sgz 1 5 (S:=⟨[(2,.ptr 4 0 0),(3,.ptr 5 0 0),(5,.ref 6 0 s19.2.length),(6,vI s14.1),(43,vI 1),(44,vI s19.1)]++[(45,vB true),(46,vI s19.1),(8,vI s19.1),(47,.ptr 5 0 1),(48,.nils),(9,.nils),(49,.ptr 4 0 0),(50,.ptr 4 0 1),(51,z1 x1.1.Hidden.First),(52,vI (zn x1.1.Hidden.First)),(53,vI 0)],(s17_37 p2 x1 s19),91⟩) ?_
      refine reg_end rfl ?_
      refine ⟨_,wk_refl,?_⟩
      refine wp_block ?_
      refine wwh h (fun s22=>⟨[(2,.ptr 4 0 0),(3,.ptr 5 0 0),(5,.ref 6 0 s19.2.length),(6,vI s14.1),(8,vI s19.1),(9,eL false eTpath_weighed s22.1),(43,vI 1),(44,vI s19.1),(52,vI (zn x1.1.Hidden.First)),(53,vI s22.2)],(s17_37 p2 x1 s19),91⟩) (fun v out=>out=.go (.exit 4) ⟨[(2,.ptr 4 0 0),(3,.ptr 5 0 0),(5,.ref 6 0 s19.2.length),(6,vI s14.1),(9,eL false eTpath_weighed v),(43,vI 1),(44,vI s19.1)],(s17_37 p2 x1 s19),91⟩) (wk_trans (wk_gc (live:=[2,3,5,6,8,9,43,44,52,53]) (keep:=[4,5,6,7]) (st':=⟨[(2,.ptr 4 0 0),(3,.ptr 5 0 0),(5,.ref 6 0 s19.2.length),(6,vI s14.1),(8,vI s19.1),(9,.nils),(43,vI 1),(44,vI s19.1),(52,vI (zn x1.1.Hidden.First)),(53,vI 0)],(s17_37 p2 x1 s19),91⟩) kr) (wk_slotK 9 [.lst false] kr)) ?_ ?_
      ·intro s22 o h
       unfold g_path_Most_b0 at h
       refine sq (wp_seq ?_)
       refine wb [54] h (fun q24 h=>?_) (fun q24 h=>?_)
       ·refine wcT (wp_skip (wp_seq (wp_block (sq ?_))))
        refine wp_post ?_
        refine rga hfol (sy 11 11 ?_)
        refine callW bodyB_36 (g_path_searcher_into_ok x1.1 s14.1 s19.1 s22.2) h (fun x25 _ h=>?_)
        refine sy 3 15 ?_
        refine bind_elim h (fun a27 q28 h=>?_)
        refine idxF (enc:=(eL false eTpath_weighed)) (ls:=s19.2) (x:=a27) (n:=zw (s14.1+1)) (ob:=6) (j:=7) kr kr q28 gE ?_
        refine loadF (enc:=(eL false eTpath_weighed)) (ls:=s19.2) (x:=a27) (n:=zw (s14.1+1)) (ob:=6) (j:=7) kr kr q28 gE ?_
        refine sy 1 18 ?_
        refine bind_elim h (fun a29 q30 h=>?_)
        refine idxI (enc:=(eL false eTpath_weighed)) (ls:=s19.2) (x:=a27) (y:=a29) (n:=zw (s14.1+1)) (c:=s22.2) (w:=1) (j:=7) (fl:=false) kr kr q28 q30 rfl gE ?_
        refine loadI (enc:=(eL false eTpath_weighed)) (ls:=s19.2) (x:=a27) (y:=a29) (n:=zw (s14.1+1)) (m:=s22.2) (w:=1) (j:=7) (c:=0) (fl:=false) kr kr q28 q30 rfl gE ?_
        refine callR (as0:=[vI s14.1,vI s22.2,vI x25,eL false eTpath_weighed a29]) (ids:=[]) (S:=fun x31=>⟨[(2,.ptr 4 0 0),(3,.ptr 5 0 0),(5,.ref 6 0 s19.2.length),(6,vI s14.1),(8,vI s19.1),(9,eL false eTpath_weighed s22.1),(43,vI 1),(44,vI s19.1),(52,vI (zn x1.1.Hidden.First)),(53,vI s22.2)]++[(54,vB true),(55,vI s22.2),(10,vI s22.2),(56,.ptr 5 0 2),(57,.fn (.func 43) [] [.ptr 2 0 0,.ptr 0 0 0]),(58,eL false eTpath_weighed s22.1),(59,.ptr 5 0 3),(60,.fn (.func 46) [] []),(61,vI s14.1),(62,vI s22.2),(63,.agg [vI x1.1.Hidden.Grain,z1 x1.1.Hidden.First,z2 x1.1.Hidden.Step,z2 x1.1.Hidden.Show,z1 x1.1.seen]),(64,vI s14.1),(65,vI s19.1),(66,vI s22.2)]++[(67,vI x25),(68,.ref 6 0 s19.2.length),(69,vI s14.1),(70,vI (zw (s14.1+1))),(71,.ptr 6 (zt (zw (s14.1+1))) 0),(72,.ref (fid 7 (zt (zw (s14.1+1)))) 0 a27.length),(73,vI s22.2)]++[(74,.ptr (fid 7 (zt (zw (s14.1+1)))) (zt s22.2) 0),(75,eL false eTpath_weighed a29),(76,eL false eTpath_weighed x31)],(s17_37 p2 x1 s19),91⟩) kr bodyB_46 (msnap_cons rfl (msnap_cons rfl (msnap_cons rfl (msnap_cons rfl msnap_nil)))) (fun x31 q32=>CallOk.froz (g_path_Most_3_ok s14.1 s22.2 x25 a29 x31 q32) (snap_full (w:=2) (bx:=false) (ro:=false) rfl)) (fun _=>by as_aux_lemma=>kernel_rfl) h (fun x31 q32 h=>?_)
        refine callR (as0:=[eL false eTpath_weighed s22.1,eL false eTpath_weighed x31,.ptr 2 0 0,.ptr 0 0 0]) (ids:=[2,0]) kr bodyB_43 (msnap_cons rfl (msnap_cons rfl (msnap_cons (snap_ptr rfl (msnap_cons (snap_fn msnap_nil msnap_nil (by rfl)) msnap_nil (by rfl)) (by rfl) (by rfl)) (msnap_cons (snap_ptr rfl (msnap_cons rfl msnap_nil (by rfl)) (by rfl) (by rfl)) msnap_nil (by rfl)) (by rfl)) (by rfl)) (by rfl)) (fun x33 q34=>g_path_Most_2_k0_ok s22.1 x31 p2 x33 q34) gF h (fun x33 q34 h=>?_)
        refine sy 1 23 (rgd ?_)
        refine ⟨_,wk_refl,?_⟩
        refine wg [2,3,5,6,8,9,43,44,52,53] [4,5,6,7] (rn ?_)
        cases h
        exact ⟨_,rfl,(wk_gc (live:=[2,3,5,6,8,9,43,44,52,53]) (keep:=[4,5,6,7]) kr)⟩
       refine wcF (wg [2,3,5,6,9,43,44] [4,5,6,7] ?_)
       refine wp_exit ?_
       cases h
       exact ⟨kr,rfl⟩
      intro x36 h out hx
      subst hx
      refine bind_elim h (fun a37 q38 h=>?_)
      refine wp_wk (wk_steal 6 7 (enc:=(eL false eTpath_weighed)) (ls:=s19.2) (x:=a37) (n:=s14.1) [2,3,5,6,9,43,44] (st':=⟨[(2,.ptr 4 0 0),(3,.ptr 5 0 0),(5,.ref 6 0 s19.2.length),(6,vI s14.1),(9,eL false eTpath_weighed x36),(43,vI 1),(44,vI s19.1)],(s17_133 p2 x1 s19 s14 a37),91⟩) rfl rfl q38 kr kr) ?_
      refine wp_wk (wk_eq (congrArg (fun n39=>(⟨[(2,.ptr 4 0 0),(3,.ptr 5 0 0),(5,.ref 6 0 n39),(6,vI s14.1),(9,eL false eTpath_weighed x36),(43,vI 1),(44,vI s19.1)],(s17_133 p2 x1 s19 s14 a37),91⟩:St)) (show s19.2.length=(List.set s19.2 (zt s14.1) ([]:List (List Tpath_weighed))).length by simp only [List.length_set]))) ?_
      refine wp_post ?_
      refine reg_in (sz 4 4 ?_)
      refine idxS (enc:=(eL false eTpath_weighed)) (ls:=(List.set s19.2 (zt s14.1) ([]:List (List Tpath_weighed)))) (x:=([]:List (List Tpath_weighed))) (n:=s14.1) (ob:=6) (j:=7) (m:=8) (q:=a37.length) kr kr (lkI_set ([]:List (List Tpath_weighed)) q38) gE ?_
      refine loadS (enc:=(eL false eTpath_weighed)) (ls:=(List.set s19.2 (zt s14.1) ([]:List (List Tpath_weighed)))) (x:=([]:List (List Tpath_weighed))) (n:=s14.1) (ob:=6) (j:=7) (m:=8) (q:=a37.length) kr kr (lkI_set ([]:List (List Tpath_weighed)) q38) gE ?_
      refine sz 1 7 ?_
      refine sgL false [] [.lst false] false gE ?_
      refine appR (enc:=(eL false eTpath_weighed)) (l:=a37) (m:=([x36]:(List (List Tpath_weighed)))) (w:=1) (bytes:=24) (ob:=8) (nr:=true) (fl:=false) (nr':=true) (fl':=false) (b:=.ref 9 0 1) (rds:=[9]) false kr kr kr rfl gE kr h (fun h=>?_)
      refine idxS (enc:=(eL false eTpath_weighed)) (ls:=(List.set s19.2 (zt s14.1) ([]:List (List Tpath_weighed)))) (x:=([]:List (List Tpath_weighed))) (n:=s14.1) (ob:=6) (j:=7) (m:=8) (q:=a37.length) kr kr (lkI_set ([]:List (List Tpath_weighed)) q38) gE ?_
      refine storeS2 (enc:=(eL false eTpath_weighed)) (ls:=(List.set s19.2 (zt s14.1) ([]:List (List Tpath_weighed)))) (x:=([]:List (List Tpath_weighed))) (n:=s14.1) (ob:=6) (j:=7) (m0:=8) (q0:=a37.length) (m:=10) (q:=(a37++([x36]:(List (List Tpath_weighed)))).length) (S:=⟨[(2,.ptr 4 0 0),(3,.ptr 5 0 0),(5,.ref 6 0 ((List.set s19.2 (zt s14.1) ([]:List (List Tpath_weighed))).length)),(6,vI s14.1),(9,eL false eTpath_weighed x36),(43,vI 1),(44,vI s19.1),(79,.ref 6 0 ((List.set s19.2 (zt s14.1) ([]:List (List Tpath_weighed))).length)),(80,vI s14.1),(81,.ref 6 0 ((List.set s19.2 (zt s14.1) ([]:List (List Tpath_weighed))).length)),(82,vI s14.1),(83,.ptr 6 (zt s14.1) 0),(84,.ref 8 0 a37.length),(85,eL false eTpath_weighed x36),(86,.ref 9 0 1),(87,.ref 10 0 ((a37++([x36]:(List (List Tpath_weighed)))).length)),(88,.ptr 6 (zt s14.1) 0)],[.row true true true true 1 [vI p2],oX true false 5 (.agg [vI x1.1.Hidden.Grain,z1 x1.1.Hidden.First,z2 x1.1.Hidden.Step,z2 x1.1.Hidden.Show,z1 x1.1.seen]),.row true true true false 1 [.fn (.func 39) [] []],.row false true true false 2 [.agg [vI 1,.lst true []]],oX true false 5 (.agg [vI x1.1.Hidden.Grain,z1 x1.1.Hidden.First,z2 x1.1.Hidden.Step,z2 x1.1.Hidden.Show,z1 x1.1.seen]),oX false false 4 (.agg [.ref 3 0 1,.nils,.fn (.func 43) [] [.ptr 2 0 0,.ptr 0 0 0],.fn (.func 46) [] []]),.row false false false false 1 ((famRefs 7 0 (eF (eL false eTpath_weighed) (List.set s19.2 (zt s14.1) ([]:List (List Tpath_weighed))))).set (zt s14.1) (.ref 10 0 ((a37++([x36]:(List (List Tpath_weighed)))).length))),.fam 1 false (eF (eL false eTpath_weighed) (List.set s19.2 (zt s14.1) ([]:List (List Tpath_weighed)))),.dead,.row false false true false 1 [eL false eTpath_weighed x36],oR false 1 (eL false eTpath_weighed) (a37++([x36]:(List (List Tpath_weighed))))],91⟩) kr kr (lkI_set ([]:List (List Tpath_weighed)) q38) kr kr kr ?_
      refine reg_end rfl ?_
      refine ⟨⟨[(2,.ptr 4 0 0),(3,.ptr 5 0 0),(5,.ref 6 0 ((List.set (List.set s19.2 (zt s14.1) ([]:List (List Tpath_weighed))) (zt s14.1) (a37++([x36]:(List (List Tpath_weighed))))).length)),(6,vI s14.1),(9,eL false eTpath_weighed x36),(43,vI 1),(44,vI s19.1),(79,.ref 6 0 ((List.set (List.set s19.2 (zt s14.1) ([]:List (List Tpath_weighed))) (zt s14.1) (a37++([x36]:(List (List Tpath_weighed))))).length)),(80,vI s14.1),(81,.ref 6 0 ((List.set (List.set s19.2 (zt s14.1) ([]:List (List Tpath_weighed))) (zt s14.1) (a37++([x36]:(List (List Tpath_weighed))))).length)),(82,vI s14.1),(83,.ptr 6 (zt s14.1) 0),(84,.ref 8 0 a37.length),(85,eL false eTpath_weighed x36),(86,.ref 9 0 1),(88,.ptr 6 (zt s14.1) 0)],(s17_136 p2 x1 s19 s14 a37 x36),91⟩,(wk_trans (wk_adopt 6 7 10 (enc:=(eL false eTpath_weighed)) (ls:=(List.set s19.2 (zt s14.1) ([]:List (List Tpath_weighed)))) (x:=([]:List (List Tpath_weighed))) (b:=(a37++([x36]:(List (List Tpath_weighed))))) (n:=s14.1) [2,3,5,6,9,43,44,79,80,81,82,83,84,85,86,88] (st':=⟨[(2,.ptr 4 0 0),(3,.ptr 5 0 0),(5,.ref 6 0 ((List.set s19.2 (zt s14.1) ([]:List (List Tpath_weighed))).length)),(6,vI s14.1),(9,eL false eTpath_weighed x36),(43,vI 1),(44,vI s19.1)]++[(79,.ref 6 0 ((List.set s19.2 (zt s14.1) ([]:List (List Tpath_weighed))).length)),(80,vI s14.1),(81,.ref 6 0 ((List.set s19.2 (zt s14.1) ([]:List (List Tpath_weighed))).length)),(82,vI s14.1)]++[(83,.ptr 6 (zt s14.1) 0),(84,.ref 8 0 a37.length),(85,eL false eTpath_weighed x36),(86,.ref 9 0 1),(88,.ptr 6 (zt s14.1) 0)],(s17_136 p2 x1 s19 s14 a37 x36),91⟩) rfl rfl rfl (lkI_set ([]:List (List Tpath_weighed)) q38) (by kernel_rfl) (by kernel_rfl)) (wk_eq (congrArg (fun n40=>(⟨[(2,.ptr 4 0 0),(3,.ptr 5 0 0),(5,.ref 6 0 n40),(6,vI s14.1),(9,eL false eTpath_weighed x36),(43,vI 1),(44,vI s19.1),(79,.ref 6 0 n40),(80,vI s14.1),(81,.ref 6 0 n40),(82,vI s14.1),(83,.ptr 6 (zt s14.1) 0),(84,.ref 8 0 a37.length),(85,eL false eTpath_weighed x36),(86,.ref 9 0 1),(88,.ptr 6 (zt s14.1) 0)],(s17_136 p2 x1 s19 s14 a37 x36),91⟩:St)) (show (List.set s19.2 (zt s14.1) ([]:List (List Tpath_weighed))).length=(List.set (List.set s19.2 (zt s14.1) ([]:List (List Tpath_weighed))) (zt s14.1) (a37++([x36]:(List (List Tpath_weighed))))).length by simp only [List.length_set])))),?_⟩
      refine wg [2,3,5,6,43,44] [4,5,6,7] (rn ?_)
      cases h
      exact ⟨_,rfl,(wk_gc (live:=[2,3,5,6,43,44]) (keep:=[4,5,6,7]) kr)⟩
     refine wcF (wg [2,3,5,6] [4,5,6,7] ?_)
     refine wp_exit ?_
     cases h
     exact ⟨kr,rfl⟩
    intro x42 h out hx
    subst hx
    refine rn ?_
    cases h
    exact ⟨_,rfl,(wk_gc (live:=[2,3,5,6]) (keep:=[4,5,6,7]) kr)⟩
   refine wcF (wp_skip (sq (wp_block ?_)))
   refine wwh h (fun s43=>⟨[(2,.ptr 4 0 0),(3,.ptr 5 0 0),(5,.ref 6 0 s43.2.length),(6,vI s14.1),(43,vI (zn x1.1.Hidden.First)),(44,vI s43.1)],(s17_60 p2 x1 s43),91⟩) (fun v out=>out=.go (.exit 2) ⟨[(2,.ptr 4 0 0),(3,.ptr 5 0 0),(5,.ref 6 0 v.length),(6,vI s14.1)],[.row true true true true 1 [vI p2],oX true false 5 (.agg [vI x1.1.Hidden.Grain,z1 x1.1.Hidden.First,z2 x1.1.Hidden.Step,z2 x1.1.Hidden.Show,z1 x1.1.seen]),.row true true true false 1 [.fn (.func 39) [] []],.row false true true false 2 [.agg [vI 1,.lst true []]],oX true false 5 (.agg [vI x1.1.Hidden.Grain,z1 x1.1.Hidden.First,z2 x1.1.Hidden.Step,z2 x1.1.Hidden.Show,z1 x1.1.seen]),oX false false 4 (.agg [.ref 3 0 1,.nils,.fn (.func 43) [] [.ptr 2 0 0,.ptr 0 0 0],.fn (.func 46) [] []]),.refs 7 (eF (eL false eTpath_weighed) v),.fam 1 false (eF (eL false eTpath_weighed) v)],91⟩) (wk_gc (live:=[2,3,5,6,43,44]) (keep:=[4,5,6,7]) kr) ?_ ?_
   ·intro s43 o h
    unfold g_path_Most_b3 at h
    refine sq (wp_seq ?_)
    refine wb [45] h (fun q45 h=>?_) (fun q45 h=>?_)
    ·refine wcT (wp_skip (wp_seq (wp_block (sq (wp_seq ?_)))))
     refine wp_post ?_
     refine rn ?_
     refine ⟨_,wk_refl,?_⟩
     refine wp_seq (wp_seq ?_)
     refine wp_post ?_
     refine reg_in (sz 3 3 ?_)
     refine lenL (enc:=eI) (l:=x1.1.Hidden.First) (fl:=true) kr gE ?_
     refine sgz 1 5 (S:=⟨[(2,.ptr 4 0 0),(3,.ptr 5 0 0),(5,.ref 6 0 s43.2.length),(6,vI s14.1),(43,vI (zn x1.1.Hidden.First)),(44,vI s43.1)]++[(45,vB true),(46,vI s43.1),(8,vI s43.1),(47,.ptr 5 0 1),(48,.nils),(9,.nils),(49,.ptr 4 0 0),(50,.ptr 4 0 1),(51,z1 x1.1.Hidden.First),(52,vI (zn x1.1.Hidden.First)),(53,vI 0)],(s17_60 p2 x1 s43),91⟩) ?_
     refine reg_end rfl ?_
     refine ⟨_,wk_refl,?_⟩
     refine wp_block ?_
     refine wwh h (fun s46=>⟨[(2,.ptr 4 0 0),(3,.ptr 5 0 0),(5,.ref 6 0 s43.2.length),(6,vI s14.1),(8,vI s43.1),(9,eL false eTpath_weighed s46.1),(43,vI (zn x1.1.Hidden.First)),(44,vI s43.1),(52,vI (zn x1.1.Hidden.First)),(53,vI s46.2)],(s17_60 p2 x1 s43),91⟩) (fun v out=>out=.go (.exit 4) ⟨[(2,.ptr 4 0 0),(3,.ptr 5 0 0),(5,.ref 6 0 s43.2.length),(6,vI s14.1),(9,eL false eTpath_weighed v),(43,vI (zn x1.1.Hidden.First)),(44,vI s43.1)],(s17_60 p2 x1 s43),91⟩) (wk_trans (wk_gc (live:=[2,3,5,6,8,9,43,44,52,53]) (keep:=[4,5,6,7]) (st':=⟨[(2,.ptr 4 0 0),(3,.ptr 5 0 0),(5,.ref 6 0 s43.2.length),(6,vI s14.1),(8,vI s43.1),(9,.nils),(43,vI (zn x1.1.Hidden.First)),(44,vI s43.1),(52,vI (zn x1.1.Hidden.First)),(53,vI 0)],(s17_60 p2 x1 s43),91⟩) kr) (wk_slotK 9 [.lst false] kr)) ?_ ?_
     ·intro s46 o h
      unfold g_path_Most_b2 at h
      refine sq (wp_seq ?_)
      refine wb [54] h (fun q48 h=>?_) (fun q48 h=>?_)
      ·refine wcT (wp_skip (wp_seq (wp_block (sq ?_))))
       refine wp_post ?_
       refine rga hfol (sy 11 11 ?_)
       refine callW bodyB_36 (g_path_searcher_into_ok x1.1 s14.1 s43.1 s46.2) h (fun x49 _ h=>?_)
       refine sy 3 15 ?_
       refine bind_elim h (fun a51 q52 h=>?_)
       refine idxF (enc:=(eL false eTpath_weighed)) (ls:=s43.2) (x:=a51) (n:=zw (s14.1+1)) (ob:=6) (j:=7) kr kr q52 gE ?_
       refine loadF (enc:=(eL false eTpath_weighed)) (ls:=s43.2) (x:=a51) (n:=zw (s14.1+1)) (ob:=6) (j:=7) kr kr q52 gE ?_
       refine sy 1 18 ?_
       refine bind_elim h (fun a53 q54 h=>?_)
       refine idxI (enc:=(eL false eTpath_weighed)) (ls:=s43.2) (x:=a51) (y:=a53) (n:=zw (s14.1+1)) (c:=s46.2) (w:=1) (j:=7) (fl:=false) kr kr q52 q54 rfl gE ?_
       refine loadI (enc:=(eL false eTpath_weighed)) (ls:=s43.2) (x:=a51) (y:=a53) (n:=zw (s14.1+1)) (m:=s46.2) (w:=1) (j:=7) (c:=0) (fl:=false) kr kr q52 q54 rfl gE ?_
       refine callR (as0:=[vI s14.1,vI s46.2,vI x49,eL false eTpath_weighed a53]) (ids:=[]) (S:=fun x55=>⟨[(2,.ptr 4 0 0),(3,.ptr 5 0 0),(5,.ref 6 0 s43.2.length),(6,vI s14.1),(8,vI s43.1),(9,eL false eTpath_weighed s46.1),(43,vI (zn x1.1.Hidden.First)),(44,vI s43.1),(52,vI (zn x1.1.Hidden.First)),(53,vI s46.2)]++[(54,vB true),(55,vI s46.2),(10,vI s46.2),(56,.ptr 5 0 2),(57,.fn (.func 43) [] [.ptr 2 0 0,.ptr 0 0 0]),(58,eL false eTpath_weighed s46.1),(59,.ptr 5 0 3),(60,.fn (.func 46) [] []),(61,vI s14.1),(62,vI s46.2),(63,.agg [vI x1.1.Hidden.Grain,z1 x1.1.Hidden.First,z2 x1.1.Hidden.Step,z2 x1.1.Hidden.Show,z1 x1.1.seen]),(64,vI s14.1),(65,vI s43.1),(66,vI s46.2)]++[(67,vI x49),(68,.ref 6 0 s43.2.length),(69,vI s14.1),(70,vI (zw (s14.1+1))),(71,.ptr 6 (zt (zw (s14.1+1))) 0),(72,.ref (fid 7 (zt (zw (s14.1+1)))) 0 a51.length),(73,vI s46.2)]++[(74,.ptr (fid 7 (zt (zw (s14.1+1)))) (zt s46.2) 0),(75,eL false eTpath_weighed a53),(76,eL false eTpath_weighed x55)],(s17_60 p2 x1 s43),91⟩) kr bodyB_46 (msnap_cons rfl (msnap_cons rfl (msnap_cons rfl (msnap_cons rfl msnap_nil)))) (fun x55 q56=>CallOk.froz (g_path_Most_3_ok s14.1 s46.2 x49 a53 x55 q56) (snap_full (w:=2) (bx:=false) (ro:=false) rfl)) (fun _=>by as_aux_lemma=>kernel_rfl) h (fun x55 q56 h=>?_)
       refine callR (as0:=[eL false eTpath_weighed s46.1,eL false eTpath_weighed x55,.ptr 2 0 0,.ptr 0 0 0]) (ids:=[2,0]) kr bodyB_43 (msnap_cons rfl (msnap_cons rfl (msnap_cons (snap_ptr rfl (msnap_cons (snap_fn msnap_nil msnap_nil (by rfl)) msnap_nil (by rfl)) (by rfl) (by rfl)) (msnap_cons (snap_ptr rfl (msnap_cons rfl msnap_nil (by rfl)) (by rfl) (by rfl)) msnap_nil (by rfl)) (by rfl)) (by rfl)) (by rfl)) (fun x57 q58=>g_path_Most_2_k0_ok s46.1 x55 p2 x57 q58) gF h (fun x57 q58 h=>?_)
       refine sy 1 23 (rgd ?_)
       refine ⟨_,wk_refl,?_⟩
       refine wg [2,3,5,6,8,9,43,44,52,53] [4,5,6,7] (rn ?_)
       cases h
       exact ⟨_,rfl,(wk_gc (live:=[2,3,5,6,8,9,43,44,52,53]) (keep:=[4,5,6,7]) kr)⟩
      refine wcF (wg [2,3,5,6,9,43,44] [4,5,6,7] ?_)
      refine wp_exit ?_
      cases h
      exact ⟨kr,rfl⟩
     intro x60 h out hx
     subst hx
     refine bind_elim h (fun a61 q62 h=>?_)
     refine wp_wk (wk_steal 6 7 (enc:=(eL false eTpath_weighed)) (ls:=s43.2) (x:=a61) (n:=s14.1) [2,3,5,6,9,43,44] (st':=⟨[(2,.ptr 4 0 0),(3,.ptr 5 0 0),(5,.ref 6 0 s43.2.length),(6,vI s14.1),(9,eL false eTpath_weighed x60),(43,vI (zn x1.1.Hidden.First)),(44,vI s43.1)],(s17_160 p2 x1 s43 s14 a61),91⟩) rfl rfl q62 kr kr) ?_
     refine wp_wk (wk_eq (congrArg (fun n63=>(⟨[(2,.ptr 4 0 0),(3,.ptr 5 0 0),(5,.ref 6 0 n63),(6,vI s14.1),(9,eL false eTpath_weighed x60),(43,vI (zn x1.1.Hidden.First)),(44,vI s43.1)],(s17_160 p2 x1 s43 s14 a61),91⟩:St)) (show s43.2.length=(List.set s43.2 (zt s14.1) ([]:List (List Tpath_weighed))).length by simp only [List.length_set]))) ?_
     refine wp_post ?_
     refine reg_in (sz 4 4 ?_)
     refine idxS (enc:=(eL false eTpath_weighed)) (ls:=(List.set s43.2 (zt s14.1) ([]:List (List Tpath_weighed)))) (x:=([]:List (List Tpath_weighed))) (n:=s14.1) (ob:=6) (j:=7) (m:=8) (q:=a61.length) kr kr (lkI_set ([]:List (List Tpath_weighed)) q62) gE ?_
     refine loadS (enc:=(eL false eTpath_weighed)) (ls:=(List.set s43.2 (zt s14.1) ([]:List (List Tpath_weighed)))) (x:=([]:List (List Tpath_weighed))) (n:=s14.1) (ob:=6) (j:=7) (m:=8) (q:=a61.length) kr kr (lkI_set ([]:List (List Tpath_weighed)) q62) gE ?_
     refine sz 1 7 ?_
     refine sgL false [] [.lst false] false gE ?_
     refine appR (enc:=(eL false eTpath_weighed)) (l:=a61) (m:=([x60]:(List (List Tpath_weighed)))) (w:=1) (bytes:=24) (ob:=8) (nr:=true) (fl:=false) (nr':=true) (fl':=false) (b:=.ref 9 0 1) (rds:=[9]) false kr kr kr rfl gE kr h (fun h=>?_)
     refine idxS (enc:=(eL false eTpath_weighed)) (ls:=(List.set s43.2 (zt s14.1) ([]:List (List Tpath_weighed)))) (x:=([]:List (List Tpath_weighed))) (n:=s14.1) (ob:=6) (j:=7) (m:=8) (q:=a61.length) kr kr (lkI_set ([]:List (List Tpath_weighed)) q62) gE ?_
     refine storeS2 (enc:=(eL false eTpath_weighed)) (ls:=(List.set s43.2 (zt s14.1) ([]:List (List Tpath_weighed)))) (x:=([]:List (List Tpath_weighed))) (n:=s14.1) (ob:=6) (j:=7) (m0:=8) (q0:=a61.length) (m:=10) (q:=(a61++([x60]:(List (List Tpath_weighed)))).length) (S:=⟨[(2,.ptr 4 0 0),(3,.ptr 5 0 0),(5,.ref 6 0 ((List.set s43.2 (zt s14.1) ([]:List (List Tpath_weighed))).length)),(6,vI s14.1),(9,eL false eTpath_weighed x60),(43,vI (zn x1.1.Hidden.First)),(44,vI s43.1),(79,.ref 6 0 ((List.set s43.2 (zt s14.1) ([]:List (List Tpath_weighed))).length)),(80,vI s14.1),(81,.ref 6 0 ((List.set s43.2 (zt s14.1) ([]:List (List Tpath_weighed))).length)),(82,vI s14.1),(83,.ptr 6 (zt s14.1) 0),(84,.ref 8 0 a61.length),(85,eL false eTpath_weighed x60),(86,.ref 9 0 1),(87,.ref 10 0 ((a61++([x60]:(List (List Tpath_weighed)))).length)),(88,.ptr 6 (zt s14.1) 0)],[.row true true true true 1 [vI p2],oX true false 5 (.agg [vI x1.1.Hidden.Grain,z1 x1.1.Hidden.First,z2 x1.1.Hidden.Step,z2 x1.1.Hidden.Show,z1 x1.1.seen]),.row true true true false 1 [.fn (.func 39) [] []],.row false true true false 2 [.agg [vI 1,.lst true []]],oX true false 5 (.agg [vI x1.1.Hidden.Grain,z1 x1.1.Hidden.First,z2 x1.1.Hidden.Step,z2 x1.1.Hidden.Show,z1 x1.1.seen]),oX false false 4 (.agg [.ref 3 0 1,.nils,.fn (.func 43) [] [.ptr 2 0 0,.ptr 0 0 0],.fn (.func 46) [] []]),.row false false false false 1 ((famRefs 7 0 (eF (eL false eTpath_weighed) (List.set s43.2 (zt s14.1) ([]:List (List Tpath_weighed))))).set (zt s14.1) (.ref 10 0 ((a61++([x60]:(List (List Tpath_weighed)))).length))),.fam 1 false (eF (eL false eTpath_weighed) (List.set s43.2 (zt s14.1) ([]:List (List Tpath_weighed)))),.dead,.row false false true false 1 [eL false eTpath_weighed x60],oR false 1 (eL false eTpath_weighed) (a61++([x60]:(List (List Tpath_weighed))))],91⟩) kr kr (lkI_set ([]:List (List Tpath_weighed)) q62) kr kr kr ?_
     refine reg_end rfl ?_
     refine ⟨⟨[(2,.ptr 4 0 0),(3,.ptr 5 0 0),(5,.ref 6 0 ((List.set (List.set s43.2 (zt s14.1) ([]:List (List Tpath_weighed))) (zt s14.1) (a61++([x60]:(List (List Tpath_weighed))))).length)),(6,vI s14.1),(9,eL false eTpath_weighed x60),(43,vI (zn x1.1.Hidden.First)),(44,vI s43.1),(79,.ref 6 0 ((List.set (List.set s43.2 (zt s14.1) ([]:List (List Tpath_weighed))) (zt s14.1) (a61++([x60]:(List (List Tpath_weighed))))).length)),(80,vI s14.1),(81,.ref 6 0 ((List.set (List.set s43.2 (zt s14.1) ([]:List (List Tpath_weighed))) (zt s14.1) (a61++([x60]:(List (List Tpath_weighed))))).length)),(82,vI s14.1),(83,.ptr 6 (zt s14.1) 0),(84,.ref 8 0 a61.length),(85,eL false eTpath_weighed x60),(86,.ref 9 0 1),(88,.ptr 6 (zt s14.1) 0)],(s17_163 p2 x1 s43 s14 a61 x60),91⟩,(wk_trans (wk_adopt 6 7 10 (enc:=(eL false eTpath_weighed)) (ls:=(List.set s43.2 (zt s14.1) ([]:List (List Tpath_weighed)))) (x:=([]:List (List Tpath_weighed))) (b:=(a61++([x60]:(List (List Tpath_weighed))))) (n:=s14.1) [2,3,5,6,9,43,44,79,80,81,82,83,84,85,86,88] (st':=⟨[(2,.ptr 4 0 0),(3,.ptr 5 0 0),(5,.ref 6 0 ((List.set s43.2 (zt s14.1) ([]:List (List Tpath_weighed))).length)),(6,vI s14.1),(9,eL false eTpath_weighed x60),(43,vI (zn x1.1.Hidden.First)),(44,vI s43.1)]++[(79,.ref 6 0 ((List.set s43.2 (zt s14.1) ([]:List (List Tpath_weighed))).length)),(80,vI s14.1),(81,.ref 6 0 ((List.set s43.2 (zt s14.1) ([]:List (List Tpath_weighed))).length)),(82,vI s14.1)]++[(83,.ptr 6 (zt s14.1) 0),(84,.ref 8 0 a61.length),(85,eL false eTpath_weighed x60),(86,.ref 9 0 1),(88,.ptr 6 (zt s14.1) 0)],(s17_163 p2 x1 s43 s14 a61 x60),91⟩) rfl rfl rfl (lkI_set ([]:List (List Tpath_weighed)) q62) (by kernel_rfl) (by kernel_rfl)) (wk_eq (congrArg (fun n64=>(⟨[(2,.ptr 4 0 0),(3,.ptr 5 0 0),(5,.ref 6 0 n64),(6,vI s14.1),(9,eL false eTpath_weighed x60),(43,vI (zn x1.1.Hidden.First)),(44,vI s43.1),(79,.ref 6 0 n64),(80,vI s14.1),(81,.ref 6 0 n64),(82,vI s14.1),(83,.ptr 6 (zt s14.1) 0),(84,.ref 8 0 a61.length),(85,eL false eTpath_weighed x60),(86,.ref 9 0 1),(88,.ptr 6 (zt s14.1) 0)],(s17_163 p2 x1 s43 s14 a61 x60),91⟩:St)) (show (List.set s43.2 (zt s14.1) ([]:List (List Tpath_weighed))).length=(List.set (List.set s43.2 (zt s14.1) ([]:List (List Tpath_weighed))) (zt s14.1) (a61++([x60]:(List (List Tpath_weighed))))).length by simp only [List.length_set])))),?_⟩
     refine wg [2,3,5,6,43,44] [4,5,6,7] (rn ?_)
     cases h
     exact ⟨_,rfl,(wk_gc (live:=[2,3,5,6,43,44]) (keep:=[4,5,6,7]) kr)⟩
    refine wcF (wg [2,3,5,6] [4,5,6,7] ?_)
    refine wp_exit ?_
    cases h
    exact ⟨kr,rfl⟩
   intro x66 h out hx
   subst hx
   refine rn ?_
   cases h
   exact ⟨_,rfl,(wk_gc (live:=[2,3,5,6]) (keep:=[4,5,6,7]) kr)⟩
  refine wcF (wg [5] [6,7] ?_)
  refine wp_exit ?_
  cases h
  exact ⟨kr,rfl⟩
 intro x68 h out hx
 subst hx
 refine sq (wg [4] [4,5] ?_)
 refine wp_ret ?_
 refine ⟨⟨[(5,.ptr 0 0 0),(6,.nils),(7,.nils),(9,.ptr 1 0 0),(11,.ptr 2 0 0),(30,.agg [vI x1.1.Hidden.Grain,z1 x1.1.Hidden.First,z2 x1.1.Hidden.Step,z2 x1.1.Hidden.Show,z1 x1.1.seen]),(31,.agg [vI 1,.nils])]++[(32,.ref 3 0 1),(33,.fn (.func 43) [] [.ptr 2 0 0,.ptr 0 0 0]),(34,.agg [.ref 3 0 1,.nils,.fn (.func 43) [] [.ptr 2 0 0,.ptr 0 0 0],.fn (.func 46) [] []]),(35,.ref 4 0 x68.length)],[.row true true true true 1 [vI p2],oX true false 5 (.agg [vI x1.1.Hidden.Grain,z1 x1.1.Hidden.First,z2 x1.1.Hidden.Step,z2 x1.1.Hidden.Show,z1 x1.1.seen]),.row true true true false 1 [.fn (.func 39) [] []],.row false true true false 2 [.agg [vI 1,.lst true []]],.refs 5 (eF (eL false eTpath_weighed) x68),.fam 1 false (eF (eL false eTpath_weighed) x68)],59⟩,by as_aux_lemma=>kernel_rfl,?_⟩
 refine sz 1 7 (reg_end rfl ?_)
 refine ⟨_,wk_refl,?_⟩
 refine wp_seq (wp_seq (wg [6,7,12] [4,5] ?_))
 refine wp_post ?_
 refine reg_in (sz 1 1 ?_)
 refine bind_elim h (fun a69 q70 h=>?_)
 refine idxF (enc:=(eL false eTpath_weighed)) (ls:=x68) (x:=a69) (n:=0) (ob:=0) (j:=1) kr kr q70 gE ?_
 refine loadF (enc:=(eL false eTpath_weighed)) (ls:=x68) (x:=a69) (n:=0) (ob:=0) (j:=1) kr kr q70 gE ?_
 refine bind_elim h (fun a71 q72 h=>?_)
 refine idxI (enc:=(eL false eTpath_weighed)) (ls:=x68) (x:=a69) (y:=a71) (n:=0) (c:=0) (w:=1) (j:=1) (fl:=false) kr kr q70 q72 rfl gE ?_
 refine loadI (enc:=(eL false eTpath_weighed)) (ls:=x68) (x:=a69) (y:=a71) (n:=0) (m:=0) (w:=1) (j:=1) (c:=0) (fl:=false) kr kr q70 q72 rfl gE ?_
 refine lenL (enc:=eTpath_weighed) (l:=a71) (fl:=false) kr gE ?_
 refine sz 1 7 (reg_end rfl ?_)
 refine ⟨_,wk_refl,?_⟩
 refine wp_block ?_
 refine wwh h (fun s73=>⟨[(6,.ref 0 0 s73.2.1.length),(7,.ref 1 0 s73.2.2.length),(40,eL false eTpath_weighed a71),(41,vI (zn a71)),(42,vI s73.1)],[oR false 1 z1 s73.2.1,oR true 1 eI s73.2.2],59⟩) (fun v out=>out=.go (.exit 0) ⟨[(6,.ref 0 0 v.1.length),(7,.ref 1 0 v.2.length)],[oR false 1 z1 v.1,oR true 1 eI v.2],59⟩) (wk_trans (wk_gc (live:=[6,7,40,41,42]) (keep:=[]) (st':=⟨[(6,.nils),(7,.nils),(40,eL false eTpath_weighed a71),(41,vI (zn a71)),(42,vI 0)],[],59⟩) kr) (wk_trans (wk_nil 6 1 true false (st':=⟨[(6,.ref 0 0 0),(7,.nils),(40,eL false eTpath_weighed a71),(41,vI (zn a71)),(42,vI 0)],[.row false false true false 1 []],59⟩) kr) (wk_trans (wk_nil 7 1 true true (st':=⟨[(6,.ref 0 0 0),(7,.ref 1 0 0),(40,eL false eTpath_weighed a71),(41,vI (zn a71)),(42,vI 0)],[.row false false true false 1 [],.row false false true true 1 []],59⟩) kr) (wk_gc (live:=[6,7,40,41,42]) (keep:=[0,1]) kr)))) ?_ ?_
 ·intro s73 o h
  unfold g_path_Most_b5 at h
  refine sq (wp_seq ?_)
  refine wb [43] h (fun q75 h=>?_) (fun q75 h=>?_)
  ·refine wcT (wp_skip (wp_seq (wp_block (wp_seq ?_))))
   refine wp_post ?_
   refine reg_in ?_
   refine bind_elim h (fun a76 q77 h=>?_)
   refine idxL' (enc:=eTpath_weighed) (l:=a71) (n:=s73.1) (fl:=false) (w:=2) (a:=a76) kr rfl gE q77 ?_
   refine sz 1 2 ?_
   refine sgL false [] [] false gE ?_
   refine sz 1 4 (reg_end rfl ?_)
   refine ⟨_,wk_refl,?_⟩
   refine wp_post ?_
   refine rga hfol (sy 3 3 ?_)
   refine sgL false [] [.lst true] false gE ?_
   refine appR (enc:=z1) (l:=s73.2.1) (m:=([a76.path]:(List (List Int)))) (w:=1) (bytes:=24) (ob:=0) (nr:=true) (fl:=false) (nr':=true) (fl':=false) (b:=.ref 3 0 1) (rds:=[3]) false kr kr kr rfl gE kr h (fun h=>?_)
   refine sy 3 8 ?_
   refine sgL false [] [] true gE ?_
   refine appR (enc:=eI) (l:=s73.2.2) (m:=([a76.weight]:(List Int))) (w:=1) (bytes:=8) (ob:=1) (nr:=true) (fl:=true) (nr':=true) (fl':=true) (b:=.ref 5 0 1) (rds:=[5]) false kr kr kr rfl gE kr h (fun h=>?_)
   refine sy 2 12 (rgd ?_)
   refine ⟨_,wk_refl,?_⟩
   refine wgc [6,7,40,41,42] [4,6] ⟨[(6,.ref 0 0 ((s73.2.1++([a76.path]:(List (List Int)))).length)),(7,.ref 1 0 ((s73.2.2++([a76.weight]:(List Int))).length)),(40,eL false eTpath_weighed a71),(41,vI (zn a71)),(42,vI s73.1)],[oR false 1 z1 (s73.2.1++([a76.path]:(List (List Int)))),oR true 1 eI (s73.2.2++([a76.weight]:(List Int)))],59⟩ ?_
   refine rn ?_
   cases h
   exact ⟨_,rfl,(wk_gc (live:=[6,7,40,41,42]) (keep:=[0,1]) kr)⟩
  refine wcF (wg [6,7] [0,1] ?_)
  refine wp_exit ?_
  cases h
  exact ⟨kr,rfl⟩
 intro x79 h out hx
 subst hx
 refine sq (wg [6,7,8] [0,1] ?_)
 cases h
 exact wp_ret (show fnOut _ _ _ _=_ from by kernel_rfl)
theorem g_slices_Equal_int_int_ok (p0:(List Int)) (p1:(List Int)) (x:Bool) (h:g_slices_Equal_int_int p0 p1=some x):CallOk Try.prog 19 [z1 p0,z1 p1] (.ret (vB x) []):=by
 refine fn_ok [] Try.func19 rfl (by decide +kernel) rfl ?_
 unfold g_slices_Equal_int_int at h
 refine wp_eqB (base':=0) (st':=⟨[(0,z1 p0),(1,z1 p1)],[],26⟩) kr kr ?_
 refine sq (wp_seq (wp_seq (reg_in (sz 1 1 ?_))))
 refine lenL (enc:=eI) (l:=p0) (fl:=true) kr gE ?_
 refine sz 1 3 ?_
 refine lenL (enc:=eI) (l:=p1) (fl:=true) kr gE ?_
 refine sz 1 5 (reg_end rfl ?_)
 refine wbz h (fun q2 h=>?_) (fun q2 h=>?_)
 ·refine wp_seq (wg [] [] (rn ?_))
  refine wgc [4] [] ⟨[(4,vB false)],[],26⟩ ?_
  cases h
  exact wp_ret (show fnOut _ _ _ _=_ from by kernel_rfl)
 refine wp_skip (wp_seq (wp_seq (wg [0,1] [] (reg_in (sz 1 1 ?_)))))
 refine lenL (enc:=eI) (l:=p0) (fl:=true) kr gE ?_
 refine sz 1 3 (reg_end rfl (wp_block ?_))
 refine wwh h (fun s3=>⟨[(0,z1 p0),(1,z1 p1),(12,vI (zn p0)),(13,vI s3)],[],26⟩) (fun x out=>out=match x with | .inl v=>.go (.ret) ⟨[(4,vB false)],[],26⟩ | .inr v=>.go (.exit 0) ⟨[],[],26⟩) (wk_gc (live:=[0,1,12,13]) (keep:=[]) kr) ?_ ?_
 ·intro s3 o h
  unfold g_slices_Equal_int_int_b0 at h
  refine sq (wp_seq ?_)
  refine wb [14] h (fun q5 h=>?_) (fun q5 h=>?_)
  ·refine wcT (wp_skip (wp_seq (wp_block (sq (wp_seq (rga hfol (sy 2 2 ?_)))))))
   refine bind_elim h (fun a6 q7 h=>?_)
   refine idxL' (enc:=eI) (l:=p0) (n:=s3) (fl:=true) (w:=1) (a:=a6) kr rfl gE q7 ?_
   refine sy 3 6 ?_
   refine bind_elim h (fun a8 q9 h=>?_)
   refine idxL' (enc:=eI) (l:=p1) (n:=s3) (fl:=true) (w:=1) (a:=a8) kr rfl gE q9 ?_
   refine sy 2 9 (rgd ?_)
   refine wbz h (fun q11 h=>?_) (fun q11 h=>?_)
   ·refine wp_seq ?_
    refine wgc [] [] ⟨[],[],26⟩ ?_
    refine rn (wg [4] [] ?_)
    refine wp_ret ?_
    cases h
    exact ⟨kr,rfl⟩
   refine wp_skip ?_
   refine wgc [0,1,12,13] [] ⟨[(0,z1 p0),(1,z1 p1),(12,vI (zn p0)),(13,vI s3)],[],26⟩ ?_
   refine rn ?_
   cases h
   exact ⟨_,rfl,(wk_gc (live:=[0,1,12,13]) (keep:=[]) kr)⟩
  refine wcF (wg [] [] ?_)
  refine wp_exit ?_
  cases h
  exact ⟨kr,rfl⟩
 intro x12 h out hx
 subst hx
 rcases x12 with x13 | x14
 ·dsimp only at h ⊢
  cases h
  show fnOut _ _ _ _=_
  kernel_rfl
 ·dsimp only at h ⊢
  refine sq (wg [4] [] ?_)
  cases h
  exact wp_ret (show fnOut _ _ _ _=_ from by kernel_rfl)
theorem g_slices_Repeat_int_int_ok (p0:(List Int)) (p1:Int) (x:(List Int)) (h:g_slices_Repeat_int_int p0 p1=some x):CallOk Try.prog 81 [z1 p0,vI p1] (.ret (.ref 0 0 x.length) [oR true 1 eI x]):=by
 refine fn_ok [] Try.func81 rfl (by decide +kernel) rfl ?_
 unfold g_slices_Repeat_int_int at h
 refine wp_eqB (base':=0) (st':=⟨[(0,z1 p0),(1,vI p1)],[],48⟩) kr kr ?_
 refine sq (wp_seq (sq ?_))
 refine wb [10] h (fun q2 h=>?_) (fun q2 h=>?_)
 ·refine wcT (reg_in ?_)
  cases h
 refine wcF (wp_skip (wp_seq (reg_in (sz 1 1 ?_))))
 refine lenL (enc:=eI) (l:=p0) (fl:=true) kr gE ?_
 refine sz 3 5 ?_
 refine callW bodyB_93 (g_math_bits_Mul_ok (zv ((zn p0))) (zv (p1))) h (fun x3 _ h=>?_)
 refine sz 5 11 (reg_end rfl (wp_seq (wp_seq ?_)))
 refine wgc [0,5,6] [] ⟨[(0,z1 p0),(5,.int .u64 x3.1),(6,.int .u64 x3.2)],[],48⟩ ?_
 refine reg_in (sz 3 3 ?_)
 refine rb [22,23] h (fun q6 h=>?_) (fun q6 h=>?_)
 ·refine sz 3 6 (reg_end rfl (wcT (wg [0,6] [] (reg_in ?_))))
  cases h
 refine sz 3 6 (reg_end rfl ?_)
 refine wbz h (fun q8 h=>?_) (fun q8 h=>?_)
 ·refine wgc [0,6] [] ⟨[(0,z1 p0),(6,.int .u64 x3.2)],[],48⟩ ?_
  refine reg_in ?_
  cases h
 refine wp_skip (wp_seq (wg [0,6] [] (reg_in (sz 2 2 ?_))))
 refine mkL (enc:=eI) (z:=(0:Int)) (z0:=vI 0) (n:=zw (x3.2)) (m:=zw (x3.2)) (w:=1) (bytes:=8) [] true kr rfl gE kr h (fun h=>?_)
 refine sz 1 4 (reg_end rfl (wp_seq (reg_in (sz 2 2 ?_))))
 refine cpR (enc:=eI) (l:=(List.replicate (zt (zw (x3.2))) (0:Int))) (m:=p0) (w:=1) (ob:=0) (i0:=0) (n0:=(List.replicate (zt (zw (x3.2))) (0:Int)).length) (nr:=true) (fl:=true) (fl':=true) (b:=z1 p0) (rds:=[]) kr kr (elems_lst (fun _=>rfl)) full_le gE kr ?_
 refine rknN (n:=(List.replicate (zt (zw (x3.2))) (0:Int)).length) (m:=(ovr (List.replicate (zt (zw (x3.2))) (0:Int)) 0 (List.take ((List.replicate (zt (zw (x3.2))) (0:Int)).length) p0)).length) (S:=fun n17=>⟨[(0,z1 p0),(6,.int .u64 x3.2),(28,.int .u64 x3.2),(29,vI (zw (x3.2))),(30,.ref 0 0 n17),(7,.ref 0 0 n17),(31,.ref 0 0 n17),(32,z1 p0),(33,vI ((min p0.length ((List.replicate (zt (zw (x3.2))) (0:Int)).length):Nat):Int))],[oR true 1 eI (ovr (List.replicate (zt (zw (x3.2))) (0:Int)) 0 (List.take ((List.replicate (zt (zw (x3.2))) (0:Int)).length) p0))],48⟩) (ovr_len ..) ?_
 refine sz 1 4 (reg_end rfl (wp_seq (wp_block ?_)))
 refine wwh h (fun s9=>⟨[(7,.ref 0 0 s9.2.length),(8,vI s9.1)],[oR true 1 eI s9.2],48⟩) (fun v out=>out=.go (.exit 0) ⟨[(7,.ref 0 0 v.length)],[oR true 1 eI v],48⟩) (wk_gc (live:=[7,8]) (keep:=[0]) kr) ?_ ?_
 ·intro s9 o h
  unfold g_slices_Repeat_int_int_b0 at h
  refine wp_seq (sq ?_)
  refine wb [37] h (fun q11 h=>?_) (fun q11 h=>?_)
  ·refine wcT (wp_skip (wp_block (rga hfol (sy 3 3 ?_))))
   refine sliceP (enc:=eI) (l:=s9.2) (ob:=0) (ro:=false) (nr:=true) (fl:=true) (lo:=(some (vI s9.1))) (hi:=none) (a:=s9.1) (b:=(zn s9.2)) (w:=1) kr kr rfl rfl gE h (fun q12 h=>?_)
   refine sy 2 6 ?_
   refine sliceP (enc:=eI) (l:=s9.2) (ob:=0) (ro:=false) (nr:=true) (fl:=true) (lo:=none) (hi:=(some (vI s9.1))) (a:=0) (b:=s9.1) (w:=1) kr kr rfl rfl gE h (fun q13 h=>?_)
   refine cpR (enc:=eI) (l:=s9.2) (m:=(sub s9.2 0 s9.1)) (w:=1) (ob:=0) (i0:=(zt s9.1)) (n0:=(zt (zn s9.2) - zt s9.1)) (nr:=true) (fl:=true) (fl':=true) (b:=.ref 0 0 (zt s9.1 - zt (0:Int))) (rds:=[0]) kr kr (elems_part (ob:=0) (a:=0) (b:=s9.1) (ro:=false) kr q13) (part_le q12) gE kr ?_
   refine rknN (n:=s9.2.length) (m:=(ovr s9.2 (zt s9.1) (List.take (zt (zn s9.2) - zt s9.1) (sub s9.2 0 s9.1))).length) (S:=fun n14=>⟨[(7,.ref 0 0 n14),(8,vI s9.1),(34,vI s9.1),(35,.ref 0 0 n14),(36,vI (zn s9.2)),(37,vB true),(38,vI s9.1),(39,.ref 0 0 n14),(40,vI s9.1),(41,.ref 0 (zt s9.1) (zt (zn s9.2) - zt s9.1)),(42,.ref 0 0 n14),(43,vI s9.1),(44,.ref 0 0 (zt s9.1 - zt (0:Int))),(45,vI ((min (sub s9.2 0 s9.1).length (zt (zn s9.2) - zt s9.1):Nat):Int))],[oR true 1 eI (ovr s9.2 (zt s9.1) (List.take (zt (zn s9.2) - zt s9.1) (sub s9.2 0 s9.1)))],48⟩) (ovr_len ..) ?_
   refine sy 2 10 (rgd ?_)
   cases h
   exact ⟨_,rfl,(wk_gc (live:=[7,8]) (keep:=[0]) kr)⟩
  refine wcF (wg [7] [0] ?_)
  refine wp_exit ?_
  cases h
  exact ⟨kr,rfl⟩
 intro x16 h out hx
 subst hx
 refine sq (wg [4] [0] ?_)
 cases h
 exact wp_ret (show fnOut _ _ _ _=_ from by kernel_rfl)
theorem g_path_Best_1_ok (p0:Int) (p1:Int) (x:Int) (h:g_path_Best_1 p0 p1=some x):CallOk Try.prog 50 [vI p0,vI p1] (.ret (vI x) []):=by
 refine fn_ok [] Try.func50 rfl (by decide +kernel) rfl ?_
 unfold g_path_Best_1 at h
 refine wp_eqB (base':=0) (st':=⟨[(0,vI p0),(1,vI p1)],[],8⟩) kr kr ?_
 refine sq (sq (wg [4] [] ?_))
 cases h
 exact wp_ret (show fnOut _ _ _ _=_ from by kernel_rfl)
theorem g_path_multiplied_ok (p0:Int) (p1:Int) (p2:Int) (p3:Int) (x:Int) (h:g_path_multiplied p0 p1 p2 p3=some x):CallOk Try.prog 51 [vI p0,vI p1,vI p2,vI p3] (.ret (vI x) []):=by
 refine fn_ok [] Try.func51 rfl (by decide +kernel) rfl ?_
 unfold g_path_multiplied at h
 refine wp_eqB (base':=0) (st':=⟨[(0,vI p0),(1,vI p1),(2,vI p2),(3,vI p3)],[],12⟩) kr kr ?_
 refine sq (sq (wg [8] [] ?_))
 cases h
 exact wp_ret (show fnOut _ _ _ _=_ from by kernel_rfl)
noncomputable abbrev s20_5 (x1:(Tpath_searcher × Int)):List AObj:=[oX true false 5 (.agg [vI x1.1.Hidden.Grain,z1 x1.1.Hidden.First,z2 x1.1.Hidden.Step,z2 x1.1.Hidden.Show,z1 x1.1.seen])]
noncomputable abbrev s20_7 (x1:(Tpath_searcher × Int)):List (Nat × AV):=[(0,.agg [vI x1.1.Hidden.Grain,z1 x1.1.Hidden.First,z2 x1.1.Hidden.Step,z2 x1.1.Hidden.Show,z1 x1.1.seen]),(1,.agg [vI 1,vI 0,.fn (.func 50) [] [],.fn (.func 51) [] []])]
noncomputable abbrev s20_31 (x1:(Tpath_searcher × Int)) (s15:(Int × (List (List Int)))):List AObj:=[oX true false 5 (.agg [vI x1.1.Hidden.Grain,z1 x1.1.Hidden.First,z2 x1.1.Hidden.Step,z2 x1.1.Hidden.Show,z1 x1.1.seen]),oX true false 5 (.agg [vI x1.1.Hidden.Grain,z1 x1.1.Hidden.First,z2 x1.1.Hidden.Step,z2 x1.1.Hidden.Show,z1 x1.1.seen]),oX true false 4 (.agg [vI 1,vI 0,.fn (.func 50) [] [],.fn (.func 51) [] []]),.refs 4 (eF eI s15.2),.fam 1 true (eF eI s15.2)]
noncomputable abbrev s20_52 (x1:(Tpath_searcher × Int)) (s39:(Int × (List (List Int)))):List AObj:=[oX true false 5 (.agg [vI x1.1.Hidden.Grain,z1 x1.1.Hidden.First,z2 x1.1.Hidden.Step,z2 x1.1.Hidden.Show,z1 x1.1.seen]),oX true false 5 (.agg [vI x1.1.Hidden.Grain,z1 x1.1.Hidden.First,z2 x1.1.Hidden.Step,z2 x1.1.Hidden.Show,z1 x1.1.seen]),oX true false 4 (.agg [vI 1,vI 0,.fn (.func 50) [] [],.fn (.func 51) [] []]),.refs 4 (eF eI s39.2),.fam 1 true (eF eI s39.2)]
noncomputable abbrev s20_67 (x1:(Tpath_searcher × Int)) (s10:(Int × (List (List Int)))):List AObj:=[oX true false 5 (.agg [vI x1.1.Hidden.Grain,z1 x1.1.Hidden.First,z2 x1.1.Hidden.Step,z2 x1.1.Hidden.Show,z1 x1.1.seen]),oX true false 5 (.agg [vI x1.1.Hidden.Grain,z1 x1.1.Hidden.First,z2 x1.1.Hidden.Step,z2 x1.1.Hidden.Show,z1 x1.1.seen]),oX true false 4 (.agg [vI 1,vI 0,.fn (.func 50) [] [],.fn (.func 51) [] []]),.refs 4 (eF eI s10.2),.fam 1 true (eF eI s10.2)]
noncomputable abbrev s20_96 (s39:(Int × (List (List Int)))) (s10:(Int × (List (List Int)))) (s42:(Int × Int)) (x1:(Tpath_searcher × Int)):List (Nat × AV):=[(2,.ptr 1 0 0),(3,.ptr 2 0 0),(5,.ref 3 0 s39.2.length),(6,vI s10.1),(8,vI s39.1),(9,vI s42.1),(43,vI (zn x1.1.Hidden.First)),(44,vI s39.1),(52,vI (zn x1.1.Hidden.First)),(53,vI s42.2)]
noncomputable abbrev s20_112 (x1:(Tpath_searcher × Int)) (s15:(Int × (List (List Int)))) (s10:(Int × (List (List Int)))) (a33:(List Int)):List AObj:=[oX true false 5 (.agg [vI x1.1.Hidden.Grain,z1 x1.1.Hidden.First,z2 x1.1.Hidden.Step,z2 x1.1.Hidden.Show,z1 x1.1.seen]),oX true false 5 (.agg [vI x1.1.Hidden.Grain,z1 x1.1.Hidden.First,z2 x1.1.Hidden.Step,z2 x1.1.Hidden.Show,z1 x1.1.seen]),oX true false 4 (.agg [vI 1,vI 0,.fn (.func 50) [] [],.fn (.func 51) [] []]),.row false false false false 1 ((famRefs 4 0 (eF eI (List.set s15.2 (zt s10.1) ([]:List Int)))).set (zt s10.1) (.ref 5 0 a33.length)),.fam 1 true (eF eI (List.set s15.2 (zt s10.1) ([]:List Int))),oR true 1 eI a33]
noncomputable abbrev s20_113 (s15:(Int × (List (List Int)))) (s10:(Int × (List (List Int)))) (x32:Int):List (Nat × AV):=[(2,.ptr 1 0 0),(3,.ptr 2 0 0),(5,.ref 3 0 ((List.set s15.2 (zt s10.1) ([]:List Int)).length)),(6,vI s10.1),(9,vI x32),(43,vI 1),(44,vI s15.1),(79,.ref 3 0 ((List.set s15.2 (zt s10.1) ([]:List Int)).length)),(80,vI s10.1),(81,.ref 3 0 ((List.set s15.2 (zt s10.1) ([]:List Int)).length)),(82,vI s10.1)]
noncomputable abbrev s20_114 (x1:(Tpath_searcher × Int)) (s15:(Int × (List (List Int)))) (s10:(Int × (List (List Int)))) (a33:(List Int)) (x32:Int):List AObj:=[oX true false 5 (.agg [vI x1.1.Hidden.Grain,z1 x1.1.Hidden.First,z2 x1.1.Hidden.Step,z2 x1.1.Hidden.Show,z1 x1.1.seen]),oX true false 5 (.agg [vI x1.1.Hidden.Grain,z1 x1.1.Hidden.First,z2 x1.1.Hidden.Step,z2 x1.1.Hidden.Show,z1 x1.1.seen]),oX true false 4 (.agg [vI 1,vI 0,.fn (.func 50) [] [],.fn (.func 51) [] []]),.refs 4 (eF eI (List.set (List.set s15.2 (zt s10.1) ([]:List Int)) (zt s10.1) (a33++([x32]:(List Int))))),.fam 1 true (eF eI (List.set (List.set s15.2 (zt s10.1) ([]:List Int)) (zt s10.1) (a33++([x32]:(List Int))))),.dead,.row false false true true 1 [vI x32],.dead]
noncomputable abbrev s20_134 (x1:(Tpath_searcher × Int)) (s39:(Int × (List (List Int)))) (s10:(Int × (List (List Int)))) (a57:(List Int)):List AObj:=[oX true false 5 (.agg [vI x1.1.Hidden.Grain,z1 x1.1.Hidden.First,z2 x1.1.Hidden.Step,z2 x1.1.Hidden.Show,z1 x1.1.seen]),oX true false 5 (.agg [vI x1.1.Hidden.Grain,z1 x1.1.Hidden.First,z2 x1.1.Hidden.Step,z2 x1.1.Hidden.Show,z1 x1.1.seen]),oX true false 4 (.agg [vI 1,vI 0,.fn (.func 50) [] [],.fn (.func 51) [] []]),.row false false false false 1 ((famRefs 4 0 (eF eI (List.set s39.2 (zt s10.1) ([]:List Int)))).set (zt s10.1) (.ref 5 0 a57.length)),.fam 1 true (eF eI (List.set s39.2 (zt s10.1) ([]:List Int))),oR true 1 eI a57]
noncomputable abbrev s20_137 (x1:(Tpath_searcher × Int)) (s39:(Int × (List (List Int)))) (s10:(Int × (List (List Int)))) (a57:(List Int)) (x56:Int):List AObj:=[oX true false 5 (.agg [vI x1.1.Hidden.Grain,z1 x1.1.Hidden.First,z2 x1.1.Hidden.Step,z2 x1.1.Hidden.Show,z1 x1.1.seen]),oX true false 5 (.agg [vI x1.1.Hidden.Grain,z1 x1.1.Hidden.First,z2 x1.1.Hidden.Step,z2 x1.1.Hidden.Show,z1 x1.1.seen]),oX true false 4 (.agg [vI 1,vI 0,.fn (.func 50) [] [],.fn (.func 51) [] []]),.refs 4 (eF eI (List.set (List.set s39.2 (zt s10.1) ([]:List Int)) (zt s10.1) (a57++([x56]:(List Int))))),.fam 1 true (eF eI (List.set (List.set s39.2 (zt s10.1) ([]:List Int)) (zt s10.1) (a57++([x56]:(List Int))))),.dead,.row false false true true 1 [vI x56],.dead]
noncomputable abbrev s20_149 (x1:(Tpath_searcher × Int)) (x64:(List (List Int))):List AObj:=[oX true false 5 (.agg [vI x1.1.Hidden.Grain,z1 x1.1.Hidden.First,z2 x1.1.Hidden.Step,z2 x1.1.Hidden.Show,z1 x1.1.seen]),.refs 2 (eF eI x64),.fam 1 true (eF eI x64)]
noncomputable abbrev s20_183 (x1:(Tpath_searcher × Int)) (x64:(List (List Int))) (s71:(Int × Int × (List Int))):List AObj:=[oX true false 5 (.agg [vI x1.1.Hidden.Grain,z1 x1.1.Hidden.First,z2 x1.1.Hidden.Step,z2 x1.1.Hidden.Show,z1 x1.1.seen]),.refs 3 (eF eI x64),oR true 1 eI s71.2.2,.fam 1 true (eF eI x64)]
theorem g_path_Best_ok (p0:Tapi_Hidden) (p1:(List Int)) (x:((List Int) × Int × Int)) (h:g_path_Best p0 p1=some x):CallOk Try.prog 20 [.agg [vI p0.Grain,z1 p0.First,z2 p0.Step,z2 p0.Show],z1 p1] (.ret (.tup [.ref 0 0 x.1.length,vI x.2.1,vI x.2.2]) [oR true 1 eI x.1]):=by
 refine fn_ok [] Try.func20 rfl (by decide +kernel) rfl ?_
 unfold g_path_Best at h
 refine wp_eqB (base':=0) (st':=⟨[(0,.agg [vI p0.Grain,z1 p0.First,z2 p0.Step,z2 p0.Show]),(1,z1 p1)],[],79⟩) kr kr ?_
 refine wp_seq (reg_in ?_)
 refine sgL false [] [] false gE ?_
 refine sz 3 4 (reg_end rfl ?_)
 refine wp_scope ?_
 refine wp_seq ?_
 refine wp_post ?_
 refine reg_in (sz 2 2 ?_)
 refine callW bodyB_35 (g_path_newSearcher_ok p0 p1) h (fun x1 _ h=>?_)
 refine sz 3 6 ?_
 refine sgL false [] [] false gE ?_
 refine sz 2 9 (reg_end rfl ?_)
 refine ⟨_,wk_refl,?_⟩
 refine wp_seq (wp_seq ?_)
 refine wgc [1,7,8] [1] ⟨[(1,z1 p1),(7,.ptr 0 0 0),(8,vI x1.2)],(s20_5 x1),79⟩ ?_
 refine rn ?_
 refine wb [21] h (fun q4 h=>?_) (fun q4 h=>?_)
 ·refine wcT (sq (wg [4,5,6] [] ?_))
  refine wp_wk (wk_nil 4 1 true true gE) ?_
  cases h
  exact wp_ret (show fnOut _ _ _ _=_ from by kernel_rfl)
 refine wcF (wp_skip (wp_seq ?_))
 refine wp_post ?_
 refine reg_in (sz 2 2 ?_)
 refine inlR (f:=49) (fn:=Try.f49) (as0:=[.agg [vI x1.1.Hidden.Grain,z1 x1.1.Hidden.First,z2 x1.1.Hidden.Step,z2 x1.1.Hidden.Show,z1 x1.1.seen],.agg [vI 1,vI 0,.fn (.func 50) [] [],.fn (.func 51) [] []]]) kr Try.func49 rfl (by decide +kernel) rfl ?_
 refine wp_eqB (base':=1) (st':=⟨(s20_7 x1),(s20_5 x1),91⟩) kr kr ?_
 refine wp_seq (reg_in ?_)
 refine sgL false [] [] false gE ?_
 refine sgL false [] [] false gE ?_
 refine sz 1 3 (reg_end rfl (wp_seq ?_))
 refine wp_post ?_
 refine reg_in (sz 2 2 ?_)
 refine lenL (enc:=eI) (l:=x1.1.seen) (fl:=true) kr gE ?_
 refine sz 1 4 ?_
 refine mkL (enc:=fun _=>AV.nils) (z:=([]:(List Int))) (z0:=AV.nils) (n:=zw ((zn x1.1.seen)+1)) (m:=zw ((zn x1.1.seen)+1)) (w:=1) (bytes:=24) [] false kr rfl gE kr h (fun h=>?_)
 refine sgz 1 6 (S:=⟨(s20_7 x1)++[(2,.ptr 1 0 0),(3,.ptr 2 0 0),(4,.nils),(11,.ptr 1 0 4),(12,z1 x1.1.seen),(13,vI (zn x1.1.seen)),(14,vI (zw ((zn x1.1.seen)+1)))]++[(15,.ref 3 0 ((List.replicate (zt (zw ((zn x1.1.seen)+1))) ([]:(List Int))).length)),(5,.ref 3 0 ((List.replicate (zt (zw ((zn x1.1.seen)+1))) ([]:(List Int))).length))],[oX true false 5 (.agg [vI x1.1.Hidden.Grain,z1 x1.1.Hidden.First,z2 x1.1.Hidden.Step,z2 x1.1.Hidden.Show,z1 x1.1.seen]),oX true false 5 (.agg [vI x1.1.Hidden.Grain,z1 x1.1.Hidden.First,z2 x1.1.Hidden.Step,z2 x1.1.Hidden.Show,z1 x1.1.seen]),oX true false 4 (.agg [vI 1,vI 0,.fn (.func 50) [] [],.fn (.func 51) [] []]),.row false false true false 1 (List.map (fun _=>AV.nils) (List.replicate (zt (zw ((zn x1.1.seen)+1))) ([]:(List Int))))],91⟩) ?_
 refine reg_end rfl ?_
 refine ⟨⟨(s20_7 x1)++[(2,.ptr 1 0 0),(3,.ptr 2 0 0),(4,.nils),(11,.ptr 1 0 4),(12,z1 x1.1.seen),(13,vI (zn x1.1.seen)),(14,vI (zw ((zn x1.1.seen)+1)))]++[(15,.ref 3 0 ((List.replicate (zt (zw ((zn x1.1.seen)+1))) ([]:(List Int))).length)),(5,.ref 3 0 ((List.replicate (zt (zw ((zn x1.1.seen)+1))) ([]:(List Int))).length))],[oX true false 5 (.agg [vI x1.1.Hidden.Grain,z1 x1.1.Hidden.First,z2 x1.1.Hidden.Step,z2 x1.1.Hidden.Show,z1 x1.1.seen]),oX true false 5 (.agg [vI x1.1.Hidden.Grain,z1 x1.1.Hidden.First,z2 x1.1.Hidden.Step,z2 x1.1.Hidden.Show,z1 x1.1.seen]),oX true false 4 (.agg [vI 1,vI 0,.fn (.func 50) [] [],.fn (.func 51) [] []]),.refs 4 (eF eI (List.replicate (zt (zw ((zn x1.1.seen)+1))) ([]:(List Int)))),.fam 1 true (eF eI (List.replicate (zt (zw ((zn x1.1.seen)+1))) ([]:(List Int))))],91⟩,(wk_fam 3 1 true eI (x0:=([]:List Int)) (enc1:=fun _=>AV.nils) (st':=⟨(s20_7 x1)++[(2,.ptr 1 0 0),(3,.ptr 2 0 0),(4,.nils),(11,.ptr 1 0 4),(12,z1 x1.1.seen),(13,vI (zn x1.1.seen)),(14,vI (zw ((zn x1.1.seen)+1)))]++[(15,.ref 3 0 ((List.replicate (zt (zw ((zn x1.1.seen)+1))) ([]:(List Int))).length)),(5,.ref 3 0 ((List.replicate (zt (zw ((zn x1.1.seen)+1))) ([]:(List Int))).length))],[oX true false 5 (.agg [vI x1.1.Hidden.Grain,z1 x1.1.Hidden.First,z2 x1.1.Hidden.Step,z2 x1.1.Hidden.Show,z1 x1.1.seen]),oX true false 5 (.agg [vI x1.1.Hidden.Grain,z1 x1.1.Hidden.First,z2 x1.1.Hidden.Step,z2 x1.1.Hidden.Show,z1 x1.1.seen]),oX true false 4 (.agg [vI 1,vI 0,.fn (.func 50) [] [],.fn (.func 51) [] []]),.refs 4 (eF eI (List.replicate (zt (zw ((zn x1.1.seen)+1))) ([]:(List Int)))),.fam 1 true (eF eI (List.replicate (zt (zw ((zn x1.1.seen)+1))) ([]:(List Int))))],91⟩) rfl rfl rfl (by kernel_rfl)),?_⟩
 refine wp_seq (wg [2,3,5] [1,2,3,4] ?_)
 refine wp_post ?_
 refine rga hfol (sy 3 3 ?_)
 refine lenL (enc:=eI) (l:=x1.1.seen) (fl:=true) kr gE ?_
 refine sy 2 6 ?_
 refine sgL false [] [] true gE ?_
 refine sy 3 10 ?_
 refine lenL (enc:=eI) (l:=x1.1.Hidden.First) (fl:=true) kr gE ?_
 refine callR (as0:=[.ref 5 0 1,vI (zn x1.1.Hidden.First)]) (ids:=[5]) kr bodyB_81 (msnap_cons (show snap _ _ _=some (_,[5]) from kr) (msnap_cons rfl msnap_nil (by rfl)) (by rfl)) (fun x5 q6=>g_slices_Repeat_int_int_ok [1] (zn x1.1.Hidden.First) x5 q6) gF h (fun x5 q6 h=>?_)
 refine bind_elim h (fun a7 q8 h=>?_)
 refine idxF (enc:=eI) (ls:=(List.replicate (zt (zw ((zn x1.1.seen)+1))) ([]:(List Int)))) (x:=a7) (n:=(zn x1.1.seen)) (ob:=3) (j:=4) kr kr q8 gE ?_
 refine storeF (enc:=eI) (ls:=(List.replicate (zt (zw ((zn x1.1.seen)+1))) ([]:(List Int)))) (x:=a7) (n:=(zn x1.1.seen)) (ob:=3) (j:=4) (m:=6) (q:=x5.length) (S:=⟨[(2,.ptr 1 0 0),(3,.ptr 2 0 0),(5,.ref 3 0 ((List.replicate (zt (zw ((zn x1.1.seen)+1))) ([]:(List Int))).length))]++[(16,.ref 3 0 ((List.replicate (zt (zw ((zn x1.1.seen)+1))) ([]:(List Int))).length)),(17,.ptr 1 0 4),(18,z1 x1.1.seen),(19,vI (zn x1.1.seen)),(20,.ptr 2 0 0),(21,vI 1)]++[(22,.ref 5 0 1),(23,.ptr 1 0 0),(24,.ptr 1 0 1),(25,z1 x1.1.Hidden.First),(26,vI (zn x1.1.Hidden.First)),(27,.ref 6 0 x5.length),(28,.ptr 3 (zt (zn x1.1.seen)) 0)],[oX true false 5 (.agg [vI x1.1.Hidden.Grain,z1 x1.1.Hidden.First,z2 x1.1.Hidden.Step,z2 x1.1.Hidden.Show,z1 x1.1.seen]),oX true false 5 (.agg [vI x1.1.Hidden.Grain,z1 x1.1.Hidden.First,z2 x1.1.Hidden.Step,z2 x1.1.Hidden.Show,z1 x1.1.seen]),oX true false 4 (.agg [vI 1,vI 0,.fn (.func 50) [] [],.fn (.func 51) [] []]),.row false false false false 1 ((famRefs 4 0 (eF eI (List.replicate (zt (zw ((zn x1.1.seen)+1))) ([]:(List Int))))).set (zt (zn x1.1.seen)) (.ref 6 0 x5.length)),.fam 1 true (eF eI (List.replicate (zt (zw ((zn x1.1.seen)+1))) ([]:(List Int)))),.row false false true true 1 [vI 1],oR true 1 eI x5],91⟩) kr kr q8 kr kr kr ?_
 refine rgd ?_
 refine ⟨⟨[(2,.ptr 1 0 0),(3,.ptr 2 0 0),(5,.ref 3 0 ((List.set (List.replicate (zt (zw ((zn x1.1.seen)+1))) ([]:(List Int))) (zt (zn x1.1.seen)) x5).length)),(16,.ref 3 0 ((List.set (List.replicate (zt (zw ((zn x1.1.seen)+1))) ([]:(List Int))) (zt (zn x1.1.seen)) x5).length)),(17,.ptr 1 0 4),(18,z1 x1.1.seen),(19,vI (zn x1.1.seen)),(20,.ptr 2 0 0),(21,vI 1),(22,.ref 5 0 1),(23,.ptr 1 0 0),(24,.ptr 1 0 1),(25,z1 x1.1.Hidden.First),(26,vI (zn x1.1.Hidden.First)),(28,.ptr 3 (zt (zn x1.1.seen)) 0)],[oX true false 5 (.agg [vI x1.1.Hidden.Grain,z1 x1.1.Hidden.First,z2 x1.1.Hidden.Step,z2 x1.1.Hidden.Show,z1 x1.1.seen]),oX true false 5 (.agg [vI x1.1.Hidden.Grain,z1 x1.1.Hidden.First,z2 x1.1.Hidden.Step,z2 x1.1.Hidden.Show,z1 x1.1.seen]),oX true false 4 (.agg [vI 1,vI 0,.fn (.func 50) [] [],.fn (.func 51) [] []]),.refs 4 (eF eI (List.set (List.replicate (zt (zw ((zn x1.1.seen)+1))) ([]:(List Int))) (zt (zn x1.1.seen)) x5)),.fam 1 true (eF eI (List.set (List.replicate (zt (zw ((zn x1.1.seen)+1))) ([]:(List Int))) (zt (zn x1.1.seen)) x5)),.row false false true true 1 [vI 1],.dead],91⟩,(wk_trans (wk_adopt 3 4 6 (enc:=eI) (ls:=(List.replicate (zt (zw ((zn x1.1.seen)+1))) ([]:(List Int)))) (x:=a7) (b:=x5) (n:=(zn x1.1.seen)) [2,3,5,16,17,18,19,20,21,22,23,24,25,26,28] (st':=⟨[(2,.ptr 1 0 0),(3,.ptr 2 0 0),(5,.ref 3 0 ((List.replicate (zt (zw ((zn x1.1.seen)+1))) ([]:(List Int))).length))]++[(16,.ref 3 0 ((List.replicate (zt (zw ((zn x1.1.seen)+1))) ([]:(List Int))).length)),(17,.ptr 1 0 4),(18,z1 x1.1.seen),(19,vI (zn x1.1.seen)),(20,.ptr 2 0 0),(21,vI 1)]++[(22,.ref 5 0 1),(23,.ptr 1 0 0),(24,.ptr 1 0 1),(25,z1 x1.1.Hidden.First),(26,vI (zn x1.1.Hidden.First)),(28,.ptr 3 (zt (zn x1.1.seen)) 0)],[oX true false 5 (.agg [vI x1.1.Hidden.Grain,z1 x1.1.Hidden.First,z2 x1.1.Hidden.Step,z2 x1.1.Hidden.Show,z1 x1.1.seen]),oX true false 5 (.agg [vI x1.1.Hidden.Grain,z1 x1.1.Hidden.First,z2 x1.1.Hidden.Step,z2 x1.1.Hidden.Show,z1 x1.1.seen]),oX true false 4 (.agg [vI 1,vI 0,.fn (.func 50) [] [],.fn (.func 51) [] []]),.refs 4 (eF eI (List.set (List.replicate (zt (zw ((zn x1.1.seen)+1))) ([]:(List Int))) (zt (zn x1.1.seen)) x5)),.fam 1 true (eF eI (List.set (List.replicate (zt (zw ((zn x1.1.seen)+1))) ([]:(List Int))) (zt (zn x1.1.seen)) x5)),.row false false true true 1 [vI 1],.dead],91⟩) rfl rfl rfl q8 (by kernel_rfl) (by kernel_rfl)) (wk_eq (congrArg (fun n9=>(⟨[(2,.ptr 1 0 0),(3,.ptr 2 0 0),(5,.ref 3 0 n9),(16,.ref 3 0 n9),(17,.ptr 1 0 4),(18,z1 x1.1.seen),(19,vI (zn x1.1.seen)),(20,.ptr 2 0 0),(21,vI 1),(22,.ref 5 0 1),(23,.ptr 1 0 0),(24,.ptr 1 0 1),(25,z1 x1.1.Hidden.First),(26,vI (zn x1.1.Hidden.First)),(28,.ptr 3 (zt (zn x1.1.seen)) 0)],[oX true false 5 (.agg [vI x1.1.Hidden.Grain,z1 x1.1.Hidden.First,z2 x1.1.Hidden.Step,z2 x1.1.Hidden.Show,z1 x1.1.seen]),oX true false 5 (.agg [vI x1.1.Hidden.Grain,z1 x1.1.Hidden.First,z2 x1.1.Hidden.Step,z2 x1.1.Hidden.Show,z1 x1.1.seen]),oX true false 4 (.agg [vI 1,vI 0,.fn (.func 50) [] [],.fn (.func 51) [] []]),.refs 4 (eF eI (List.set (List.replicate (zt (zw ((zn x1.1.seen)+1))) ([]:(List Int))) (zt (zn x1.1.seen)) x5)),.fam 1 true (eF eI (List.set (List.replicate (zt (zw ((zn x1.1.seen)+1))) ([]:(List Int))) (zt (zn x1.1.seen)) x5)),.row false false true true 1 [vI 1],.dead],91⟩:St)) (show (List.replicate (zt (zw ((zn x1.1.seen)+1))) ([]:(List Int))).length=(List.set (List.replicate (zt (zw ((zn x1.1.seen)+1))) ([]:(List Int))) (zt (zn x1.1.seen)) x5).length by simp only [List.length_set])))),?_⟩
 refine wp_seq (wp_seq (wg [2,3,5] [1,2,3,4] ?_))
 refine wp_post ?_
 refine reg_in (sz 2 2 ?_)
 refine lenL (enc:=eI) (l:=x1.1.seen) (fl:=true) kr gE ?_
 refine sz 2 5 (reg_end rfl ?_)
 refine ⟨_,wk_refl,?_⟩
 refine wp_block ?_
 refine wwh h (fun s10=>⟨[(2,.ptr 1 0 0),(3,.ptr 2 0 0),(5,.ref 3 0 s10.2.length),(6,vI s10.1)],(s20_67 x1 s10),91⟩) (fun v out=>out=.go (.exit 0) ⟨[(5,.ref 1 0 v.length)],[oX true false 5 (.agg [vI x1.1.Hidden.Grain,z1 x1.1.Hidden.First,z2 x1.1.Hidden.Step,z2 x1.1.Hidden.Show,z1 x1.1.seen]),.refs 2 (eF eI v),.fam 1 true (eF eI v)],91⟩) (wk_gc (live:=[2,3,5,6]) (keep:=[1,2,3,4]) kr) ?_ ?_
 ·intro s10 o h
  unfold g_path_Best_b4 at h
  refine wp_seq (sq ?_)
  refine wb [34] h (fun q12 h=>?_) (fun q12 h=>?_)
  ·refine wcT (wp_skip (wp_seq (wp_block (wp_seq ?_))))
   refine wp_post ?_
   refine reg_in (sz 3 3 ?_)
   refine lenL (enc:=eI) (l:=x1.1.Hidden.First) (fl:=true) kr gE ?_
   refine sz 1 5 (reg_end rfl ?_)
   refine ⟨_,wk_refl,?_⟩
   refine wp_seq (wp_seq ?_)
   refine wgc [2,3,5,6,7] [1,2,3,4] ⟨[(2,.ptr 1 0 0),(3,.ptr 2 0 0),(5,.ref 3 0 s10.2.length),(6,vI s10.1),(7,vI (zn x1.1.Hidden.First))],(s20_67 x1 s10),91⟩ ?_
   refine rn ?_
   refine wb [42] h (fun q14 h=>?_) (fun q14 h=>?_)
   ·refine wcT (rn (sq (wp_block ?_)))
    refine wwh h (fun s15=>⟨[(2,.ptr 1 0 0),(3,.ptr 2 0 0),(5,.ref 3 0 s15.2.length),(6,vI s10.1),(43,vI 1),(44,vI s15.1)],(s20_31 x1 s15),91⟩) (fun v out=>out=.go (.exit 2) ⟨[(2,.ptr 1 0 0),(3,.ptr 2 0 0),(5,.ref 3 0 v.length),(6,vI s10.1)],[oX true false 5 (.agg [vI x1.1.Hidden.Grain,z1 x1.1.Hidden.First,z2 x1.1.Hidden.Step,z2 x1.1.Hidden.Show,z1 x1.1.seen]),oX true false 5 (.agg [vI x1.1.Hidden.Grain,z1 x1.1.Hidden.First,z2 x1.1.Hidden.Step,z2 x1.1.Hidden.Show,z1 x1.1.seen]),oX true false 4 (.agg [vI 1,vI 0,.fn (.func 50) [] [],.fn (.func 51) [] []]),.refs 4 (eF eI v),.fam 1 true (eF eI v)],91⟩) (wk_gc (live:=[2,3,5,6,43,44]) (keep:=[1,2,3,4]) kr) ?_ ?_
    ·intro s15 o h
     unfold g_path_Best_b1 at h
     refine sq (wp_seq ?_)
     refine wb [45] h (fun q17 h=>?_) (fun q17 h=>?_)
     ·refine wcT (wp_skip (wp_seq (wp_block (sq (wp_seq ?_)))))
      refine wp_post ?_
      refine rn ?_
      refine ⟨_,wk_refl,?_⟩
      refine wp_seq (wp_seq ?_)
      refine wp_post ?_
      refine reg_in (sz 3 3 ?_)
      refine lenL (enc:=eI) (l:=x1.1.Hidden.First) (fl:=true) kr gE ?_
      refine sz 1 5 (reg_end rfl ?_)
      refine ⟨_,wk_refl,?_⟩
      refine wp_block ?_
      refine wwh h (fun s18=>⟨[(2,.ptr 1 0 0),(3,.ptr 2 0 0),(5,.ref 3 0 s15.2.length),(6,vI s10.1),(8,vI s15.1),(9,vI s18.1),(43,vI 1),(44,vI s15.1),(52,vI (zn x1.1.Hidden.First)),(53,vI s18.2)],(s20_31 x1 s15),91⟩) (fun v out=>out=.go (.exit 4) ⟨[(2,.ptr 1 0 0),(3,.ptr 2 0 0),(5,.ref 3 0 s15.2.length),(6,vI s10.1),(9,vI v),(43,vI 1),(44,vI s15.1)],(s20_31 x1 s15),91⟩) (wk_gc (live:=[2,3,5,6,8,9,43,44,52,53]) (keep:=[1,2,3,4]) kr) ?_ ?_
      ·intro s18 o h
       unfold g_path_Best_b0 at h
       refine sq (wp_seq ?_)
       refine wb [54] h (fun q20 h=>?_) (fun q20 h=>?_)
       ·refine wcT (wp_skip (wp_seq (wp_block (sq ?_))))
        refine wp_post ?_
        refine rga hfol (sy 11 11 ?_)
        refine callW bodyB_36 (g_path_searcher_into_ok x1.1 s10.1 s15.1 s18.2) h (fun x21 _ h=>?_)
        refine sy 3 15 ?_
        refine bind_elim h (fun a23 q24 h=>?_)
        refine idxF (enc:=eI) (ls:=s15.2) (x:=a23) (n:=zw (s10.1+1)) (ob:=3) (j:=4) kr kr q24 gE ?_
        refine loadF (enc:=eI) (ls:=s15.2) (x:=a23) (n:=zw (s10.1+1)) (ob:=3) (j:=4) kr kr q24 gE ?_
        refine sy 1 18 ?_
        refine bind_elim h (fun a25 q26 h=>?_)
        refine idxI (enc:=eI) (ls:=s15.2) (x:=a23) (y:=a25) (n:=zw (s10.1+1)) (c:=s18.2) (w:=1) (j:=4) (fl:=true) kr kr q24 q26 rfl gE ?_
        refine loadI (enc:=eI) (ls:=s15.2) (x:=a23) (y:=a25) (n:=zw (s10.1+1)) (m:=s18.2) (w:=1) (j:=4) (c:=0) (fl:=true) kr kr q24 q26 rfl gE ?_
        refine callW bodyB_51 (g_path_multiplied_ok s10.1 s18.2 x21 a25) h (fun x27 _ h=>?_)
        refine callR (as0:=[vI s18.1,vI x27]) (ids:=[]) (S:=fun x29=>⟨[(2,.ptr 1 0 0),(3,.ptr 2 0 0),(5,.ref 3 0 s15.2.length),(6,vI s10.1),(8,vI s15.1),(9,vI s18.1),(43,vI 1),(44,vI s15.1),(52,vI (zn x1.1.Hidden.First)),(53,vI s18.2)]++[(54,vB true),(55,vI s18.2),(10,vI s18.2),(56,.ptr 2 0 2),(57,.fn (.func 50) [] []),(58,vI s18.1),(59,.ptr 2 0 3),(60,.fn (.func 51) [] []),(61,vI s10.1),(62,vI s18.2),(63,.agg [vI x1.1.Hidden.Grain,z1 x1.1.Hidden.First,z2 x1.1.Hidden.Step,z2 x1.1.Hidden.Show,z1 x1.1.seen]),(64,vI s10.1),(65,vI s15.1),(66,vI s18.2)]++[(67,vI x21),(68,.ref 3 0 s15.2.length),(69,vI s10.1),(70,vI (zw (s10.1+1))),(71,.ptr 3 (zt (zw (s10.1+1))) 0),(72,.ref (fid 4 (zt (zw (s10.1+1)))) 0 a23.length),(73,vI s18.2)]++[(74,.ptr (fid 4 (zt (zw (s10.1+1)))) (zt s18.2) 0),(75,vI a25),(76,vI x27),(77,vI x29)],(s20_31 x1 s15),91⟩) kr bodyB_50 (msnap_cons rfl (msnap_cons rfl msnap_nil)) (fun x29 q30=>g_path_Best_1_ok s18.1 x27 x29 q30) (fun _=>by as_aux_lemma=>kernel_rfl) h (fun x29 q30 h=>?_)
        refine sy 1 23 (rgd ?_)
        refine ⟨_,wk_refl,?_⟩
        refine wg [2,3,5,6,8,9,43,44,52,53] [1,2,3,4] (rn ?_)
        cases h
        exact ⟨_,rfl,(wk_gc (live:=[2,3,5,6,8,9,43,44,52,53]) (keep:=[1,2,3,4]) kr)⟩
       refine wcF (wg [2,3,5,6,9,43,44] [1,2,3,4] ?_)
       refine wp_exit ?_
       cases h
       exact ⟨kr,rfl⟩
      intro x32 h out hx
      subst hx
      refine bind_elim h (fun a33 q34 h=>?_)
      refine wp_wk (wk_steal 3 4 (enc:=eI) (ls:=s15.2) (x:=a33) (n:=s10.1) [2,3,5,6,9,43,44] (st':=⟨[(2,.ptr 1 0 0),(3,.ptr 2 0 0),(5,.ref 3 0 s15.2.length),(6,vI s10.1),(9,vI x32),(43,vI 1),(44,vI s15.1)],(s20_112 x1 s15 s10 a33),91⟩) rfl rfl q34 kr kr) ?_
      refine wp_wk (wk_eq (congrArg (fun n35=>(⟨[(2,.ptr 1 0 0),(3,.ptr 2 0 0),(5,.ref 3 0 n35),(6,vI s10.1),(9,vI x32),(43,vI 1),(44,vI s15.1)],(s20_112 x1 s15 s10 a33),91⟩:St)) (show s15.2.length=(List.set s15.2 (zt s10.1) ([]:List Int)).length by simp only [List.length_set]))) ?_
      refine wp_post ?_
      refine reg_in (sz 4 4 ?_)
      refine idxS (enc:=eI) (ls:=(List.set s15.2 (zt s10.1) ([]:List Int))) (x:=([]:List Int)) (n:=s10.1) (ob:=3) (j:=4) (m:=5) (q:=a33.length) kr kr (lkI_set ([]:List Int) q34) gE ?_
      refine loadS (enc:=eI) (ls:=(List.set s15.2 (zt s10.1) ([]:List Int))) (x:=([]:List Int)) (n:=s10.1) (ob:=3) (j:=4) (m:=5) (q:=a33.length) kr kr (lkI_set ([]:List Int) q34) gE ?_
      refine sz 1 7 ?_
      refine sgL false [] [] true gE ?_
      refine appR (enc:=eI) (l:=a33) (m:=([x32]:(List Int))) (w:=1) (bytes:=8) (ob:=5) (nr:=true) (fl:=true) (nr':=true) (fl':=true) (b:=.ref 6 0 1) (rds:=[6]) false kr kr kr rfl gE kr h (fun h=>?_)
      refine idxS (enc:=eI) (ls:=(List.set s15.2 (zt s10.1) ([]:List Int))) (x:=([]:List Int)) (n:=s10.1) (ob:=3) (j:=4) (m:=5) (q:=a33.length) kr kr (lkI_set ([]:List Int) q34) gE ?_
      refine storeS2 (enc:=eI) (ls:=(List.set s15.2 (zt s10.1) ([]:List Int))) (x:=([]:List Int)) (n:=s10.1) (ob:=3) (j:=4) (m0:=5) (q0:=a33.length) (m:=7) (q:=(a33++([x32]:(List Int))).length) (S:=⟨(s20_113 s15 s10 x32)++[(83,.ptr 3 (zt s10.1) 0),(84,.ref 5 0 a33.length),(85,vI x32),(86,.ref 6 0 1),(87,.ref 7 0 ((a33++([x32]:(List Int))).length)),(88,.ptr 3 (zt s10.1) 0)],[oX true false 5 (.agg [vI x1.1.Hidden.Grain,z1 x1.1.Hidden.First,z2 x1.1.Hidden.Step,z2 x1.1.Hidden.Show,z1 x1.1.seen]),oX true false 5 (.agg [vI x1.1.Hidden.Grain,z1 x1.1.Hidden.First,z2 x1.1.Hidden.Step,z2 x1.1.Hidden.Show,z1 x1.1.seen]),oX true false 4 (.agg [vI 1,vI 0,.fn (.func 50) [] [],.fn (.func 51) [] []]),.row false false false false 1 ((famRefs 4 0 (eF eI (List.set s15.2 (zt s10.1) ([]:List Int)))).set (zt s10.1) (.ref 7 0 ((a33++([x32]:(List Int))).length))),.fam 1 true (eF eI (List.set s15.2 (zt s10.1) ([]:List Int))),.dead,.row false false true true 1 [vI x32],oR true 1 eI (a33++([x32]:(List Int)))],91⟩) kr kr (lkI_set ([]:List Int) q34) kr kr kr ?_
      refine reg_end rfl ?_
      refine ⟨⟨[(2,.ptr 1 0 0),(3,.ptr 2 0 0),(5,.ref 3 0 ((List.set (List.set s15.2 (zt s10.1) ([]:List Int)) (zt s10.1) (a33++([x32]:(List Int)))).length)),(6,vI s10.1),(9,vI x32),(43,vI 1),(44,vI s15.1),(79,.ref 3 0 ((List.set (List.set s15.2 (zt s10.1) ([]:List Int)) (zt s10.1) (a33++([x32]:(List Int)))).length)),(80,vI s10.1),(81,.ref 3 0 ((List.set (List.set s15.2 (zt s10.1) ([]:List Int)) (zt s10.1) (a33++([x32]:(List Int)))).length)),(82,vI s10.1),(83,.ptr 3 (zt s10.1) 0),(84,.ref 5 0 a33.length),(85,vI x32),(86,.ref 6 0 1),(88,.ptr 3 (zt s10.1) 0)],(s20_114 x1 s15 s10 a33 x32),91⟩,(wk_trans (wk_adopt 3 4 7 (enc:=eI) (ls:=(List.set s15.2 (zt s10.1) ([]:List Int))) (x:=([]:List Int)) (b:=(a33++([x32]:(List Int)))) (n:=s10.1) [2,3,5,6,9,43,44,79,80,81,82,83,84,85,86,88] (st':=⟨(s20_113 s15 s10 x32)++[(83,.ptr 3 (zt s10.1) 0),(84,.ref 5 0 a33.length),(85,vI x32),(86,.ref 6 0 1),(88,.ptr 3 (zt s10.1) 0)],(s20_114 x1 s15 s10 a33 x32),91⟩) rfl rfl rfl (lkI_set ([]:List Int) q34) (by kernel_rfl) (by kernel_rfl)) (wk_eq (congrArg (fun n36=>(⟨[(2,.ptr 1 0 0),(3,.ptr 2 0 0),(5,.ref 3 0 n36),(6,vI s10.1),(9,vI x32),(43,vI 1),(44,vI s15.1),(79,.ref 3 0 n36),(80,vI s10.1),(81,.ref 3 0 n36),(82,vI s10.1),(83,.ptr 3 (zt s10.1) 0),(84,.ref 5 0 a33.length),(85,vI x32),(86,.ref 6 0 1),(88,.ptr 3 (zt s10.1) 0)],(s20_114 x1 s15 s10 a33 x32),91⟩:St)) (show (List.set s15.2 (zt s10.1) ([]:List Int)).length=(List.set (List.set s15.2 (zt s10.1) ([]:List Int)) (zt s10.1) (a33++([x32]:(List Int)))).length by simp only [List.length_set])))),?_⟩
      refine wg [2,3,5,6,43,44] [1,2,3,4] (rn ?_)
      cases h
      exact ⟨_,rfl,(wk_gc (live:=[2,3,5,6,43,44]) (keep:=[1,2,3,4]) kr)⟩
     refine wcF (wg [2,3,5,6] [1,2,3,4] ?_)
     refine wp_exit ?_
     cases h
     exact ⟨kr,rfl⟩
    intro x38 h out hx
    subst hx
    refine rn ?_
    cases h
    exact ⟨_,rfl,(wk_gc (live:=[2,3,5,6]) (keep:=[1,2,3,4]) kr)⟩
   refine wcF (wp_skip (sq (wp_block ?_)))
   refine wwh h (fun s39=>⟨[(2,.ptr 1 0 0),(3,.ptr 2 0 0),(5,.ref 3 0 s39.2.length),(6,vI s10.1),(43,vI (zn x1.1.Hidden.First)),(44,vI s39.1)],(s20_52 x1 s39),91⟩) (fun v out=>out=.go (.exit 2) ⟨[(2,.ptr 1 0 0),(3,.ptr 2 0 0),(5,.ref 3 0 v.length),(6,vI s10.1)],[oX true false 5 (.agg [vI x1.1.Hidden.Grain,z1 x1.1.Hidden.First,z2 x1.1.Hidden.Step,z2 x1.1.Hidden.Show,z1 x1.1.seen]),oX true false 5 (.agg [vI x1.1.Hidden.Grain,z1 x1.1.Hidden.First,z2 x1.1.Hidden.Step,z2 x1.1.Hidden.Show,z1 x1.1.seen]),oX true false 4 (.agg [vI 1,vI 0,.fn (.func 50) [] [],.fn (.func 51) [] []]),.refs 4 (eF eI v),.fam 1 true (eF eI v)],91⟩) (wk_gc (live:=[2,3,5,6,43,44]) (keep:=[1,2,3,4]) kr) ?_ ?_
   ·intro s39 o h
    unfold g_path_Best_b3 at h
    refine sq (wp_seq ?_)
    refine wb [45] h (fun q41 h=>?_) (fun q41 h=>?_)
    ·refine wcT (wp_skip (wp_seq (wp_block (sq (wp_seq ?_)))))
     refine wp_post ?_
     refine rn ?_
     refine ⟨_,wk_refl,?_⟩
     refine wp_seq (wp_seq ?_)
     refine wp_post ?_
     refine reg_in (sz 3 3 ?_)
     refine lenL (enc:=eI) (l:=x1.1.Hidden.First) (fl:=true) kr gE ?_
     refine sz 1 5 (reg_end rfl ?_)
     refine ⟨_,wk_refl,?_⟩
     refine wp_block ?_
     refine wwh h (fun s42=>⟨(s20_96 s39 s10 s42 x1),(s20_52 x1 s39),91⟩) (fun v out=>out=.go (.exit 4) ⟨[(2,.ptr 1 0 0),(3,.ptr 2 0 0),(5,.ref 3 0 s39.2.length),(6,vI s10.1),(9,vI v),(43,vI (zn x1.1.Hidden.First)),(44,vI s39.1)],(s20_52 x1 s39),91⟩) (wk_gc (live:=[2,3,5,6,8,9,43,44,52,53]) (keep:=[1,2,3,4]) kr) ?_ ?_
     ·intro s42 o h
      unfold g_path_Best_b2 at h
      refine sq (wp_seq ?_)
      refine wb [54] h (fun q44 h=>?_) (fun q44 h=>?_)
      ·refine wcT (wp_skip (wp_seq (wp_block (sq ?_))))
       refine wp_post ?_
       refine rga hfol (sy 11 11 ?_)
       refine callW bodyB_36 (g_path_searcher_into_ok x1.1 s10.1 s39.1 s42.2) h (fun x45 _ h=>?_)
       refine sy 3 15 ?_
       refine bind_elim h (fun a47 q48 h=>?_)
       refine idxF (enc:=eI) (ls:=s39.2) (x:=a47) (n:=zw (s10.1+1)) (ob:=3) (j:=4) kr kr q48 gE ?_
       refine loadF (enc:=eI) (ls:=s39.2) (x:=a47) (n:=zw (s10.1+1)) (ob:=3) (j:=4) kr kr q48 gE ?_
       refine sy 1 18 ?_
       refine bind_elim h (fun a49 q50 h=>?_)
       refine idxI (enc:=eI) (ls:=s39.2) (x:=a47) (y:=a49) (n:=zw (s10.1+1)) (c:=s42.2) (w:=1) (j:=4) (fl:=true) kr kr q48 q50 rfl gE ?_
       refine loadI (enc:=eI) (ls:=s39.2) (x:=a47) (y:=a49) (n:=zw (s10.1+1)) (m:=s42.2) (w:=1) (j:=4) (c:=0) (fl:=true) kr kr q48 q50 rfl gE ?_
       refine callW bodyB_51 (g_path_multiplied_ok s10.1 s42.2 x45 a49) h (fun x51 _ h=>?_)
       refine callR (as0:=[vI s42.1,vI x51]) (ids:=[]) (S:=fun x53=>⟨(s20_96 s39 s10 s42 x1)++[(54,vB true),(55,vI s42.2),(10,vI s42.2),(56,.ptr 2 0 2),(57,.fn (.func 50) [] []),(58,vI s42.1),(59,.ptr 2 0 3),(60,.fn (.func 51) [] []),(61,vI s10.1),(62,vI s42.2),(63,.agg [vI x1.1.Hidden.Grain,z1 x1.1.Hidden.First,z2 x1.1.Hidden.Step,z2 x1.1.Hidden.Show,z1 x1.1.seen]),(64,vI s10.1),(65,vI s39.1),(66,vI s42.2)]++[(67,vI x45),(68,.ref 3 0 s39.2.length),(69,vI s10.1),(70,vI (zw (s10.1+1))),(71,.ptr 3 (zt (zw (s10.1+1))) 0),(72,.ref (fid 4 (zt (zw (s10.1+1)))) 0 a47.length),(73,vI s42.2)]++[(74,.ptr (fid 4 (zt (zw (s10.1+1)))) (zt s42.2) 0),(75,vI a49),(76,vI x51),(77,vI x53)],(s20_52 x1 s39),91⟩) kr bodyB_50 (msnap_cons rfl (msnap_cons rfl msnap_nil)) (fun x53 q54=>g_path_Best_1_ok s42.1 x51 x53 q54) (fun _=>by as_aux_lemma=>kernel_rfl) h (fun x53 q54 h=>?_)
       refine sy 1 23 (rgd ?_)
       refine ⟨_,wk_refl,?_⟩
       refine wg [2,3,5,6,8,9,43,44,52,53] [1,2,3,4] (rn ?_)
       cases h
       exact ⟨_,rfl,(wk_gc (live:=[2,3,5,6,8,9,43,44,52,53]) (keep:=[1,2,3,4]) kr)⟩
      refine wcF (wg [2,3,5,6,9,43,44] [1,2,3,4] ?_)
      refine wp_exit ?_
      cases h
      exact ⟨kr,rfl⟩
     intro x56 h out hx
     subst hx
     refine bind_elim h (fun a57 q58 h=>?_)
     refine wp_wk (wk_steal 3 4 (enc:=eI) (ls:=s39.2) (x:=a57) (n:=s10.1) [2,3,5,6,9,43,44] (st':=⟨[(2,.ptr 1 0 0),(3,.ptr 2 0 0),(5,.ref 3 0 s39.2.length),(6,vI s10.1),(9,vI x56),(43,vI (zn x1.1.Hidden.First)),(44,vI s39.1)],(s20_134 x1 s39 s10 a57),91⟩) rfl rfl q58 kr kr) ?_
     refine wp_wk (wk_eq (congrArg (fun n59=>(⟨[(2,.ptr 1 0 0),(3,.ptr 2 0 0),(5,.ref 3 0 n59),(6,vI s10.1),(9,vI x56),(43,vI (zn x1.1.Hidden.First)),(44,vI s39.1)],(s20_134 x1 s39 s10 a57),91⟩:St)) (show s39.2.length=(List.set s39.2 (zt s10.1) ([]:List Int)).length by simp only [List.length_set]))) ?_
     refine wp_post ?_
     refine reg_in (sz 4 4 ?_)
     refine idxS (enc:=eI) (ls:=(List.set s39.2 (zt s10.1) ([]:List Int))) (x:=([]:List Int)) (n:=s10.1) (ob:=3) (j:=4) (m:=5) (q:=a57.length) kr kr (lkI_set ([]:List Int) q58) gE ?_
     refine loadS (enc:=eI) (ls:=(List.set s39.2 (zt s10.1) ([]:List Int))) (x:=([]:List Int)) (n:=s10.1) (ob:=3) (j:=4) (m:=5) (q:=a57.length) kr kr (lkI_set ([]:List Int) q58) gE ?_
     refine sz 1 7 ?_
     refine sgL false [] [] true gE ?_
     refine appR (enc:=eI) (l:=a57) (m:=([x56]:(List Int))) (w:=1) (bytes:=8) (ob:=5) (nr:=true) (fl:=true) (nr':=true) (fl':=true) (b:=.ref 6 0 1) (rds:=[6]) false kr kr kr rfl gE kr h (fun h=>?_)
     refine idxS (enc:=eI) (ls:=(List.set s39.2 (zt s10.1) ([]:List Int))) (x:=([]:List Int)) (n:=s10.1) (ob:=3) (j:=4) (m:=5) (q:=a57.length) kr kr (lkI_set ([]:List Int) q58) gE ?_
     refine storeS2 (enc:=eI) (ls:=(List.set s39.2 (zt s10.1) ([]:List Int))) (x:=([]:List Int)) (n:=s10.1) (ob:=3) (j:=4) (m0:=5) (q0:=a57.length) (m:=7) (q:=(a57++([x56]:(List Int))).length) (S:=⟨[(2,.ptr 1 0 0),(3,.ptr 2 0 0),(5,.ref 3 0 ((List.set s39.2 (zt s10.1) ([]:List Int)).length)),(6,vI s10.1),(9,vI x56),(43,vI (zn x1.1.Hidden.First)),(44,vI s39.1),(79,.ref 3 0 ((List.set s39.2 (zt s10.1) ([]:List Int)).length)),(80,vI s10.1),(81,.ref 3 0 ((List.set s39.2 (zt s10.1) ([]:List Int)).length)),(82,vI s10.1),(83,.ptr 3 (zt s10.1) 0),(84,.ref 5 0 a57.length),(85,vI x56),(86,.ref 6 0 1),(87,.ref 7 0 ((a57++([x56]:(List Int))).length)),(88,.ptr 3 (zt s10.1) 0)],[oX true false 5 (.agg [vI x1.1.Hidden.Grain,z1 x1.1.Hidden.First,z2 x1.1.Hidden.Step,z2 x1.1.Hidden.Show,z1 x1.1.seen]),oX true false 5 (.agg [vI x1.1.Hidden.Grain,z1 x1.1.Hidden.First,z2 x1.1.Hidden.Step,z2 x1.1.Hidden.Show,z1 x1.1.seen]),oX true false 4 (.agg [vI 1,vI 0,.fn (.func 50) [] [],.fn (.func 51) [] []]),.row false false false false 1 ((famRefs 4 0 (eF eI (List.set s39.2 (zt s10.1) ([]:List Int)))).set (zt s10.1) (.ref 7 0 ((a57++([x56]:(List Int))).length))),.fam 1 true (eF eI (List.set s39.2 (zt s10.1) ([]:List Int))),.dead,.row false false true true 1 [vI x56],oR true 1 eI (a57++([x56]:(List Int)))],91⟩) kr kr (lkI_set ([]:List Int) q58) kr kr kr ?_
     refine reg_end rfl ?_
     refine ⟨⟨[(2,.ptr 1 0 0),(3,.ptr 2 0 0),(5,.ref 3 0 ((List.set (List.set s39.2 (zt s10.1) ([]:List Int)) (zt s10.1) (a57++([x56]:(List Int)))).length)),(6,vI s10.1),(9,vI x56),(43,vI (zn x1.1.Hidden.First)),(44,vI s39.1),(79,.ref 3 0 ((List.set (List.set s39.2 (zt s10.1) ([]:List Int)) (zt s10.1) (a57++([x56]:(List Int)))).length)),(80,vI s10.1),(81,.ref 3 0 ((List.set (List.set s39.2 (zt s10.1) ([]:List Int)) (zt s10.1) (a57++([x56]:(List Int)))).length)),(82,vI s10.1),(83,.ptr 3 (zt s10.1) 0),(84,.ref 5 0 a57.length),(85,vI x56),(86,.ref 6 0 1),(88,.ptr 3 (zt s10.1) 0)],(s20_137 x1 s39 s10 a57 x56),91⟩,(wk_trans (wk_adopt 3 4 7 (enc:=eI) (ls:=(List.set s39.2 (zt s10.1) ([]:List Int))) (x:=([]:List Int)) (b:=(a57++([x56]:(List Int)))) (n:=s10.1) [2,3,5,6,9,43,44,79,80,81,82,83,84,85,86,88] (st':=⟨[(2,.ptr 1 0 0),(3,.ptr 2 0 0),(5,.ref 3 0 ((List.set s39.2 (zt s10.1) ([]:List Int)).length)),(6,vI s10.1),(9,vI x56),(43,vI (zn x1.1.Hidden.First)),(44,vI s39.1)]++[(79,.ref 3 0 ((List.set s39.2 (zt s10.1) ([]:List Int)).length)),(80,vI s10.1),(81,.ref 3 0 ((List.set s39.2 (zt s10.1) ([]:List Int)).length)),(82,vI s10.1)]++[(83,.ptr 3 (zt s10.1) 0),(84,.ref 5 0 a57.length),(85,vI x56),(86,.ref 6 0 1),(88,.ptr 3 (zt s10.1) 0)],(s20_137 x1 s39 s10 a57 x56),91⟩) rfl rfl rfl (lkI_set ([]:List Int) q58) (by kernel_rfl) (by kernel_rfl)) (wk_eq (congrArg (fun n60=>(⟨[(2,.ptr 1 0 0),(3,.ptr 2 0 0),(5,.ref 3 0 n60),(6,vI s10.1),(9,vI x56),(43,vI (zn x1.1.Hidden.First)),(44,vI s39.1),(79,.ref 3 0 n60),(80,vI s10.1),(81,.ref 3 0 n60),(82,vI s10.1),(83,.ptr 3 (zt s10.1) 0),(84,.ref 5 0 a57.length),(85,vI x56),(86,.ref 6 0 1),(88,.ptr 3 (zt s10.1) 0)],(s20_137 x1 s39 s10 a57 x56),91⟩:St)) (show (List.set s39.2 (zt s10.1) ([]:List Int)).length=(List.set (List.set s39.2 (zt s10.1) ([]:List Int)) (zt s10.1) (a57++([x56]:(List Int)))).length by simp only [List.length_set])))),?_⟩
     refine wg [2,3,5,6,43,44] [1,2,3,4] (rn ?_)
     cases h
     exact ⟨_,rfl,(wk_gc (live:=[2,3,5,6,43,44]) (keep:=[1,2,3,4]) kr)⟩
    refine wcF (wg [2,3,5,6] [1,2,3,4] ?_)
    refine wp_exit ?_
    cases h
    exact ⟨kr,rfl⟩
   intro x62 h out hx
   subst hx
   refine rn ?_
   cases h
   exact ⟨_,rfl,(wk_gc (live:=[2,3,5,6]) (keep:=[1,2,3,4]) kr)⟩
  refine wcF (wg [5] [3,4] ?_)
  refine wp_exit ?_
  cases h
  exact ⟨kr,rfl⟩
 intro x64 h out hx
 subst hx
 refine sq (wg [4] [1,2] ?_)
 refine wp_ret ?_
 refine ⟨⟨[(1,z1 p1),(7,.ptr 0 0 0),(8,vI x1.2),(20,vI x1.2),(21,vB false),(23,.agg [vI x1.1.Hidden.Grain,z1 x1.1.Hidden.First,z2 x1.1.Hidden.Step,z2 x1.1.Hidden.Show,z1 x1.1.seen]),(24,.agg [vI 1,vI 0,.fn (.func 50) [] [],.fn (.func 51) [] []])]++[(25,.ref 1 0 x64.length)],(s20_149 x1 x64),79⟩,by as_aux_lemma=>kernel_rfl,?_⟩
 refine sz 1 4 (reg_end rfl ?_)
 refine ⟨_,wk_refl,?_⟩
 refine wp_seq (wp_seq (wg [1,7,9] [0,1,2] ?_))
 refine wp_post ?_
 refine reg_in (sz 1 1 ?_)
 refine bind_elim h (fun a65 q66 h=>?_)
 refine idxF (enc:=eI) (ls:=x64) (x:=a65) (n:=0) (ob:=1) (j:=2) kr kr q66 gE ?_
 refine loadF (enc:=eI) (ls:=x64) (x:=a65) (n:=0) (ob:=1) (j:=2) kr kr q66 gE ?_
 refine bind_elim h (fun a67 q68 h=>?_)
 refine idxI (enc:=eI) (ls:=x64) (x:=a65) (y:=a67) (n:=0) (c:=0) (w:=1) (j:=2) (fl:=true) kr kr q66 q68 rfl gE ?_
 refine loadI (enc:=eI) (ls:=x64) (x:=a65) (y:=a67) (n:=0) (m:=0) (w:=1) (j:=2) (c:=0) (fl:=true) kr kr q66 q68 rfl gE ?_
 refine sz 1 6 (reg_end rfl ?_)
 refine ⟨_,wk_refl,?_⟩
 refine wbz h (fun q70 h=>?_) (fun q70 h=>?_)
 ·refine wp_seq ?_
  refine wgc [] [] ⟨[],[],79⟩ ?_
  refine rn (wg [4,5,6] [] ?_)
  refine wp_wk (wk_nil 4 1 true true gE) ?_
  cases h
  exact wp_ret (show fnOut _ _ _ _=_ from by kernel_rfl)
 refine wp_skip (wp_seq ?_)
 refine wgc [1,7,9] [0,1,2] ⟨[(1,z1 p1),(7,.ptr 0 0 0),(9,.ref 1 0 x64.length)],(s20_149 x1 x64),79⟩ ?_
 refine rn ?_
 refine sqN (S:=⟨[(1,z1 p1),(7,.ptr 0 0 0),(9,.ref 1 0 x64.length),(10,.nils),(11,vI 0)],(s20_149 x1 x64),79⟩) ?_
 refine wp_seq ?_
 refine wp_label ?_
 refine wp_seq (wp_seq (reg_in (sz 1 1 ?_)))
 refine lenL (enc:=eI) (l:=p1) (fl:=true) kr gE ?_
 refine sz 1 3 (reg_end rfl (wp_block ?_))
 refine wwh h (fun s71=>⟨[(7,.ptr 0 0 0),(9,.ref 1 0 x64.length),(10,.ref 2 0 s71.2.2.length),(11,vI s71.1),(33,vI (zn p1)),(34,vI s71.2.1)],(s20_183 x1 x64 s71),79⟩) (fun v out=>out=.go (.exit 0) ⟨[(9,.ref 0 0 x64.length),(10,.ref 1 0 v.length)],[.refs 2 (eF eI x64),oR true 1 eI v,.fam 1 true (eF eI x64)],79⟩) (wk_trans (wk_gc (live:=[7,9,10,11,33,34]) (keep:=[0,1,2]) (st':=⟨[(7,.ptr 0 0 0),(9,.ref 1 0 x64.length),(10,.nils),(11,vI 0),(33,vI (zn p1)),(34,vI 0)],(s20_149 x1 x64),79⟩) kr) (wk_trans (wk_nil 10 1 true true (st':=⟨[(7,.ptr 0 0 0),(9,.ref 1 0 x64.length),(10,.ref 3 0 0),(11,vI 0),(33,vI (zn p1)),(34,vI 0)],[oX true false 5 (.agg [vI x1.1.Hidden.Grain,z1 x1.1.Hidden.First,z2 x1.1.Hidden.Step,z2 x1.1.Hidden.Show,z1 x1.1.seen]),.refs 2 (eF eI x64),.fam 1 true (eF eI x64),.row false false true true 1 []],79⟩) kr) (wk_gc (live:=[7,9,10,11,33,34]) (keep:=[0,1,3,2]) kr))) ?_ ?_
 ·intro s71 o h
  unfold g_path_Best_b6 at h
  refine sq (wp_seq ?_)
  refine wb [35] h (fun q73 h=>?_) (fun q73 h=>?_)
  ·refine wcT (wp_skip (wp_seq (wp_block (sq (wp_seq ?_)))))
   refine wp_post ?_
   refine reg_in (sz 3 3 ?_)
   refine lenL (enc:=eI) (l:=x1.1.Hidden.First) (fl:=true) kr gE ?_
   refine sz 1 5 (reg_end rfl ?_)
   refine ⟨_,wk_refl,?_⟩
   refine wp_block ?_
   refine wwh h (fun s74=>⟨[(7,.ptr 0 0 0),(9,.ref 1 0 x64.length),(10,.ref 2 0 s71.2.2.length),(11,vI s71.1),(12,vI s71.2.1),(33,vI (zn p1)),(34,vI s71.2.1),(40,vI (zn x1.1.Hidden.First)),(41,vI s74)],(s20_183 x1 x64 s71),79⟩) (fun x out=>out=match x with | .inl v=>.go (.exit 1) ⟨[(7,.ptr 0 0 0),(9,.ref 1 0 x64.length),(10,.ref 2 0 v.2.length),(11,vI v.1),(33,vI (zn p1)),(34,vI s71.2.1)],[oX true false 5 (.agg [vI x1.1.Hidden.Grain,z1 x1.1.Hidden.First,z2 x1.1.Hidden.Step,z2 x1.1.Hidden.Show,z1 x1.1.seen]),.refs 3 (eF eI x64),oR true 1 eI v.2,.fam 1 true (eF eI x64)],79⟩ | .inr v=>.go (.exit 2) ⟨[(7,.ptr 0 0 0),(9,.ref 1 0 x64.length),(10,.ref 2 0 s71.2.2.length),(11,vI s71.1),(33,vI (zn p1)),(34,vI s71.2.1)],(s20_183 x1 x64 s71),79⟩) (wk_gc (live:=[7,9,10,11,12,33,34,40,41]) (keep:=[0,1,2,3]) kr) ?_ ?_
   ·intro s74 o h
    unfold g_path_Best_b5 at h
    refine sq (wp_seq ?_)
    refine wb [42] h (fun q76 h=>?_) (fun q76 h=>?_)
    ·refine wcT (wp_skip (wp_seq (wp_block (sq (wp_seq ?_)))))
     refine wp_post ?_
     refine rga hfol (sy 4 4 ?_)
     refine callW bodyB_36 (g_path_searcher_into_ok x1.1 s71.2.1 s71.1 s74) h (fun x77 _ h=>?_)
     refine sy 3 8 ?_
     refine bind_elim h (fun a79 q80 h=>?_)
     refine idxF (enc:=eI) (ls:=x64) (x:=a79) (n:=zw (s71.2.1+1)) (ob:=1) (j:=3) kr kr q80 gE ?_
     refine loadF (enc:=eI) (ls:=x64) (x:=a79) (n:=zw (s71.2.1+1)) (ob:=1) (j:=3) kr kr q80 gE ?_
     refine sy 1 11 ?_
     refine bind_elim h (fun a81 q82 h=>?_)
     refine idxI (enc:=eI) (ls:=x64) (x:=a79) (y:=a81) (n:=zw (s71.2.1+1)) (c:=s74) (w:=1) (j:=3) (fl:=true) kr kr q80 q82 rfl gE ?_
     refine loadI (enc:=eI) (ls:=x64) (x:=a79) (y:=a81) (n:=zw (s71.2.1+1)) (m:=s74) (w:=1) (j:=3) (c:=0) (fl:=true) kr kr q80 q82 rfl gE ?_
     refine sy 3 16 ?_
     refine bind_elim h (fun a83 q84 h=>?_)
     refine idxF (enc:=eI) (ls:=x64) (x:=a83) (n:=s71.2.1) (ob:=1) (j:=3) kr kr q84 gE ?_
     refine loadF (enc:=eI) (ls:=x64) (x:=a83) (n:=s71.2.1) (ob:=1) (j:=3) kr kr q84 gE ?_
     refine sy 1 19 ?_
     refine bind_elim h (fun a85 q86 h=>?_)
     refine idxI (enc:=eI) (ls:=x64) (x:=a83) (y:=a85) (n:=s71.2.1) (c:=s71.1) (w:=1) (j:=3) (fl:=true) (S:=⟨[(7,.ptr 0 0 0),(9,.ref 1 0 x64.length),(10,.ref 2 0 s71.2.2.length),(11,vI s71.1),(12,vI s71.2.1),(33,vI (zn p1)),(34,vI s71.2.1),(40,vI (zn x1.1.Hidden.First)),(41,vI s74),(42,vB true),(43,vI s74),(13,vI s74),(44,.agg [vI x1.1.Hidden.Grain,z1 x1.1.Hidden.First,z2 x1.1.Hidden.Step,z2 x1.1.Hidden.Show,z1 x1.1.seen]),(45,vI s71.2.1),(46,vI s71.1),(47,vI s74),(48,vI x77),(49,.ref 1 0 x64.length),(50,vI s71.2.1),(51,vI (zw (s71.2.1+1))),(52,.ptr 1 (zt (zw (s71.2.1+1))) 0),(53,.ref (fid 3 (zt (zw (s71.2.1+1)))) 0 a79.length),(54,vI s74),(55,.ptr (fid 3 (zt (zw (s71.2.1+1)))) (zt s74) 0),(56,vI a81),(57,vI (zw (x77*a81))),(58,.ref 1 0 x64.length),(59,vI s71.2.1)]++[(60,.ptr 1 (zt s71.2.1) 0),(61,.ref (fid 3 (zt s71.2.1)) 0 a83.length),(62,vI s71.1),(63,.ptr (fid 3 (zt s71.2.1)) (zt s71.1) 0)],(s20_183 x1 x64 s71),79⟩) kr kr q84 q86 rfl kr ?_
     refine loadI (enc:=eI) (ls:=x64) (x:=a83) (y:=a85) (n:=s71.2.1) (m:=s71.1) (w:=1) (j:=3) (c:=0) (fl:=true) kr kr q84 q86 rfl gE ?_
     refine sy 1 22 (rgd ?_)
     refine ⟨_,wk_refl,?_⟩
     refine wbz h (fun q88 h=>?_) (fun q88 h=>?_)
     ·refine wp_seq (wg [7,9,10,33,34,13] [0,1,2,3] ?_)
      refine wp_post ?_
      refine reg_in (sz 2 2 ?_)
      refine sgL false [] [] true gE ?_
      refine appR (enc:=eI) (l:=s71.2.2) (m:=([s74]:(List Int))) (w:=1) (bytes:=8) (ob:=2) (nr:=true) (fl:=true) (nr':=true) (fl':=true) (b:=.ref 4 0 1) (rds:=[4]) false kr kr kr rfl gE kr h (fun h=>?_)
      refine sz 3 7 (reg_end rfl ?_)
      refine ⟨_,wk_refl,?_⟩
      refine wg [7,9,10,11,33,34] [0,1,5,3] ?_
      refine wp_exit ?_
      cases h
      exact ⟨kr,rfl⟩
     refine wp_skip (wg [7,9,10,11,12,33,34,40,41] [0,1,2,3] (rn ?_))
     cases h
     exact ⟨_,rfl,(wk_gc (live:=[7,9,10,11,12,33,34,40,41]) (keep:=[0,1,2,3]) kr)⟩
    refine wcF (wg [7,9,10,11,33,34] [0,1,2,3] ?_)
    refine wp_exit ?_
    cases h
    exact ⟨kr,rfl⟩
   intro x89 h out hx
   subst hx
   rcases x89 with x90 | x91
   ·dsimp only at h ⊢
    refine rn ?_
    cases h
    exact ⟨_,rfl,(wk_gc (live:=[7,9,10,11,33,34]) (keep:=[0,1,2,3]) kr)⟩
   ·dsimp only at h ⊢
    refine rn ?_
    cases h
    exact ⟨_,rfl,(wk_gc (live:=[7,9,10,11,33,34]) (keep:=[0,1,2,3]) kr)⟩
  refine wcF (wg [9,10] [1,2,3] ?_)
  refine wp_exit ?_
  cases h
  exact ⟨kr,rfl⟩
 intro x93 h out hx
 subst hx
 refine wp_seq ?_
 refine wp_post ?_
 refine rga hfol (sy 2 2 ?_)
 refine idxF (enc:=eI) (ls:=x64) (x:=a65) (n:=0) (ob:=0) (j:=2) kr kr q66 gE ?_
 refine loadF (enc:=eI) (ls:=x64) (x:=a65) (n:=0) (ob:=0) (j:=2) kr kr q66 gE ?_
 refine idxI (enc:=eI) (ls:=x64) (x:=a65) (y:=a67) (n:=0) (c:=0) (w:=1) (j:=2) (fl:=true) kr kr q66 q68 rfl gE ?_
 refine loadI (enc:=eI) (ls:=x64) (x:=a65) (y:=a67) (n:=0) (m:=0) (w:=1) (j:=2) (c:=0) (fl:=true) kr kr q66 q68 rfl gE ?_
 refine sy 3 9 (rgd ?_)
 refine ⟨_,wk_refl,?_⟩
 refine wg [4,5,6] [1] ?_
 cases h
 exact wp_ret (show fnOut _ _ _ _=_ from by kernel_rfl)
theorem g_path_add_ok (p0:Int) (p1:Int) (x:Int) (h:g_path_add p0 p1=some x):CallOk Try.prog 52 [vI p0,vI p1] (.ret (vI x) []):=by
 refine fn_ok [] Try.func52 rfl (by decide +kernel) rfl ?_
 unfold g_path_add at h
 refine wp_eqB (base':=0) (st':=⟨[(0,vI p0),(1,vI p1)],[],8⟩) kr kr ?_
 refine sq (sq (wg [4] [] ?_))
 cases h
 exact wp_ret (show fnOut _ _ _ _=_ from by kernel_rfl)
theorem g_path_Count_1_ok (p0:Int) (p1:Int) (p2:Int) (p3:Int) (x:Int) (h:g_path_Count_1 p0 p1 p2 p3=some x):CallOk Try.prog 53 [vI p0,vI p1,vI p2,vI p3] (.ret (vI x) []):=by
 refine fn_ok [] Try.func53 rfl (by decide +kernel) rfl ?_
 unfold g_path_Count_1 at h
 refine wp_eqB (base':=0) (st':=⟨[(0,vI p0),(1,vI p1),(2,vI p2),(3,vI p3)],[],12⟩) kr kr ?_
 refine sq (wp_seq (sq ?_))
 refine wbz h (fun q2 h=>?_) (fun q2 h=>?_)
 ·refine wp_seq (wg [] [] (rn (wg [8] [] ?_)))
  cases h
  exact wp_ret (show fnOut _ _ _ _=_ from by kernel_rfl)
 refine wp_skip (wp_seq (wg [3] [] (rn (wg [8] [] ?_))))
 cases h
 exact wp_ret (show fnOut _ _ _ _=_ from by kernel_rfl)
end Go.Ab
