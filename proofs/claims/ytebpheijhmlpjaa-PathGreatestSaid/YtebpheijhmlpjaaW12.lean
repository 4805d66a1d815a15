/- What functions compute. No conditions. -/
import Derived.Test.YtebpheijhmlpjaaProg
import Derived.Test.YtebpheijhmlpjaaW9
import Derived.KernelRfl
import Derived.Test.YtebpheijhmlpjaaW10
import Derived.Test.YtebpheijhmlpjaaW11
set_option linter.all false
namespace Go.Ab
open Go Go.Proofs
set_option maxRecDepth 100000
set_option maxHeartbeats 4000000
noncomputable abbrev s21_4 (x1:(Tpath_searcher × Int)):List AObj:=[oX true false 5 (.agg [vI x1.1.Hidden.Grain,z1 x1.1.Hidden.First,z2 x1.1.Hidden.Step,z2 x1.1.Hidden.Show,z1 x1.1.seen])]
noncomputable abbrev s21_6 (x1:(Tpath_searcher × Int)):List (Nat × AV):=[(0,.agg [vI x1.1.Hidden.Grain,z1 x1.1.Hidden.First,z2 x1.1.Hidden.Step,z2 x1.1.Hidden.Show,z1 x1.1.seen]),(1,.agg [vI 1,vI 0,.fn (.func 52) [] [],.fn (.func 53) [] []])]
noncomputable abbrev s21_30 (x1:(Tpath_searcher × Int)) (s15:(Int × (List (List Int)))):List AObj:=[oX true false 5 (.agg [vI x1.1.Hidden.Grain,z1 x1.1.Hidden.First,z2 x1.1.Hidden.Step,z2 x1.1.Hidden.Show,z1 x1.1.seen]),oX true false 5 (.agg [vI x1.1.Hidden.Grain,z1 x1.1.Hidden.First,z2 x1.1.Hidden.Step,z2 x1.1.Hidden.Show,z1 x1.1.seen]),oX true false 4 (.agg [vI 1,vI 0,.fn (.func 52) [] [],.fn (.func 53) [] []]),.refs 4 (eF eI s15.2),.fam 1 true (eF eI s15.2)]
noncomputable abbrev s21_51 (x1:(Tpath_searcher × Int)) (s39:(Int × (List (List Int)))):List AObj:=[oX true false 5 (.agg [vI x1.1.Hidden.Grain,z1 x1.1.Hidden.First,z2 x1.1.Hidden.Step,z2 x1.1.Hidden.Show,z1 x1.1.seen]),oX true false 5 (.agg [vI x1.1.Hidden.Grain,z1 x1.1.Hidden.First,z2 x1.1.Hidden.Step,z2 x1.1.Hidden.Show,z1 x1.1.seen]),oX true false 4 (.agg [vI 1,vI 0,.fn (.func 52) [] [],.fn (.func 53) [] []]),.refs 4 (eF eI s39.2),.fam 1 true (eF eI s39.2)]
noncomputable abbrev s21_66 (x1:(Tpath_searcher × Int)) (s10:(Int × (List (List Int)))):List AObj:=[oX true false 5 (.agg [vI x1.1.Hidden.Grain,z1 x1.1.Hidden.First,z2 x1.1.Hidden.Step,z2 x1.1.Hidden.Show,z1 x1.1.seen]),oX true false 5 (.agg [vI x1.1.Hidden.Grain,z1 x1.1.Hidden.First,z2 x1.1.Hidden.Step,z2 x1.1.Hidden.Show,z1 x1.1.seen]),oX true false 4 (.agg [vI 1,vI 0,.fn (.func 52) [] [],.fn (.func 53) [] []]),.refs 4 (eF eI s10.2),.fam 1 true (eF eI s10.2)]
noncomputable abbrev s21_95 (s39:(Int × (List (List Int)))) (s10:(Int × (List (List Int)))) (s42:(Int × Int)) (x1:(Tpath_searcher × Int)):List (Nat × AV):=[(2,.ptr 1 0 0),(3,.ptr 2 0 0),(5,.ref 3 0 s39.2.length),(6,vI s10.1),(8,vI s39.1),(9,vI s42.1),(43,vI (zn x1.1.Hidden.First)),(44,vI s39.1),(52,vI (zn x1.1.Hidden.First)),(53,vI s42.2)]
noncomputable abbrev s21_111 (x1:(Tpath_searcher × Int)) (s15:(Int × (List (List Int)))) (s10:(Int × (List (List Int)))) (a33:(List Int)):List AObj:=[oX true false 5 (.agg [vI x1.1.Hidden.Grain,z1 x1.1.Hidden.First,z2 x1.1.Hidden.Step,z2 x1.1.Hidden.Show,z1 x1.1.seen]),oX true false 5 (.agg [vI x1.1.Hidden.Grain,z1 x1.1.Hidden.First,z2 x1.1.Hidden.Step,z2 x1.1.Hidden.Show,z1 x1.1.seen]),oX true false 4 (.agg [vI 1,vI 0,.fn (.func 52) [] [],.fn (.func 53) [] []]),.row false false false false 1 ((famRefs 4 0 (eF eI (List.set s15.2 (zt s10.1) ([]:List Int)))).set (zt s10.1) (.ref 5 0 a33.length)),.fam 1 true (eF eI (List.set s15.2 (zt s10.1) ([]:List Int))),oR true 1 eI a33]
noncomputable abbrev s21_112 (s15:(Int × (List (List Int)))) (s10:(Int × (List (List Int)))) (x32:Int):List (Nat × AV):=[(2,.ptr 1 0 0),(3,.ptr 2 0 0),(5,.ref 3 0 ((List.set s15.2 (zt s10.1) ([]:List Int)).length)),(6,vI s10.1),(9,vI x32),(43,vI 1),(44,vI s15.1),(79,.ref 3 0 ((List.set s15.2 (zt s10.1) ([]:List Int)).length)),(80,vI s10.1),(81,.ref 3 0 ((List.set s15.2 (zt s10.1) ([]:List Int)).length)),(82,vI s10.1)]
noncomputable abbrev s21_113 (x1:(Tpath_searcher × Int)) (s15:(Int × (List (List Int)))) (s10:(Int × (List (List Int)))) (a33:(List Int)) (x32:Int):List AObj:=[oX true false 5 (.agg [vI x1.1.Hidden.Grain,z1 x1.1.Hidden.First,z2 x1.1.Hidden.Step,z2 x1.1.Hidden.Show,z1 x1.1.seen]),oX true false 5 (.agg [vI x1.1.Hidden.Grain,z1 x1.1.Hidden.First,z2 x1.1.Hidden.Step,z2 x1.1.Hidden.Show,z1 x1.1.seen]),oX true false 4 (.agg [vI 1,vI 0,.fn (.func 52) [] [],.fn (.func 53) [] []]),.refs 4 (eF eI (List.set (List.set s15.2 (zt s10.1) ([]:List Int)) (zt s10.1) (a33++([x32]:(List Int))))),.fam 1 true (eF eI (List.set (List.set s15.2 (zt s10.1) ([]:List Int)) (zt s10.1) (a33++([x32]:(List Int))))),.dead,.row false false true true 1 [vI x32],.dead]
noncomputable abbrev s21_133 (x1:(Tpath_searcher × Int)) (s39:(Int × (List (List Int)))) (s10:(Int × (List (List Int)))) (a57:(List Int)):List AObj:=[oX true false 5 (.agg [vI x1.1.Hidden.Grain,z1 x1.1.Hidden.First,z2 x1.1.Hidden.Step,z2 x1.1.Hidden.Show,z1 x1.1.seen]),oX true false 5 (.agg [vI x1.1.Hidden.Grain,z1 x1.1.Hidden.First,z2 x1.1.Hidden.Step,z2 x1.1.Hidden.Show,z1 x1.1.seen]),oX true false 4 (.agg [vI 1,vI 0,.fn (.func 52) [] [],.fn (.func 53) [] []]),.row false false false false 1 ((famRefs 4 0 (eF eI (List.set s39.2 (zt s10.1) ([]:List Int)))).set (zt s10.1) (.ref 5 0 a57.length)),.fam 1 true (eF eI (List.set s39.2 (zt s10.1) ([]:List Int))),oR true 1 eI a57]
noncomputable abbrev s21_136 (x1:(Tpath_searcher × Int)) (s39:(Int × (List (List Int)))) (s10:(Int × (List (List Int)))) (a57:(List Int)) (x56:Int):List AObj:=[oX true false 5 (.agg [vI x1.1.Hidden.Grain,z1 x1.1.Hidden.First,z2 x1.1.Hidden.Step,z2 x1.1.Hidden.Show,z1 x1.1.seen]),oX true false 5 (.agg [vI x1.1.Hidden.Grain,z1 x1.1.Hidden.First,z2 x1.1.Hidden.Step,z2 x1.1.Hidden.Show,z1 x1.1.seen]),oX true false 4 (.agg [vI 1,vI 0,.fn (.func 52) [] [],.fn (.func 53) [] []]),.refs 4 (eF eI (List.set (List.set s39.2 (zt s10.1) ([]:List Int)) (zt s10.1) (a57++([x56]:(List Int))))),.fam 1 true (eF eI (List.set (List.set s39.2 (zt s10.1) ([]:List Int)) (zt s10.1) (a57++([x56]:(List Int))))),.dead,.row false false true true 1 [vI x56],.dead]
theorem g_path_Count_ok (p0:Tapi_Hidden) (p1:(List Int)) (x:(Int × Int)) (h:g_path_Count p0 p1=some x):CallOk Try.prog 21 [.agg [vI p0.Grain,z1 p0.First,z2 p0.Step,z2 p0.Show],z1 p1] (.ret (.tup [vI x.1,vI x.2]) []):=by
 refine fn_ok [] Try.func21 rfl (by decide +kernel) rfl ?_
 unfold g_path_Count at h
 refine wp_eqB (base':=0) (st':=⟨[(0,.agg [vI p0.Grain,z1 p0.First,z2 p0.Step,z2 p0.Show]),(1,z1 p1)],[],24⟩) kr kr ?_
 refine wp_seq (reg_in ?_)
 refine sgL false [] [] false gE ?_
 refine sz 2 3 (reg_end rfl (wp_seq ?_))
 refine wp_post ?_
 refine reg_in (sz 2 2 ?_)
 refine callW bodyB_35 (g_path_newSearcher_ok p0 p1) h (fun x1 _ h=>?_)
 refine sz 3 6 ?_
 refine sgL false [] [] false gE ?_
 refine sz 2 9 (reg_end rfl ?_)
 refine ⟨_,wk_refl,?_⟩
 refine wp_seq (wp_seq ?_)
 refine wgc [6,7] [1] ⟨[(6,.ptr 0 0 0),(7,vI x1.2)],(s21_4 x1),24⟩ ?_
 refine rn ?_
 refine wb [15] h (fun q4 h=>?_) (fun q4 h=>?_)
 ·refine wcT (sq (wg [4,5] [] ?_))
  cases h
  exact wp_ret (show fnOut _ _ _ _=_ from by kernel_rfl)
 refine wcF (wp_skip (wp_seq ?_))
 refine wp_post ?_
 refine reg_in (sz 2 2 ?_)
 refine inlR (f:=49) (fn:=Try.f49) (as0:=[.agg [vI x1.1.Hidden.Grain,z1 x1.1.Hidden.First,z2 x1.1.Hidden.Step,z2 x1.1.Hidden.Show,z1 x1.1.seen],.agg [vI 1,vI 0,.fn (.func 52) [] [],.fn (.func 53) [] []]]) kr Try.func49 rfl (by decide +kernel) rfl ?_
 refine wp_eqB (base':=1) (st':=⟨(s21_6 x1),(s21_4 x1),91⟩) kr kr ?_
 refine wp_seq (reg_in ?_)
 refine sgL false [] [] false gE ?_
 refine sgL false [] [] false gE ?_
 refine sz 1 3 (reg_end rfl (wp_seq ?_))
 refine wp_post ?_
 refine reg_in (sz 2 2 ?_)
 refine lenL (enc:=eI) (l:=x1.1.seen) (fl:=true) kr gE ?_
 refine sz 1 4 ?_
 refine mkL (enc:=fun _=>AV.nils) (z:=([]:(List Int))) (z0:=AV.nils) (n:=zw ((zn x1.1.seen)+1)) (m:=zw ((zn x1.1.seen)+1)) (w:=1) (bytes:=24) [] false kr rfl gE kr h (fun h=>?_)
 refine sgz 1 6 (S:=⟨(s21_6 x1)++[(2,.ptr 1 0 0),(3,.ptr 2 0 0),(4,.nils),(11,.ptr 1 0 4),(12,z1 x1.1.seen),(13,vI (zn x1.1.seen)),(14,vI (zw ((zn x1.1.seen)+1)))]++[(15,.ref 3 0 ((List.replicate (zt (zw ((zn x1.1.seen)+1))) ([]:(List Int))).length)),(5,.ref 3 0 ((List.replicate (zt (zw ((zn x1.1.seen)+1))) ([]:(List Int))).length))],[oX true false 5 (.agg [vI x1.1.Hidden.Grain,z1 x1.1.Hidden.First,z2 x1.1.Hidden.Step,z2 x1.1.Hidden.Show,z1 x1.1.seen]),oX true false 5 (.agg [vI x1.1.Hidden.Grain,z1 x1.1.Hidden.First,z2 x1.1.Hidden.Step,z2 x1.1.Hidden.Show,z1 x1.1.seen]),oX true false 4 (.agg [vI 1,vI 0,.fn (.func 52) [] [],.fn (.func 53) [] []]),.row false false true false 1 (List.map (fun _=>AV.nils) (List.replicate (zt (zw ((zn x1.1.seen)+1))) ([]:(List Int))))],91⟩) ?_
 refine reg_end rfl ?_
 refine ⟨⟨(s21_6 x1)++[(2,.ptr 1 0 0),(3,.ptr 2 0 0),(4,.nils),(11,.ptr 1 0 4),(12,z1 x1.1.seen),(13,vI (zn x1.1.seen)),(14,vI (zw ((zn x1.1.seen)+1)))]++[(15,.ref 3 0 ((List.replicate (zt (zw ((zn x1.1.seen)+1))) ([]:(List Int))).length)),(5,.ref 3 0 ((List.replicate (zt (zw ((zn x1.1.seen)+1))) ([]:(List Int))).length))],[oX true false 5 (.agg [vI x1.1.Hidden.Grain,z1 x1.1.Hidden.First,z2 x1.1.Hidden.Step,z2 x1.1.Hidden.Show,z1 x1.1.seen]),oX true false 5 (.agg [vI x1.1.Hidden.Grain,z1 x1.1.Hidden.First,z2 x1.1.Hidden.Step,z2 x1.1.Hidden.Show,z1 x1.1.seen]),oX true false 4 (.agg [vI 1,vI 0,.fn (.func 52) [] [],.fn (.func 53) [] []]),.refs 4 (eF eI (List.replicate (zt (zw ((zn x1.1.seen)+1))) ([]:(List Int)))),.fam 1 true (eF eI (List.replicate (zt (zw ((zn x1.1.seen)+1))) ([]:(List Int))))],91⟩,(wk_fam 3 1 true eI (x0:=([]:List Int)) (enc1:=fun _=>AV.nils) (st':=⟨(s21_6 x1)++[(2,.ptr 1 0 0),(3,.ptr 2 0 0),(4,.nils),(11,.ptr 1 0 4),(12,z1 x1.1.seen),(13,vI (zn x1.1.seen)),(14,vI (zw ((zn x1.1.seen)+1)))]++[(15,.ref 3 0 ((List.replicate (zt (zw ((zn x1.1.seen)+1))) ([]:(List Int))).length)),(5,.ref 3 0 ((List.replicate (zt (zw ((zn x1.1.seen)+1))) ([]:(List Int))).length))],[oX true false 5 (.agg [vI x1.1.Hidden.Grain,z1 x1.1.Hidden.First,z2 x1.1.Hidden.Step,z2 x1.1.Hidden.Show,z1 x1.1.seen]),oX true false 5 (.agg [vI x1.1.Hidden.Grain,z1 x1.1.Hidden.First,z2 x1.1.Hidden.Step,z2 x1.1.Hidden.Show,z1 x1.1.seen]),oX true false 4 (.agg [vI 1,vI 0,.fn (.func 52) [] [],.fn (.func 53) [] []]),.refs 4 (eF eI (List.replicate (zt (zw ((zn x1.1.seen)+1))) ([]:(List Int)))),.fam 1 true (eF eI (List.replicate (zt (zw ((zn x1.1.seen)+1))) ([]:(List Int))))],91⟩) rfl rfl rfl (by kernel_rfl)),?_⟩
 refine wp_seq (wg [2,3,5] [1,2,3,4] ?_)
 refine wp_post ?_
 refine rga hfol (sy 3 3 ?_)
 refine lenL (enc:=eI) (l:=x1.1.seen) (fl:=true) kr gE ?_
 refine sy 2 6 ?_
 refine sgL false [] [] true gE ?_
 refine sy 3 10 ?_
 refine lenL (enc:=eI) (l:=x1.1.Hidden.First) (fl:=true) kr gE ?_
 refine callR (as0:=[.ref 5 0 1,vI (zn x1.1.Hidden.First)]) (ids:=[5]) kr bodyB_81 (msnap_cons (show snap _ _ _=some (_,[5]) from kr) (msnap_cons rfl msnap_nil (by rfl)) (by rfl)) (fun x5 q6=>g_slices_Repeat_int_int_ok [1] (zn x1.1.Hidden.First) x5 q6) gF h (fun x5 q6 h=>?_)
 refine bind_elim h (fun a7 q8 h=>?_)
 refine idxF (enc:=eI) (ls:=(List.replicate (zt (zw ((zn x1.1.seen)+1))) ([]:(List Int)))) (x:=a7) (n:=(zn x1.1.seen)) (ob:=3) (j:=4) kr kr q8 gE ?_
 refine storeF (enc:=eI) (ls:=(List.replicate (zt (zw ((zn x1.1.seen)+1))) ([]:(List Int)))) (x:=a7) (n:=(zn x1.1.seen)) (ob:=3) (j:=4) (m:=6) (q:=x5.length) (S:=⟨[(2,.ptr 1 0 0),(3,.ptr 2 0 0),(5,.ref 3 0 ((List.replicate (zt (zw ((zn x1.1.seen)+1))) ([]:(List Int))).length))]++[(16,.ref 3 0 ((List.replicate (zt (zw ((zn x1.1.seen)+1))) ([]:(List Int))).length)),(17,.ptr 1 0 4),(18,z1 x1.1.seen),(19,vI (zn x1.1.seen)),(20,.ptr 2 0 0),(21,vI 1)]++[(22,.ref 5 0 1),(23,.ptr 1 0 0),(24,.ptr 1 0 1),(25,z1 x1.1.Hidden.First),(26,vI (zn x1.1.Hidden.First)),(27,.ref 6 0 x5.length),(28,.ptr 3 (zt (zn x1.1.seen)) 0)],[oX true false 5 (.agg [vI x1.1.Hidden.Grain,z1 x1.1.Hidden.First,z2 x1.1.Hidden.Step,z2 x1.1.Hidden.Show,z1 x1.1.seen]),oX true false 5 (.agg [vI x1.1.Hidden.Grain,z1 x1.1.Hidden.First,z2 x1.1.Hidden.Step,z2 x1.1.Hidden.Show,z1 x1.1.seen]),oX true false 4 (.agg [vI 1,vI 0,.fn (.func 52) [] [],.fn (.func 53) [] []]),.row false false false false 1 ((famRefs 4 0 (eF eI (List.replicate (zt (zw ((zn x1.1.seen)+1))) ([]:(List Int))))).set (zt (zn x1.1.seen)) (.ref 6 0 x5.length)),.fam 1 true (eF eI (List.replicate (zt (zw ((zn x1.1.seen)+1))) ([]:(List Int)))),.row false false true true 1 [vI 1],oR true 1 eI x5],91⟩) kr kr q8 kr kr kr ?_
 refine rgd ?_
 refine ⟨⟨[(2,.ptr 1 0 0),(3,.ptr 2 0 0),(5,.ref 3 0 ((List.set (List.replicate (zt (zw ((zn x1.1.seen)+1))) ([]:(List Int))) (zt (zn x1.1.seen)) x5).length)),(16,.ref 3 0 ((List.set (List.replicate (zt (zw ((zn x1.1.seen)+1))) ([]:(List Int))) (zt (zn x1.1.seen)) x5).length)),(17,.ptr 1 0 4),(18,z1 x1.1.seen),(19,vI (zn x1.1.seen)),(20,.ptr 2 0 0),(21,vI 1),(22,.ref 5 0 1),(23,.ptr 1 0 0),(24,.ptr 1 0 1),(25,z1 x1.1.Hidden.First),(26,vI (zn x1.1.Hidden.First)),(28,.ptr 3 (zt (zn x1.1.seen)) 0)],[oX true false 5 (.agg [vI x1.1.Hidden.Grain,z1 x1.1.Hidden.First,z2 x1.1.Hidden.Step,z2 x1.1.Hidden.Show,z1 x1.1.seen]),oX true false 5 (.agg [vI x1.1.Hidden.Grain,z1 x1.1.Hidden.First,z2 x1.1.Hidden.Step,z2 x1.1.Hidden.Show,z1 x1.1.seen]),oX true false 4 (.agg [vI 1,vI 0,.fn (.func 52) [] [],.fn (.func 53) [] []]),.refs 4 (eF eI (List.set (List.replicate (zt (zw ((zn x1.1.seen)+1))) ([]:(List Int))) (zt (zn x1.1.seen)) x5)),.fam 1 true (eF eI (List.set (List.replicate (zt (zw ((zn x1.1.seen)+1))) ([]:(List Int))) (zt (zn x1.1.seen)) x5)),.row false false true true 1 [vI 1],.dead],91⟩,(wk_trans (wk_adopt 3 4 6 (enc:=eI) (ls:=(List.replicate (zt (zw ((zn x1.1.seen)+1))) ([]:(List Int)))) (x:=a7) (b:=x5) (n:=(zn x1.1.seen)) [2,3,5,16,17,18,19,20,21,22,23,24,25,26,28] (st':=⟨[(2,.ptr 1 0 0),(3,.ptr 2 0 0),(5,.ref 3 0 ((List.replicate (zt (zw ((zn x1.1.seen)+1))) ([]:(List Int))).length))]++[(16,.ref 3 0 ((List.replicate (zt (zw ((zn x1.1.seen)+1))) ([]:(List Int))).length)),(17,.ptr 1 0 4),(18,z1 x1.1.seen),(19,vI (zn x1.1.seen)),(20,.ptr 2 0 0),(21,vI 1)]++[(22,.ref 5 0 1),(23,.ptr 1 0 0),(24,.ptr 1 0 1),(25,z1 x1.1.Hidden.First),(26,vI (zn x1.1.Hidden.First)),(28,.ptr 3 (zt (zn x1.1.seen)) 0)],[oX true false 5 (.agg [vI x1.1.Hidden.Grain,z1 x1.1.Hidden.First,z2 x1.1.Hidden.Step,z2 x1.1.Hidden.Show,z1 x1.1.seen]),oX true false 5 (.agg [vI x1.1.Hidden.Grain,z1 x1.1.Hidden.First,z2 x1.1.Hidden.Step,z2 x1.1.Hidden.Show,z1 x1.1.seen]),oX true false 4 (.agg [vI 1,vI 0,.fn (.func 52) [] [],.fn (.func 53) [] []]),.refs 4 (eF eI (List.set (List.replicate (zt (zw ((zn x1.1.seen)+1))) ([]:(List Int))) (zt (zn x1.1.seen)) x5)),.fam 1 true (eF eI (List.set (List.replicate (zt (zw ((zn x1.1.seen)+1))) ([]:(List Int))) (zt (zn x1.1.seen)) x5)),.row false false true true 1 [vI 1],.dead],91⟩) rfl rfl rfl q8 (by kernel_rfl) (by kernel_rfl)) (wk_eq (congrArg (fun n9=>(⟨[(2,.ptr 1 0 0),(3,.ptr 2 0 0),(5,.ref 3 0 n9),(16,.ref 3 0 n9),(17,.ptr 1 0 4),(18,z1 x1.1.seen),(19,vI (zn x1.1.seen)),(20,.ptr 2 0 0),(21,vI 1),(22,.ref 5 0 1),(23,.ptr 1 0 0),(24,.ptr 1 0 1),(25,z1 x1.1.Hidden.First),(26,vI (zn x1.1.Hidden.First)),(28,.ptr 3 (zt (zn x1.1.seen)) 0)],[oX true false 5 (.agg [vI x1.1.Hidden.Grain,z1 x1.1.Hidden.First,z2 x1.1.Hidden.Step,z2 x1.1.Hidden.Show,z1 x1.1.seen]),oX true false 5 (.agg [vI x1.1.Hidden.Grain,z1 x1.1.Hidden.First,z2 x1.1.Hidden.Step,z2 x1.1.Hidden.Show,z1 x1.1.seen]),oX true false 4 (.agg [vI 1,vI 0,.fn (.func 52) [] [],.fn (.func 53) [] []]),.refs 4 (eF eI (List.set (List.replicate (zt (zw ((zn x1.1.seen)+1))) ([]:(List Int))) (zt (zn x1.1.seen)) x5)),.fam 1 true (eF eI (List.set (List.replicate (zt (zw ((zn x1.1.seen)+1))) ([]:(List Int))) (zt (zn x1.1.seen)) x5)),.row false false true true 1 [vI 1],.dead],91⟩:St)) (show (List.replicate (zt (zw ((zn x1.1.seen)+1))) ([]:(List Int))).length=(List.set (List.replicate (zt (zw ((zn x1.1.seen)+1))) ([]:(List Int))) (zt (zn x1.1.seen)) x5).length by simp only [List.length_set])))),?_⟩
 refine wp_seq (wp_seq (wg [2,3,5] [1,2,3,4] ?_))
 refine wp_post ?_
 refine reg_in (sz 2 2 ?_)
 refine lenL (enc:=eI) (l:=x1.1.seen) (fl:=true) kr gE ?_
 refine sz 2 5 (reg_end rfl ?_)
 refine ⟨_,wk_refl,?_⟩
 refine wp_block ?_
 refine wwh h (fun s10=>⟨[(2,.ptr 1 0 0),(3,.ptr 2 0 0),(5,.ref 3 0 s10.2.length),(6,vI s10.1)],(s21_66 x1 s10),91⟩) (fun v out=>out=.go (.exit 0) ⟨[(5,.ref 1 0 v.length)],[oX true false 5 (.agg [vI x1.1.Hidden.Grain,z1 x1.1.Hidden.First,z2 x1.1.Hidden.Step,z2 x1.1.Hidden.Show,z1 x1.1.seen]),.refs 2 (eF eI v),.fam 1 true (eF eI v)],91⟩) (wk_gc (live:=[2,3,5,6]) (keep:=[1,2,3,4]) kr) ?_ ?_
 ·intro s10 o h
  unfold g_path_Count_b4 at h
  refine wp_seq (sq ?_)
  refine wb [34] h (fun q12 h=>?_) (fun q12 h=>?_)
  ·refine wcT (wp_skip (wp_seq (wp_block (wp_seq ?_))))
   refine wp_post ?_
   refine reg_in (sz 3 3 ?_)
   refine lenL (enc:=eI) (l:=x1.1.Hidden.First) (fl:=true) kr gE ?_
   refine sz 1 5 (reg_end rfl ?_)
   refine ⟨_,wk_refl,?_⟩
   refine wp_seq (wp_seq ?_)
   refine wgc [2,3,5,6,7] [1,2,3,4] ⟨[(2,.ptr 1 0 0),(3,.ptr 2 0 0),(5,.ref 3 0 s10.2.length),(6,vI s10.1),(7,vI (zn x1.1.Hidden.First))],(s21_66 x1 s10),91⟩ ?_
   refine rn ?_
   refine wb [42] h (fun q14 h=>?_) (fun q14 h=>?_)
   ·refine wcT (rn (sq (wp_block ?_)))
    refine wwh h (fun s15=>⟨[(2,.ptr 1 0 0),(3,.ptr 2 0 0),(5,.ref 3 0 s15.2.length),(6,vI s10.1),(43,vI 1),(44,vI s15.1)],(s21_30 x1 s15),91⟩) (fun v out=>out=.go (.exit 2) ⟨[(2,.ptr 1 0 0),(3,.ptr 2 0 0),(5,.ref 3 0 v.length),(6,vI s10.1)],[oX true false 5 (.agg [vI x1.1.Hidden.Grain,z1 x1.1.Hidden.First,z2 x1.1.Hidden.Step,z2 x1.1.Hidden.Show,z1 x1.1.seen]),oX true false 5 (.agg [vI x1.1.Hidden.Grain,z1 x1.1.Hidden.First,z2 x1.1.Hidden.Step,z2 x1.1.Hidden.Show,z1 x1.1.seen]),oX true false 4 (.agg [vI 1,vI 0,.fn (.func 52) [] [],.fn (.func 53) [] []]),.refs 4 (eF eI v),.fam 1 true (eF eI v)],91⟩) (wk_gc (live:=[2,3,5,6,43,44]) (keep:=[1,2,3,4]) kr) ?_ ?_
    ·intro s15 o h
     unfold g_path_Count_b1 at h
     refine sq (wp_seq ?_)
     refine wb [45] h (fun q17 h=>?_) (fun q17 h=>?_)
     ·refine wcT (wp_skip (wp_seq (wp_block (sq (wp_seq ?_)))))
      refine wp_post ?_
      refine rn ?_
      refine ⟨_,wk_refl,?_⟩
      refine wp_seq (wp_seq ?_)
      refine wp_post ?_
      refine reg_in (sz 3 3 ?_)
      refine lenL (enc:=eI) (l:=x1.1.Hidden.First) (fl:=true) kr gE ?_
      refine sz 1 5 (reg_end rfl ?_)
      refine ⟨_,wk_refl,?_⟩
      refine wp_block ?_
      refine wwh h (fun s18=>⟨[(2,.ptr 1 0 0),(3,.ptr 2 0 0),(5,.ref 3 0 s15.2.length),(6,vI s10.1),(8,vI s15.1),(9,vI s18.1),(43,vI 1),(44,vI s15.1),(52,vI (zn x1.1.Hidden.First)),(53,vI s18.2)],(s21_30 x1 s15),91⟩) (fun v out=>out=.go (.exit 4) ⟨[(2,.ptr 1 0 0),(3,.ptr 2 0 0),(5,.ref 3 0 s15.2.length),(6,vI s10.1),(9,vI v),(43,vI 1),(44,vI s15.1)],(s21_30 x1 s15),91⟩) (wk_gc (live:=[2,3,5,6,8,9,43,44,52,53]) (keep:=[1,2,3,4]) kr) ?_ ?_
      ·intro s18 o h
       unfold g_path_Count_b0 at h
       refine sq (wp_seq ?_)
       refine wb [54] h (fun q20 h=>?_) (fun q20 h=>?_)
       ·refine wcT (wp_skip (wp_seq (wp_block (sq ?_))))
        refine wp_post ?_
        refine rga hfol (sy 11 11 ?_)
        refine callW bodyB_36 (g_path_searcher_into_ok x1.1 s10.1 s15.1 s18.2) h (fun x21 _ h=>?_)
        refine sy 3 15 ?_
        refine bind_elim h (fun a23 q24 h=>?_)
        refine idxF (enc:=eI) (ls:=s15.2) (x:=a23) (n:=zw (s10.1+1)) (ob:=3) (j:=4) kr kr q24 gE ?_
        refine loadF (enc:=eI) (ls:=s15.2) (x:=a23) (n:=zw (s10.1+1)) (ob:=3) (j:=4) kr kr q24 gE ?_
        refine sy 1 18 ?_
        refine bind_elim h (fun a25 q26 h=>?_)
        refine idxI (enc:=eI) (ls:=s15.2) (x:=a23) (y:=a25) (n:=zw (s10.1+1)) (c:=s18.2) (w:=1) (j:=4) (fl:=true) kr kr q24 q26 rfl gE ?_
        refine loadI (enc:=eI) (ls:=s15.2) (x:=a23) (y:=a25) (n:=zw (s10.1+1)) (m:=s18.2) (w:=1) (j:=4) (c:=0) (fl:=true) kr kr q24 q26 rfl gE ?_
        refine callW bodyB_53 (g_path_Count_1_ok s10.1 s18.2 x21 a25) h (fun x27 _ h=>?_)
        refine callR (as0:=[vI s18.1,vI x27]) (ids:=[]) (S:=fun x29=>⟨[(2,.ptr 1 0 0),(3,.ptr 2 0 0),(5,.ref 3 0 s15.2.length),(6,vI s10.1),(8,vI s15.1),(9,vI s18.1),(43,vI 1),(44,vI s15.1),(52,vI (zn x1.1.Hidden.First)),(53,vI s18.2)]++[(54,vB true),(55,vI s18.2),(10,vI s18.2),(56,.ptr 2 0 2),(57,.fn (.func 52) [] []),(58,vI s18.1),(59,.ptr 2 0 3),(60,.fn (.func 53) [] []),(61,vI s10.1),(62,vI s18.2),(63,.agg [vI x1.1.Hidden.Grain,z1 x1.1.Hidden.First,z2 x1.1.Hidden.Step,z2 x1.1.Hidden.Show,z1 x1.1.seen]),(64,vI s10.1),(65,vI s15.1),(66,vI s18.2)]++[(67,vI x21),(68,.ref 3 0 s15.2.length),(69,vI s10.1),(70,vI (zw (s10.1+1))),(71,.ptr 3 (zt (zw (s10.1+1))) 0),(72,.ref (fid 4 (zt (zw (s10.1+1)))) 0 a23.length),(73,vI s18.2)]++[(74,.ptr (fid 4 (zt (zw (s10.1+1)))) (zt s18.2) 0),(75,vI a25),(76,vI x27),(77,vI x29)],(s21_30 x1 s15),91⟩) kr bodyB_52 (msnap_cons rfl (msnap_cons rfl msnap_nil)) (fun x29 q30=>g_path_add_ok s18.1 x27 x29 q30) (fun _=>by as_aux_lemma=>kernel_rfl) h (fun x29 q30 h=>?_)
        refine sy 1 23 (rgd ?_)
        refine ⟨_,wk_refl,?_⟩
        refine wg [2,3,5,6,8,9,43,44,52,53] [1,2,3,4] (rn ?_)
        cases h
        exact ⟨_,rfl,(wk_gc (live:=[2,3,5,6,8,9,43,44,52,53]) (keep:=[1,2,3,4]) kr)⟩
       refine wcF (wg [2,3,5,6,9,43,44] [1,2,3,4] ?_)
       refine wp_exit ?_
       cases h
       exact ⟨kr,rfl⟩
      intro x32 h out hx
      subst hx
      refine bind_elim h (fun a33 q34 h=>?_)
      refine wp_wk (wk_steal 3 4 (enc:=eI) (ls:=s15.2) (x:=a33) (n:=s10.1) [2,3,5,6,9,43,44] (st':=⟨[(2,.ptr 1 0 0),(3,.ptr 2 0 0),(5,.ref 3 0 s15.2.length),(6,vI s10.1),(9,vI x32),(43,vI 1),(44,vI s15.1)],(s21_111 x1 s15 s10 a33),91⟩) rfl rfl q34 kr kr) ?_
      refine wp_wk (wk_eq (congrArg (fun n35=>(⟨[(2,.ptr 1 0 0),(3,.ptr 2 0 0),(5,.ref 3 0 n35),(6,vI s10.1),(9,vI x32),(43,vI 1),(44,vI s15.1)],(s21_111 x1 s15 s10 a33),91⟩:St)) (show s15.2.length=(List.set s15.2 (zt s10.1) ([]:List Int)).length by simp only [List.length_set]))) ?_
      refine wp_post ?_
      refine reg_in (sz 4 4 ?_)
      refine idxS (enc:=eI) (ls:=(List.set s15.2 (zt s10.1) ([]:List Int))) (x:=([]:List Int)) (n:=s10.1) (ob:=3) (j:=4) (m:=5) (q:=a33.length) kr kr (lkI_set ([]:List Int) q34) gE ?_
      refine loadS (enc:=eI) (ls:=(List.set s15.2 (zt s10.1) ([]:List Int))) (x:=([]:List Int)) (n:=s10.1) (ob:=3) (j:=4) (m:=5) (q:=a33.length) kr kr (lkI_set ([]:List Int) q34) gE ?_
      refine sz 1 7 ?_
      refine sgL false [] [] true gE ?_
      refine appR (enc:=eI) (l:=a33) (m:=([x32]:(List Int))) (w:=1) (bytes:=8) (ob:=5) (nr:=true) (fl:=true) (nr':=true) (fl':=true) (b:=.ref 6 0 1) (rds:=[6]) false kr kr kr rfl gE kr h (fun h=>?_)
      refine idxS (enc:=eI) (ls:=(List.set s15.2 (zt s10.1) ([]:List Int))) (x:=([]:List Int)) (n:=s10.1) (ob:=3) (j:=4) (m:=5) (q:=a33.length) kr kr (lkI_set ([]:List Int) q34) gE ?_
      refine storeS2 (enc:=eI) (ls:=(List.set s15.2 (zt s10.1) ([]:List Int))) (x:=([]:List Int)) (n:=s10.1) (ob:=3) (j:=4) (m0:=5) (q0:=a33.length) (m:=7) (q:=(a33++([x32]:(List Int))).length) (S:=⟨(s21_112 s15 s10 x32)++[(83,.ptr 3 (zt s10.1) 0),(84,.ref 5 0 a33.length),(85,vI x32),(86,.ref 6 0 1),(87,.ref 7 0 ((a33++([x32]:(List Int))).length)),(88,.ptr 3 (zt s10.1) 0)],[oX true false 5 (.agg [vI x1.1.Hidden.Grain,z1 x1.1.Hidden.First,z2 x1.1.Hidden.Step,z2 x1.1.Hidden.Show,z1 x1.1.seen]),oX true false 5 (.agg [vI x1.1.Hidden.Grain,z1 x1.1.Hidden.First,z2 x1.1.Hidden.Step,z2 x1.1.Hidden.Show,z1 x1.1.seen]),oX true false 4 (.agg [vI 1,vI 0,.fn (.func 52) [] [],.fn (.func 53) [] []]),.row false false false false 1 ((famRefs 4 0 (eF eI (List.set s15.2 (zt s10.1) ([]:List Int)))).set (zt s10.1) (.ref 7 0 ((a33++([x32]:(List Int))).length))),.fam 1 true (eF eI (List.set s15.2 (zt s10.1) ([]:List Int))),.dead,.row false false true true 1 [vI x32],oR true 1 eI (a33++([x32]:(List Int)))],91⟩) kr kr (lkI_set ([]:List Int) q34) kr kr kr ?_
      refine reg_end rfl ?_
      refine ⟨⟨[(2,.ptr 1 0 0),(3,.ptr 2 0 0),(5,.ref 3 0 ((List.set (List.set s15.2 (zt s10.1) ([]:List Int)) (zt s10.1) (a33++([x32]:(List Int)))).length)),(6,vI s10.1),(9,vI x32),(43,vI 1),(44,vI s15.1),(79,.ref 3 0 ((List.set (List.set s15.2 (zt s10.1) ([]:List Int)) (zt s10.1) (a33++([x32]:(List Int)))).length)),(80,vI s10.1),(81,.ref 3 0 ((List.set (List.set s15.2 (zt s10.1) ([]:List Int)) (zt s10.1) (a33++([x32]:(List Int)))).length)),(82,vI s10.1),(83,.ptr 3 (zt s10.1) 0),(84,.ref 5 0 a33.length),(85,vI x32),(86,.ref 6 0 1),(88,.ptr 3 (zt s10.1) 0)],(s21_113 x1 s15 s10 a33 x32),91⟩,(wk_trans (wk_adopt 3 4 7 (enc:=eI) (ls:=(List.set s15.2 (zt s10.1) ([]:List Int))) (x:=([]:List Int)) (b:=(a33++([x32]:(List Int)))) (n:=s10.1) [2,3,5,6,9,43,44,79,80,81,82,83,84,85,86,88] (st':=⟨(s21_112 s15 s10 x32)++[(83,.ptr 3 (zt s10.1) 0),(84,.ref 5 0 a33.length),(85,vI x32),(86,.ref 6 0 1),(88,.ptr 3 (zt s10.1) 0)],(s21_113 x1 s15 s10 a33 x32),91⟩) rfl rfl rfl (lkI_set ([]:List Int) q34) (by kernel_rfl) (by kernel_rfl)) (wk_eq (congrArg (fun n36=>(⟨[(2,.ptr 1 0 0),(3,.ptr 2 0 0),(5,.ref 3 0 n36),(6,vI s10.1),(9,vI x32),(43,vI 1),(44,vI s15.1),(79,.ref 3 0 n36),(80,vI s10.1),(81,.ref 3 0 n36),(82,vI s10.1),(83,.ptr 3 (zt s10.1) 0),(84,.ref 5 0 a33.length),(85,vI x32),(86,.ref 6 0 1),(88,.ptr 3 (zt s10.1) 0)],(s21_113 x1 s15 s10 a33 x32),91⟩:St)) (show (List.set s15.2 (zt s10.1) ([]:List Int)).length=(List.set (List.set s15.2 (zt s10.1) ([]:List Int)) (zt s10.1) (a33++([x32]:(List Int)))).length by simp only [List.length_set])))),?_⟩
      refine wg [2,3,5,6,43,44] [1,2,3,4] (rn ?_)
      cases h
      exact ⟨_,rfl,(wk_gc (live:=[2,3,5,6,43,44]) (keep:=[1,2,3,4]) kr)⟩
     refine wcF (wg [2,3,5,6] [1,2,3,4] ?_)
     refine wp_exit ?_
     cases h
     exact ⟨kr,rfl⟩
    intro x38 h out hx
    subst hx
    refine rn ?_
    cases h
    exact ⟨_,rfl,(wk_gc (live:=[2,3,5,6]) (keep:=[1,2,3,4]) kr)⟩
   refine wcF (wp_skip (sq (wp_block ?_)))
   refine wwh h (fun s39=>⟨[(2,.ptr 1 0 0),(3,.ptr 2 0 0),(5,.ref 3 0 s39.2.length),(6,vI s10.1),(43,vI (zn x1.1.Hidden.First)),(44,vI s39.1)],(s21_51 x1 s39),91⟩) (fun v out=>out=.go (.exit 2) ⟨[(2,.ptr 1 0 0),(3,.ptr 2 0 0),(5,.ref 3 0 v.length),(6,vI s10.1)],[oX true false 5 (.agg [vI x1.1.Hidden.Grain,z1 x1.1.Hidden.First,z2 x1.1.Hidden.Step,z2 x1.1.Hidden.Show,z1 x1.1.seen]),oX true false 5 (.agg [vI x1.1.Hidden.Grain,z1 x1.1.Hidden.First,z2 x1.1.Hidden.Step,z2 x1.1.Hidden.Show,z1 x1.1.seen]),oX true false 4 (.agg [vI 1,vI 0,.fn (.func 52) [] [],.fn (.func 53) [] []]),.refs 4 (eF eI v),.fam 1 true (eF eI v)],91⟩) (wk_gc (live:=[2,3,5,6,43,44]) (keep:=[1,2,3,4]) kr) ?_ ?_
   ·intro s39 o h
    unfold g_path_Count_b3 at h
    refine sq (wp_seq ?_)
    refine wb [45] h (fun q41 h=>?_) (fun q41 h=>?_)
    ·refine wcT (wp_skip (wp_seq (wp_block (sq (wp_seq ?_)))))
     refine wp_post ?_
     refine rn ?_
     refine ⟨_,wk_refl,?_⟩
     refine wp_seq (wp_seq ?_)
     refine wp_post ?_
     refine reg_in (sz 3 3 ?_)
     refine lenL (enc:=eI) (l:=x1.1.Hidden.First) (fl:=true) kr gE ?_
     refine sz 1 5 (reg_end rfl ?_)
     refine ⟨_,wk_refl,?_⟩
     refine wp_block ?_
     refine wwh h (fun s42=>⟨(s21_95 s39 s10 s42 x1),(s21_51 x1 s39),91⟩) (fun v out=>out=.go (.exit 4) ⟨[(2,.ptr 1 0 0),(3,.ptr 2 0 0),(5,.ref 3 0 s39.2.length),(6,vI s10.1),(9,vI v),(43,vI (zn x1.1.Hidden.First)),(44,vI s39.1)],(s21_51 x1 s39),91⟩) (wk_gc (live:=[2,3,5,6,8,9,43,44,52,53]) (keep:=[1,2,3,4]) kr) ?_ ?_
     ·intro s42 o h
      unfold g_path_Count_b2 at h
      refine sq (wp_seq ?_)
      refine wb [54] h (fun q44 h=>?_) (fun q44 h=>?_)
      ·refine wcT (wp_skip (wp_seq (wp_block (sq ?_))))
       refine wp_post ?_
       refine rga hfol (sy 11 11 ?_)
       refine callW bodyB_36 (g_path_searcher_into_ok x1.1 s10.1 s39.1 s42.2) h (fun x45 _ h=>?_)
       refine sy 3 15 ?_
       refine bind_elim h (fun a47 q48 h=>?_)
       refine idxF (enc:=eI) (ls:=s39.2) (x:=a47) (n:=zw (s10.1+1)) (ob:=3) (j:=4) kr kr q48 gE ?_
       refine loadF (enc:=eI) (ls:=s39.2) (x:=a47) (n:=zw (s10.1+1)) (ob:=3) (j:=4) kr kr q48 gE ?_
       refine sy 1 18 ?_
       refine bind_elim h (fun a49 q50 h=>?_)
       refine idxI (enc:=eI) (ls:=s39.2) (x:=a47) (y:=a49) (n:=zw (s10.1+1)) (c:=s42.2) (w:=1) (j:=4) (fl:=true) kr kr q48 q50 rfl gE ?_
       refine loadI (enc:=eI) (ls:=s39.2) (x:=a47) (y:=a49) (n:=zw (s10.1+1)) (m:=s42.2) (w:=1) (j:=4) (c:=0) (fl:=true) kr kr q48 q50 rfl gE ?_
       refine callW bodyB_53 (g_path_Count_1_ok s10.1 s42.2 x45 a49) h (fun x51 _ h=>?_)
       refine callR (as0:=[vI s42.1,vI x51]) (ids:=[]) (S:=fun x53=>⟨(s21_95 s39 s10 s42 x1)++[(54,vB true),(55,vI s42.2),(10,vI s42.2),(56,.ptr 2 0 2),(57,.fn (.func 52) [] []),(58,vI s42.1),(59,.ptr 2 0 3),(60,.fn (.func 53) [] []),(61,vI s10.1),(62,vI s42.2),(63,.agg [vI x1.1.Hidden.Grain,z1 x1.1.Hidden.First,z2 x1.1.Hidden.Step,z2 x1.1.Hidden.Show,z1 x1.1.seen]),(64,vI s10.1),(65,vI s39.1),(66,vI s42.2)]++[(67,vI x45),(68,.ref 3 0 s39.2.length),(69,vI s10.1),(70,vI (zw (s10.1+1))),(71,.ptr 3 (zt (zw (s10.1+1))) 0),(72,.ref (fid 4 (zt (zw (s10.1+1)))) 0 a47.length),(73,vI s42.2)]++[(74,.ptr (fid 4 (zt (zw (s10.1+1)))) (zt s42.2) 0),(75,vI a49),(76,vI x51),(77,vI x53)],(s21_51 x1 s39),91⟩) kr bodyB_52 (msnap_cons rfl (msnap_cons rfl msnap_nil)) (fun x53 q54=>g_path_add_ok s42.1 x51 x53 q54) (fun _=>by as_aux_lemma=>kernel_rfl) h (fun x53 q54 h=>?_)
       refine sy 1 23 (rgd ?_)
       refine ⟨_,wk_refl,?_⟩
       refine wg [2,3,5,6,8,9,43,44,52,53] [1,2,3,4] (rn ?_)
       cases h
       exact ⟨_,rfl,(wk_gc (live:=[2,3,5,6,8,9,43,44,52,53]) (keep:=[1,2,3,4]) kr)⟩
      refine wcF (wg [2,3,5,6,9,43,44] [1,2,3,4] ?_)
      refine wp_exit ?_
      cases h
      exact ⟨kr,rfl⟩
     intro x56 h out hx
     subst hx
     refine bind_elim h (fun a57 q58 h=>?_)
     refine wp_wk (wk_steal 3 4 (enc:=eI) (ls:=s39.2) (x:=a57) (n:=s10.1) [2,3,5,6,9,43,44] (st':=⟨[(2,.ptr 1 0 0),(3,.ptr 2 0 0),(5,.ref 3 0 s39.2.length),(6,vI s10.1),(9,vI x56),(43,vI (zn x1.1.Hidden.First)),(44,vI s39.1)],(s21_133 x1 s39 s10 a57),91⟩) rfl rfl q58 kr kr) ?_
     refine wp_wk (wk_eq (congrArg (fun n59=>(⟨[(2,.ptr 1 0 0),(3,.ptr 2 0 0),(5,.ref 3 0 n59),(6,vI s10.1),(9,vI x56),(43,vI (zn x1.1.Hidden.First)),(44,vI s39.1)],(s21_133 x1 s39 s10 a57),91⟩:St)) (show s39.2.length=(List.set s39.2 (zt s10.1) ([]:List Int)).length by simp only [List.length_set]))) ?_
     refine wp_post ?_
     refine reg_in (sz 4 4 ?_)
     refine idxS (enc:=eI) (ls:=(List.set s39.2 (zt s10.1) ([]:List Int))) (x:=([]:List Int)) (n:=s10.1) (ob:=3) (j:=4) (m:=5) (q:=a57.length) kr kr (lkI_set ([]:List Int) q58) gE ?_
     refine loadS (enc:=eI) (ls:=(List.set s39.2 (zt s10.1) ([]:List Int))) (x:=([]:List Int)) (n:=s10.1) (ob:=3) (j:=4) (m:=5) (q:=a57.length) kr kr (lkI_set ([]:List Int) q58) gE ?_
     refine sz 1 7 ?_
     refine sgL false [] [] true gE ?_
     refine appR (enc:=eI) (l:=a57) (m:=([x56]:(List Int))) (w:=1) (bytes:=8) (ob:=5) (nr:=true) (fl:=true) (nr':=true) (fl':=true) (b:=.ref 6 0 1) (rds:=[6]) false kr kr kr rfl gE kr h (fun h=>?_)
     refine idxS (enc:=eI) (ls:=(List.set s39.2 (zt s10.1) ([]:List Int))) (x:=([]:List Int)) (n:=s10.1) (ob:=3) (j:=4) (m:=5) (q:=a57.length) kr kr (lkI_set ([]:List Int) q58) gE ?_
     refine storeS2 (enc:=eI) (ls:=(List.set s39.2 (zt s10.1) ([]:List Int))) (x:=([]:List Int)) (n:=s10.1) (ob:=3) (j:=4) (m0:=5) (q0:=a57.length) (m:=7) (q:=(a57++([x56]:(List Int))).length) (S:=⟨[(2,.ptr 1 0 0),(3,.ptr 2 0 0),(5,.ref 3 0 ((List.set s39.2 (zt s10.1) ([]:List Int)).length)),(6,vI s10.1),(9,vI x56),(43,vI (zn x1.1.Hidden.First)),(44,vI s39.1),(79,.ref 3 0 ((List.set s39.2 (zt s10.1) ([]:List Int)).length)),(80,vI s10.1),(81,.ref 3 0 ((List.set s39.2 (zt s10.1) ([]:List Int)).length)),(82,vI s10.1),(83,.ptr 3 (zt s10.1) 0),(84,.ref 5 0 a57.length),(85,vI x56),(86,.ref 6 0 1),(87,.ref 7 0 ((a57++([x56]:(List Int))).length)),(88,.ptr 3 (zt s10.1) 0)],[oX true false 5 (.agg [vI x1.1.Hidden.Grain,z1 x1.1.Hidden.First,z2 x1.1.Hidden.Step,z2 x1.1.Hidden.Show,z1 x1.1.seen]),oX true false 5 (.agg [vI x1.1.Hidden.Grain,z1 x1.1.Hidden.First,z2 x1.1.Hidden.Step,z2 x1.1.Hidden.Show,z1 x1.1.seen]),oX true false 4 (.agg [vI 1,vI 0,.fn (.func 52) [] [],.fn (.func 53) [] []]),.row false false false false 1 ((famRefs 4 0 (eF eI (List.set s39.2 (zt s10.1) ([]:List Int)))).set (zt s10.1) (.ref 7 0 ((a57++([x56]:(List Int))).length))),.fam 1 true (eF eI (List.set s39.2 (zt s10.1) ([]:List Int))),.dead,.row false false true true 1 [vI x56],oR true 1 eI (a57++([x56]:(List Int)))],91⟩) kr kr (lkI_set ([]:List Int) q58) kr kr kr ?_
     refine reg_end rfl ?_
     refine ⟨⟨[(2,.ptr 1 0 0),(3,.ptr 2 0 0),(5,.ref 3 0 ((List.set (List.set s39.2 (zt s10.1) ([]:List Int)) (zt s10.1) (a57++([x56]:(List Int)))).length)),(6,vI s10.1),(9,vI x56),(43,vI (zn x1.1.Hidden.First)),(44,vI s39.1),(79,.ref 3 0 ((List.set (List.set s39.2 (zt s10.1) ([]:List Int)) (zt s10.1) (a57++([x56]:(List Int)))).length)),(80,vI s10.1),(81,.ref 3 0 ((List.set (List.set s39.2 (zt s10.1) ([]:List Int)) (zt s10.1) (a57++([x56]:(List Int)))).length)),(82,vI s10.1),(83,.ptr 3 (zt s10.1) 0),(84,.ref 5 0 a57.length),(85,vI x56),(86,.ref 6 0 1),(88,.ptr 3 (zt s10.1) 0)],(s21_136 x1 s39 s10 a57 x56),91⟩,(wk_trans (wk_adopt 3 4 7 (enc:=eI) (ls:=(List.set s39.2 (zt s10.1) ([]:List Int))) (x:=([]:List Int)) (b:=(a57++([x56]:(List Int)))) (n:=s10.1) [2,3,5,6,9,43,44,79,80,81,82,83,84,85,86,88] (st':=⟨[(2,.ptr 1 0 0),(3,.ptr 2 0 0),(5,.ref 3 0 ((List.set s39.2 (zt s10.1) ([]:List Int)).length)),(6,vI s10.1),(9,vI x56),(43,vI (zn x1.1.Hidden.First)),(44,vI s39.1)]++[(79,.ref 3 0 ((List.set s39.2 (zt s10.1) ([]:List Int)).length)),(80,vI s10.1),(81,.ref 3 0 ((List.set s39.2 (zt s10.1) ([]:List Int)).length)),(82,vI s10.1)]++[(83,.ptr 3 (zt s10.1) 0),(84,.ref 5 0 a57.length),(85,vI x56),(86,.ref 6 0 1),(88,.ptr 3 (zt s10.1) 0)],(s21_136 x1 s39 s10 a57 x56),91⟩) rfl rfl rfl (lkI_set ([]:List Int) q58) (by kernel_rfl) (by kernel_rfl)) (wk_eq (congrArg (fun n60=>(⟨[(2,.ptr 1 0 0),(3,.ptr 2 0 0),(5,.ref 3 0 n60),(6,vI s10.1),(9,vI x56),(43,vI (zn x1.1.Hidden.First)),(44,vI s39.1),(79,.ref 3 0 n60),(80,vI s10.1),(81,.ref 3 0 n60),(82,vI s10.1),(83,.ptr 3 (zt s10.1) 0),(84,.ref 5 0 a57.length),(85,vI x56),(86,.ref 6 0 1),(88,.ptr 3 (zt s10.1) 0)],(s21_136 x1 s39 s10 a57 x56),91⟩:St)) (show (List.set s39.2 (zt s10.1) ([]:List Int)).length=(List.set (List.set s39.2 (zt s10.1) ([]:List Int)) (zt s10.1) (a57++([x56]:(List Int)))).length by simp only [List.length_set])))),?_⟩
     refine wg [2,3,5,6,43,44] [1,2,3,4] (rn ?_)
     cases h
     exact ⟨_,rfl,(wk_gc (live:=[2,3,5,6,43,44]) (keep:=[1,2,3,4]) kr)⟩
    refine wcF (wg [2,3,5,6] [1,2,3,4] ?_)
    refine wp_exit ?_
    cases h
    exact ⟨kr,rfl⟩
   intro x62 h out hx
   subst hx
   refine rn ?_
   cases h
   exact ⟨_,rfl,(wk_gc (live:=[2,3,5,6]) (keep:=[1,2,3,4]) kr)⟩
  refine wcF (wg [5] [3,4] ?_)
  refine wp_exit ?_
  cases h
  exact ⟨kr,rfl⟩
 intro x64 h out hx
 subst hx
 refine sq (wg [4] [1,2] ?_)
 refine wp_ret ?_
 refine ⟨⟨[(6,.ptr 0 0 0),(7,vI x1.2),(14,vI x1.2),(15,vB false),(17,.agg [vI x1.1.Hidden.Grain,z1 x1.1.Hidden.First,z2 x1.1.Hidden.Step,z2 x1.1.Hidden.Show,z1 x1.1.seen]),(18,.agg [vI 1,vI 0,.fn (.func 52) [] [],.fn (.func 53) [] []])]++[(19,.ref 1 0 x64.length)],[oX true false 5 (.agg [vI x1.1.Hidden.Grain,z1 x1.1.Hidden.First,z2 x1.1.Hidden.Step,z2 x1.1.Hidden.Show,z1 x1.1.seen]),.refs 2 (eF eI x64),.fam 1 true (eF eI x64)],24⟩,by as_aux_lemma=>kernel_rfl,?_⟩
 refine bind_elim h (fun a65 q66 h=>?_)
 refine idxF (enc:=eI) (ls:=x64) (x:=a65) (n:=0) (ob:=1) (j:=2) kr kr q66 gE ?_
 refine loadF (enc:=eI) (ls:=x64) (x:=a65) (n:=0) (ob:=1) (j:=2) kr kr q66 gE ?_
 refine bind_elim h (fun a67 q68 h=>?_)
 refine idxI (enc:=eI) (ls:=x64) (x:=a65) (y:=a67) (n:=0) (c:=0) (w:=1) (j:=2) (fl:=true) kr kr q66 q68 rfl gE ?_
 refine loadI (enc:=eI) (ls:=x64) (x:=a65) (y:=a67) (n:=0) (m:=0) (w:=1) (j:=2) (c:=0) (fl:=true) kr kr q66 q68 rfl gE ?_
 refine sz 2 9 (reg_end rfl ?_)
 refine ⟨_,wk_refl,?_⟩
 refine wg [4,5] [] ?_
 cases h
 exact wp_ret (show fnOut _ _ _ _=_ from by kernel_rfl)
noncomputable abbrev s55_1 (p0:Tpath_searcher):List (Nat × AV):=[(0,.agg [vI p0.Hidden.Grain,z1 p0.Hidden.First,z2 p0.Hidden.Step,z2 p0.Hidden.Show,z1 p0.seen])]
noncomputable abbrev s55_4 (p0:Tpath_searcher):List (Nat × AV):=[(0,.agg [vI p0.Hidden.Grain,z1 p0.Hidden.First,z2 p0.Hidden.Step,z2 p0.Hidden.Show,z1 p0.seen]),(1,.agg [vI 1,vI 0,.fn (.func 52) [] [],.fn (.func 51) [] []])]
noncomputable abbrev s55_27 (p0:Tpath_searcher) (s11:(Int × (List (List Int)))):List AObj:=[oX true false 5 (.agg [vI p0.Hidden.Grain,z1 p0.Hidden.First,z2 p0.Hidden.Step,z2 p0.Hidden.Show,z1 p0.seen]),oX true false 5 (.agg [vI p0.Hidden.Grain,z1 p0.Hidden.First,z2 p0.Hidden.Step,z2 p0.Hidden.Show,z1 p0.seen]),oX true false 4 (.agg [vI 1,vI 0,.fn (.func 52) [] [],.fn (.func 51) [] []]),.refs 4 (eF eI s11.2),.fam 1 true (eF eI s11.2)]
noncomputable abbrev s55_48 (p0:Tpath_searcher) (s35:(Int × (List (List Int)))):List AObj:=[oX true false 5 (.agg [vI p0.Hidden.Grain,z1 p0.Hidden.First,z2 p0.Hidden.Step,z2 p0.Hidden.Show,z1 p0.seen]),oX true false 5 (.agg [vI p0.Hidden.Grain,z1 p0.Hidden.First,z2 p0.Hidden.Step,z2 p0.Hidden.Show,z1 p0.seen]),oX true false 4 (.agg [vI 1,vI 0,.fn (.func 52) [] [],.fn (.func 51) [] []]),.refs 4 (eF eI s35.2),.fam 1 true (eF eI s35.2)]
noncomputable abbrev s55_63 (p0:Tpath_searcher) (s6:(Int × (List (List Int)))):List AObj:=[oX true false 5 (.agg [vI p0.Hidden.Grain,z1 p0.Hidden.First,z2 p0.Hidden.Step,z2 p0.Hidden.Show,z1 p0.seen]),oX true false 5 (.agg [vI p0.Hidden.Grain,z1 p0.Hidden.First,z2 p0.Hidden.Step,z2 p0.Hidden.Show,z1 p0.seen]),oX true false 4 (.agg [vI 1,vI 0,.fn (.func 52) [] [],.fn (.func 51) [] []]),.refs 4 (eF eI s6.2),.fam 1 true (eF eI s6.2)]
noncomputable abbrev s55_92 (s35:(Int × (List (List Int)))) (s6:(Int × (List (List Int)))) (s38:(Int × Int)) (p0:Tpath_searcher):List (Nat × AV):=[(2,.ptr 1 0 0),(3,.ptr 2 0 0),(5,.ref 3 0 s35.2.length),(6,vI s6.1),(8,vI s35.1),(9,vI s38.1),(43,vI (zn p0.Hidden.First)),(44,vI s35.1),(52,vI (zn p0.Hidden.First)),(53,vI s38.2)]
noncomputable abbrev s55_108 (p0:Tpath_searcher) (s11:(Int × (List (List Int)))) (s6:(Int × (List (List Int)))) (a29:(List Int)):List AObj:=[oX true false 5 (.agg [vI p0.Hidden.Grain,z1 p0.Hidden.First,z2 p0.Hidden.Step,z2 p0.Hidden.Show,z1 p0.seen]),oX true false 5 (.agg [vI p0.Hidden.Grain,z1 p0.Hidden.First,z2 p0.Hidden.Step,z2 p0.Hidden.Show,z1 p0.seen]),oX true false 4 (.agg [vI 1,vI 0,.fn (.func 52) [] [],.fn (.func 51) [] []]),.row false false false false 1 ((famRefs 4 0 (eF eI (List.set s11.2 (zt s6.1) ([]:List Int)))).set (zt s6.1) (.ref 5 0 a29.length)),.fam 1 true (eF eI (List.set s11.2 (zt s6.1) ([]:List Int))),oR true 1 eI a29]
noncomputable abbrev s55_109 (s11:(Int × (List (List Int)))) (s6:(Int × (List (List Int)))) (x28:Int):List (Nat × AV):=[(2,.ptr 1 0 0),(3,.ptr 2 0 0),(5,.ref 3 0 ((List.set s11.2 (zt s6.1) ([]:List Int)).length)),(6,vI s6.1),(9,vI x28),(43,vI 1),(44,vI s11.1),(79,.ref 3 0 ((List.set s11.2 (zt s6.1) ([]:List Int)).length)),(80,vI s6.1),(81,.ref 3 0 ((List.set s11.2 (zt s6.1) ([]:List Int)).length)),(82,vI s6.1)]
noncomputable abbrev s55_110 (p0:Tpath_searcher) (s11:(Int × (List (List Int)))) (s6:(Int × (List (List Int)))) (a29:(List Int)) (x28:Int):List AObj:=[oX true false 5 (.agg [vI p0.Hidden.Grain,z1 p0.Hidden.First,z2 p0.Hidden.Step,z2 p0.Hidden.Show,z1 p0.seen]),oX true false 5 (.agg [vI p0.Hidden.Grain,z1 p0.Hidden.First,z2 p0.Hidden.Step,z2 p0.Hidden.Show,z1 p0.seen]),oX true false 4 (.agg [vI 1,vI 0,.fn (.func 52) [] [],.fn (.func 51) [] []]),.refs 4 (eF eI (List.set (List.set s11.2 (zt s6.1) ([]:List Int)) (zt s6.1) (a29++([x28]:(List Int))))),.fam 1 true (eF eI (List.set (List.set s11.2 (zt s6.1) ([]:List Int)) (zt s6.1) (a29++([x28]:(List Int))))),.dead,.row false false true true 1 [vI x28],.dead]
noncomputable abbrev s55_129 (p0:Tpath_searcher) (s35:(Int × (List (List Int)))) (s6:(Int × (List (List Int)))) (a53:(List Int)):List AObj:=[oX true false 5 (.agg [vI p0.Hidden.Grain,z1 p0.Hidden.First,z2 p0.Hidden.Step,z2 p0.Hidden.Show,z1 p0.seen]),oX true false 5 (.agg [vI p0.Hidden.Grain,z1 p0.Hidden.First,z2 p0.Hidden.Step,z2 p0.Hidden.Show,z1 p0.seen]),oX true false 4 (.agg [vI 1,vI 0,.fn (.func 52) [] [],.fn (.func 51) [] []]),.row false false false false 1 ((famRefs 4 0 (eF eI (List.set s35.2 (zt s6.1) ([]:List Int)))).set (zt s6.1) (.ref 5 0 a53.length)),.fam 1 true (eF eI (List.set s35.2 (zt s6.1) ([]:List Int))),oR true 1 eI a53]
noncomputable abbrev s55_131 (s35:(Int × (List (List Int)))) (s6:(Int × (List (List Int)))) (x52:Int) (p0:Tpath_searcher) (a53:(List Int)):List (Nat × AV):=[(2,.ptr 1 0 0),(3,.ptr 2 0 0),(5,.ref 3 0 ((List.set s35.2 (zt s6.1) ([]:List Int)).length)),(6,vI s6.1),(9,vI x52),(43,vI (zn p0.Hidden.First)),(44,vI s35.1)]++[(79,.ref 3 0 ((List.set s35.2 (zt s6.1) ([]:List Int)).length)),(80,vI s6.1),(81,.ref 3 0 ((List.set s35.2 (zt s6.1) ([]:List Int)).length)),(82,vI s6.1),(83,.ptr 3 (zt s6.1) 0),(84,.ref 5 0 a53.length),(85,vI x52)]
noncomputable abbrev s55_132 (p0:Tpath_searcher) (s35:(Int × (List (List Int)))) (s6:(Int × (List (List Int)))) (a53:(List Int)) (x52:Int):List AObj:=[oX true false 5 (.agg [vI p0.Hidden.Grain,z1 p0.Hidden.First,z2 p0.Hidden.Step,z2 p0.Hidden.Show,z1 p0.seen]),oX true false 5 (.agg [vI p0.Hidden.Grain,z1 p0.Hidden.First,z2 p0.Hidden.Step,z2 p0.Hidden.Show,z1 p0.seen]),oX true false 4 (.agg [vI 1,vI 0,.fn (.func 52) [] [],.fn (.func 51) [] []]),.refs 4 (eF eI (List.set (List.set s35.2 (zt s6.1) ([]:List Int)) (zt s6.1) (a53++([x52]:(List Int))))),.fam 1 true (eF eI (List.set (List.set s35.2 (zt s6.1) ([]:List Int)) (zt s6.1) (a53++([x52]:(List Int))))),.dead,.row false false true true 1 [vI x52],.dead]
theorem g_path_searcher_total_ok (p0:Tpath_searcher) (x:Int) (h:g_path_searcher_total p0=some x):CallOk Try.prog 55 [.agg [vI p0.Hidden.Grain,z1 p0.Hidden.First,z2 p0.Hidden.Step,z2 p0.Hidden.Show,z1 p0.seen]] (.ret (vI x) []):=by
 refine fn_ok [] Try.func55 rfl (by decide +kernel) rfl ?_
 unfold g_path_searcher_total at h
 refine wp_eqB (base':=0) (st':=⟨(s55_1 p0),[],10⟩) kr kr ?_
 refine wp_seq (reg_in ?_)
 refine sgL false [] [] false gE ?_
 refine sz 1 2 (reg_end rfl (wp_seq ?_))
 refine wp_post ?_
 refine reg_in (sz 2 2 ?_)
 refine inlR (f:=49) (fn:=Try.f49) (as0:=[.agg [vI p0.Hidden.Grain,z1 p0.Hidden.First,z2 p0.Hidden.Step,z2 p0.Hidden.Show,z1 p0.seen],.agg [vI 1,vI 0,.fn (.func 52) [] [],.fn (.func 51) [] []]]) kr Try.func49 rfl (by decide +kernel) rfl ?_
 refine wp_eqB (base':=1) (st':=⟨(s55_4 p0),[oX true false 5 (.agg [vI p0.Hidden.Grain,z1 p0.Hidden.First,z2 p0.Hidden.Step,z2 p0.Hidden.Show,z1 p0.seen])],91⟩) kr kr ?_
 refine wp_seq (reg_in ?_)
 refine sgL false [] [] false gE ?_
 refine sgL false [] [] false gE ?_
 refine sz 1 3 (reg_end rfl (wp_seq ?_))
 refine wp_post ?_
 refine reg_in (sz 2 2 ?_)
 refine lenL (enc:=eI) (l:=p0.seen) (fl:=true) kr gE ?_
 refine sz 1 4 ?_
 refine mkL (enc:=fun _=>AV.nils) (z:=([]:(List Int))) (z0:=AV.nils) (n:=zw ((zn p0.seen)+1)) (m:=zw ((zn p0.seen)+1)) (w:=1) (bytes:=24) [] false kr rfl gE kr h (fun h=>?_)
 refine sgz 1 6 (S:=⟨(s55_4 p0)++[(2,.ptr 1 0 0),(3,.ptr 2 0 0),(4,.nils),(11,.ptr 1 0 4),(12,z1 p0.seen),(13,vI (zn p0.seen)),(14,vI (zw ((zn p0.seen)+1)))]++[(15,.ref 3 0 ((List.replicate (zt (zw ((zn p0.seen)+1))) ([]:(List Int))).length)),(5,.ref 3 0 ((List.replicate (zt (zw ((zn p0.seen)+1))) ([]:(List Int))).length))],[oX true false 5 (.agg [vI p0.Hidden.Grain,z1 p0.Hidden.First,z2 p0.Hidden.Step,z2 p0.Hidden.Show,z1 p0.seen]),oX true false 5 (.agg [vI p0.Hidden.Grain,z1 p0.Hidden.First,z2 p0.Hidden.Step,z2 p0.Hidden.Show,z1 p0.seen]),oX true false 4 (.agg [vI 1,vI 0,.fn (.func 52) [] [],.fn (.func 51) [] []]),.row false false true false 1 (List.map (fun _=>AV.nils) (List.replicate (zt (zw ((zn p0.seen)+1))) ([]:(List Int))))],91⟩) ?_
 refine reg_end rfl ?_
 refine ⟨⟨(s55_4 p0)++[(2,.ptr 1 0 0),(3,.ptr 2 0 0),(4,.nils),(11,.ptr 1 0 4),(12,z1 p0.seen),(13,vI (zn p0.seen)),(14,vI (zw ((zn p0.seen)+1)))]++[(15,.ref 3 0 ((List.replicate (zt (zw ((zn p0.seen)+1))) ([]:(List Int))).length)),(5,.ref 3 0 ((List.replicate (zt (zw ((zn p0.seen)+1))) ([]:(List Int))).length))],[oX true false 5 (.agg [vI p0.Hidden.Grain,z1 p0.Hidden.First,z2 p0.Hidden.Step,z2 p0.Hidden.Show,z1 p0.seen]),oX true false 5 (.agg [vI p0.Hidden.Grain,z1 p0.Hidden.First,z2 p0.Hidden.Step,z2 p0.Hidden.Show,z1 p0.seen]),oX true false 4 (.agg [vI 1,vI 0,.fn (.func 52) [] [],.fn (.func 51) [] []]),.refs 4 (eF eI (List.replicate (zt (zw ((zn p0.seen)+1))) ([]:(List Int)))),.fam 1 true (eF eI (List.replicate (zt (zw ((zn p0.seen)+1))) ([]:(List Int))))],91⟩,(wk_fam 3 1 true eI (x0:=([]:List Int)) (enc1:=fun _=>AV.nils) (st':=⟨(s55_4 p0)++[(2,.ptr 1 0 0),(3,.ptr 2 0 0),(4,.nils),(11,.ptr 1 0 4),(12,z1 p0.seen),(13,vI (zn p0.seen)),(14,vI (zw ((zn p0.seen)+1)))]++[(15,.ref 3 0 ((List.replicate (zt (zw ((zn p0.seen)+1))) ([]:(List Int))).length)),(5,.ref 3 0 ((List.replicate (zt (zw ((zn p0.seen)+1))) ([]:(List Int))).length))],[oX true false 5 (.agg [vI p0.Hidden.Grain,z1 p0.Hidden.First,z2 p0.Hidden.Step,z2 p0.Hidden.Show,z1 p0.seen]),oX true false 5 (.agg [vI p0.Hidden.Grain,z1 p0.Hidden.First,z2 p0.Hidden.Step,z2 p0.Hidden.Show,z1 p0.seen]),oX true false 4 (.agg [vI 1,vI 0,.fn (.func 52) [] [],.fn (.func 51) [] []]),.refs 4 (eF eI (List.replicate (zt (zw ((zn p0.seen)+1))) ([]:(List Int)))),.fam 1 true (eF eI (List.replicate (zt (zw ((zn p0.seen)+1))) ([]:(List Int))))],91⟩) rfl rfl rfl (by kernel_rfl)),?_⟩
 refine wp_seq (wg [2,3,5] [1,2,3,4] ?_)
 refine wp_post ?_
 refine rga hfol (sy 3 3 ?_)
 refine lenL (enc:=eI) (l:=p0.seen) (fl:=true) kr gE ?_
 refine sy 2 6 ?_
 refine sgL false [] [] true gE ?_
 refine sy 3 10 ?_
 refine lenL (enc:=eI) (l:=p0.Hidden.First) (fl:=true) kr gE ?_
 refine callR (as0:=[.ref 5 0 1,vI (zn p0.Hidden.First)]) (ids:=[5]) kr bodyB_81 (msnap_cons (show snap _ _ _=some (_,[5]) from kr) (msnap_cons rfl msnap_nil (by rfl)) (by rfl)) (fun x1 q2=>g_slices_Repeat_int_int_ok [1] (zn p0.Hidden.First) x1 q2) gF h (fun x1 q2 h=>?_)
 refine bind_elim h (fun a3 q4 h=>?_)
 refine idxF (enc:=eI) (ls:=(List.replicate (zt (zw ((zn p0.seen)+1))) ([]:(List Int)))) (x:=a3) (n:=(zn p0.seen)) (ob:=3) (j:=4) kr kr q4 gE ?_
 refine storeF (enc:=eI) (ls:=(List.replicate (zt (zw ((zn p0.seen)+1))) ([]:(List Int)))) (x:=a3) (n:=(zn p0.seen)) (ob:=3) (j:=4) (m:=6) (q:=x1.length) (S:=⟨[(2,.ptr 1 0 0),(3,.ptr 2 0 0),(5,.ref 3 0 ((List.replicate (zt (zw ((zn p0.seen)+1))) ([]:(List Int))).length))]++[(16,.ref 3 0 ((List.replicate (zt (zw ((zn p0.seen)+1))) ([]:(List Int))).length)),(17,.ptr 1 0 4),(18,z1 p0.seen),(19,vI (zn p0.seen)),(20,.ptr 2 0 0),(21,vI 1)]++[(22,.ref 5 0 1),(23,.ptr 1 0 0),(24,.ptr 1 0 1),(25,z1 p0.Hidden.First),(26,vI (zn p0.Hidden.First)),(27,.ref 6 0 x1.length),(28,.ptr 3 (zt (zn p0.seen)) 0)],[oX true false 5 (.agg [vI p0.Hidden.Grain,z1 p0.Hidden.First,z2 p0.Hidden.Step,z2 p0.Hidden.Show,z1 p0.seen]),oX true false 5 (.agg [vI p0.Hidden.Grain,z1 p0.Hidden.First,z2 p0.Hidden.Step,z2 p0.Hidden.Show,z1 p0.seen]),oX true false 4 (.agg [vI 1,vI 0,.fn (.func 52) [] [],.fn (.func 51) [] []]),.row false false false false 1 ((famRefs 4 0 (eF eI (List.replicate (zt (zw ((zn p0.seen)+1))) ([]:(List Int))))).set (zt (zn p0.seen)) (.ref 6 0 x1.length)),.fam 1 true (eF eI (List.replicate (zt (zw ((zn p0.seen)+1))) ([]:(List Int)))),.row false false true true 1 [vI 1],oR true 1 eI x1],91⟩) kr kr q4 kr kr kr ?_
 refine rgd ?_
 refine ⟨⟨[(2,.ptr 1 0 0),(3,.ptr 2 0 0),(5,.ref 3 0 ((List.set (List.replicate (zt (zw ((zn p0.seen)+1))) ([]:(List Int))) (zt (zn p0.seen)) x1).length)),(16,.ref 3 0 ((List.set (List.replicate (zt (zw ((zn p0.seen)+1))) ([]:(List Int))) (zt (zn p0.seen)) x1).length)),(17,.ptr 1 0 4),(18,z1 p0.seen),(19,vI (zn p0.seen)),(20,.ptr 2 0 0),(21,vI 1),(22,.ref 5 0 1),(23,.ptr 1 0 0),(24,.ptr 1 0 1),(25,z1 p0.Hidden.First),(26,vI (zn p0.Hidden.First)),(28,.ptr 3 (zt (zn p0.seen)) 0)],[oX true false 5 (.agg [vI p0.Hidden.Grain,z1 p0.Hidden.First,z2 p0.Hidden.Step,z2 p0.Hidden.Show,z1 p0.seen]),oX true false 5 (.agg [vI p0.Hidden.Grain,z1 p0.Hidden.First,z2 p0.Hidden.Step,z2 p0.Hidden.Show,z1 p0.seen]),oX true false 4 (.agg [vI 1,vI 0,.fn (.func 52) [] [],.fn (.func 51) [] []]),.refs 4 (eF eI (List.set (List.replicate (zt (zw ((zn p0.seen)+1))) ([]:(List Int))) (zt (zn p0.seen)) x1)),.fam 1 true (eF eI (List.set (List.replicate (zt (zw ((zn p0.seen)+1))) ([]:(List Int))) (zt (zn p0.seen)) x1)),.row false false true true 1 [vI 1],.dead],91⟩,(wk_trans (wk_adopt 3 4 6 (enc:=eI) (ls:=(List.replicate (zt (zw ((zn p0.seen)+1))) ([]:(List Int)))) (x:=a3) (b:=x1) (n:=(zn p0.seen)) [2,3,5,16,17,18,19,20,21,22,23,24,25,26,28] (st':=⟨[(2,.ptr 1 0 0),(3,.ptr 2 0 0),(5,.ref 3 0 ((List.replicate (zt (zw ((zn p0.seen)+1))) ([]:(List Int))).length))]++[(16,.ref 3 0 ((List.replicate (zt (zw ((zn p0.seen)+1))) ([]:(List Int))).length)),(17,.ptr 1 0 4),(18,z1 p0.seen),(19,vI (zn p0.seen)),(20,.ptr 2 0 0),(21,vI 1)]++[(22,.ref 5 0 1),(23,.ptr 1 0 0),(24,.ptr 1 0 1),(25,z1 p0.Hidden.First),(26,vI (zn p0.Hidden.First)),(28,.ptr 3 (zt (zn p0.seen)) 0)],[oX true false 5 (.agg [vI p0.Hidden.Grain,z1 p0.Hidden.First,z2 p0.Hidden.Step,z2 p0.Hidden.Show,z1 p0.seen]),oX true false 5 (.agg [vI p0.Hidden.Grain,z1 p0.Hidden.First,z2 p0.Hidden.Step,z2 p0.Hidden.Show,z1 p0.seen]),oX true false 4 (.agg [vI 1,vI 0,.fn (.func 52) [] [],.fn (.func 51) [] []]),.refs 4 (eF eI (List.set (List.replicate (zt (zw ((zn p0.seen)+1))) ([]:(List Int))) (zt (zn p0.seen)) x1)),.fam 1 true (eF eI (List.set (List.replicate (zt (zw ((zn p0.seen)+1))) ([]:(List Int))) (zt (zn p0.seen)) x1)),.row false false true true 1 [vI 1],.dead],91⟩) rfl rfl rfl q4 (by kernel_rfl) (by kernel_rfl)) (wk_eq (congrArg (fun n5=>(⟨[(2,.ptr 1 0 0),(3,.ptr 2 0 0),(5,.ref 3 0 n5),(16,.ref 3 0 n5),(17,.ptr 1 0 4),(18,z1 p0.seen),(19,vI (zn p0.seen)),(20,.ptr 2 0 0),(21,vI 1),(22,.ref 5 0 1),(23,.ptr 1 0 0),(24,.ptr 1 0 1),(25,z1 p0.Hidden.First),(26,vI (zn p0.Hidden.First)),(28,.ptr 3 (zt (zn p0.seen)) 0)],[oX true false 5 (.agg [vI p0.Hidden.Grain,z1 p0.Hidden.First,z2 p0.Hidden.Step,z2 p0.Hidden.Show,z1 p0.seen]),oX true false 5 (.agg [vI p0.Hidden.Grain,z1 p0.Hidden.First,z2 p0.Hidden.Step,z2 p0.Hidden.Show,z1 p0.seen]),oX true false 4 (.agg [vI 1,vI 0,.fn (.func 52) [] [],.fn (.func 51) [] []]),.refs 4 (eF eI (List.set (List.replicate (zt (zw ((zn p0.seen)+1))) ([]:(List Int))) (zt (zn p0.seen)) x1)),.fam 1 true (eF eI (List.set (List.replicate (zt (zw ((zn p0.seen)+1))) ([]:(List Int))) (zt (zn p0.seen)) x1)),.row false false true true 1 [vI 1],.dead],91⟩:St)) (show (List.replicate (zt (zw ((zn p0.seen)+1))) ([]:(List Int))).length=(List.set (List.replicate (zt (zw ((zn p0.seen)+1))) ([]:(List Int))) (zt (zn p0.seen)) x1).length by simp only [List.length_set])))),?_⟩
 refine wp_seq (wp_seq (wg [2,3,5] [1,2,3,4] ?_))
 refine wp_post ?_
 refine reg_in (sz 2 2 ?_)
 refine lenL (enc:=eI) (l:=p0.seen) (fl:=true) kr gE ?_
 refine sz 2 5 (reg_end rfl ?_)
 refine ⟨_,wk_refl,?_⟩
 refine wp_block ?_
 refine wwh h (fun s6=>⟨[(2,.ptr 1 0 0),(3,.ptr 2 0 0),(5,.ref 3 0 s6.2.length),(6,vI s6.1)],(s55_63 p0 s6),91⟩) (fun v out=>out=.go (.exit 0) ⟨[(5,.ref 1 0 v.length)],[oX true false 5 (.agg [vI p0.Hidden.Grain,z1 p0.Hidden.First,z2 p0.Hidden.Step,z2 p0.Hidden.Show,z1 p0.seen]),.refs 2 (eF eI v),.fam 1 true (eF eI v)],91⟩) (wk_gc (live:=[2,3,5,6]) (keep:=[1,2,3,4]) kr) ?_ ?_
 ·intro s6 o h
  unfold g_path_searcher_total_b4 at h
  refine wp_seq (sq ?_)
  refine wb [34] h (fun q8 h=>?_) (fun q8 h=>?_)
  ·refine wcT (wp_skip (wp_seq (wp_block (wp_seq ?_))))
   refine wp_post ?_
   refine reg_in (sz 3 3 ?_)
   refine lenL (enc:=eI) (l:=p0.Hidden.First) (fl:=true) kr gE ?_
   refine sz 1 5 (reg_end rfl ?_)
   refine ⟨_,wk_refl,?_⟩
   refine wp_seq (wp_seq ?_)
   refine wgc [2,3,5,6,7] [1,2,3,4] ⟨[(2,.ptr 1 0 0),(3,.ptr 2 0 0),(5,.ref 3 0 s6.2.length),(6,vI s6.1),(7,vI (zn p0.Hidden.First))],(s55_63 p0 s6),91⟩ ?_
   refine rn ?_
   refine wb [42] h (fun q10 h=>?_) (fun q10 h=>?_)
   ·refine wcT (rn (sq (wp_block ?_)))
    refine wwh h (fun s11=>⟨[(2,.ptr 1 0 0),(3,.ptr 2 0 0),(5,.ref 3 0 s11.2.length),(6,vI s6.1),(43,vI 1),(44,vI s11.1)],(s55_27 p0 s11),91⟩) (fun v out=>out=.go (.exit 2) ⟨[(2,.ptr 1 0 0),(3,.ptr 2 0 0),(5,.ref 3 0 v.length),(6,vI s6.1)],[oX true false 5 (.agg [vI p0.Hidden.Grain,z1 p0.Hidden.First,z2 p0.Hidden.Step,z2 p0.Hidden.Show,z1 p0.seen]),oX true false 5 (.agg [vI p0.Hidden.Grain,z1 p0.Hidden.First,z2 p0.Hidden.Step,z2 p0.Hidden.Show,z1 p0.seen]),oX true false 4 (.agg [vI 1,vI 0,.fn (.func 52) [] [],.fn (.func 51) [] []]),.refs 4 (eF eI v),.fam 1 true (eF eI v)],91⟩) (wk_gc (live:=[2,3,5,6,43,44]) (keep:=[1,2,3,4]) kr) ?_ ?_
    ·intro s11 o h
     unfold g_path_searcher_total_b1 at h
     refine sq (wp_seq ?_)
     refine wb [45] h (fun q13 h=>?_) (fun q13 h=>?_)
     ·refine wcT (wp_skip (wp_seq (wp_block (sq (wp_seq ?_)))))
      refine wp_post ?_
      refine rn ?_
      refine ⟨_,wk_refl,?_⟩
      refine wp_seq (wp_seq ?_)
      refine wp_post ?_
      refine reg_in (sz 3 3 ?_)
      refine lenL (enc:=eI) (l:=p0.Hidden.First) (fl:=true) kr gE ?_
      refine sz 1 5 (reg_end rfl ?_)
      refine ⟨_,wk_refl,?_⟩
      refine wp_block ?_
      refine wwh h (fun s14=>⟨[(2,.ptr 1 0 0),(3,.ptr 2 0 0),(5,.ref 3 0 s11.2.length),(6,vI s6.1),(8,vI s11.1),(9,vI s14.1),(43,vI 1),(44,vI s11.1),(52,vI (zn p0.Hidden.First)),(53,vI s14.2)],(s55_27 p0 s11),91⟩) (fun v out=>out=.go (.exit 4) ⟨[(2,.ptr 1 0 0),(3,.ptr 2 0 0),(5,.ref 3 0 s11.2.length),(6,vI s6.1),(9,vI v),(43,vI 1),(44,vI s11.1)],(s55_27 p0 s11),91⟩) (wk_gc (live:=[2,3,5,6,8,9,43,44,52,53]) (keep:=[1,2,3,4]) kr) ?_ ?_
      ·intro s14 o h
       unfold g_path_searcher_total_b0 at h
       refine sq (wp_seq ?_)
       refine wb [54] h (fun q16 h=>?_) (fun q16 h=>?_)
       ·refine wcT (wp_skip (wp_seq (wp_block (sq ?_))))
        refine wp_post ?_
        refine rga hfol (sy 11 11 ?_)
        refine callW bodyB_36 (g_path_searcher_into_ok p0 s6.1 s11.1 s14.2) h (fun x17 _ h=>?_)
        refine sy 3 15 ?_
        refine bind_elim h (fun a19 q20 h=>?_)
        refine idxF (enc:=eI) (ls:=s11.2) (x:=a19) (n:=zw (s6.1+1)) (ob:=3) (j:=4) kr kr q20 gE ?_
        refine loadF (enc:=eI) (ls:=s11.2) (x:=a19) (n:=zw (s6.1+1)) (ob:=3) (j:=4) kr kr q20 gE ?_
        refine sy 1 18 ?_
        refine bind_elim h (fun a21 q22 h=>?_)
        refine idxI (enc:=eI) (ls:=s11.2) (x:=a19) (y:=a21) (n:=zw (s6.1+1)) (c:=s14.2) (w:=1) (j:=4) (fl:=true) kr kr q20 q22 rfl gE ?_
        refine loadI (enc:=eI) (ls:=s11.2) (x:=a19) (y:=a21) (n:=zw (s6.1+1)) (m:=s14.2) (w:=1) (j:=4) (c:=0) (fl:=true) kr kr q20 q22 rfl gE ?_
        refine callW bodyB_51 (g_path_multiplied_ok s6.1 s14.2 x17 a21) h (fun x23 _ h=>?_)
        refine callR (as0:=[vI s14.1,vI x23]) (ids:=[]) (S:=fun x25=>⟨[(2,.ptr 1 0 0),(3,.ptr 2 0 0),(5,.ref 3 0 s11.2.length),(6,vI s6.1),(8,vI s11.1),(9,vI s14.1),(43,vI 1),(44,vI s11.1),(52,vI (zn p0.Hidden.First)),(53,vI s14.2)]++[(54,vB true),(55,vI s14.2),(10,vI s14.2),(56,.ptr 2 0 2),(57,.fn (.func 52) [] []),(58,vI s14.1),(59,.ptr 2 0 3),(60,.fn (.func 51) [] []),(61,vI s6.1),(62,vI s14.2),(63,.agg [vI p0.Hidden.Grain,z1 p0.Hidden.First,z2 p0.Hidden.Step,z2 p0.Hidden.Show,z1 p0.seen]),(64,vI s6.1),(65,vI s11.1),(66,vI s14.2)]++[(67,vI x17),(68,.ref 3 0 s11.2.length),(69,vI s6.1),(70,vI (zw (s6.1+1))),(71,.ptr 3 (zt (zw (s6.1+1))) 0),(72,.ref (fid 4 (zt (zw (s6.1+1)))) 0 a19.length),(73,vI s14.2)]++[(74,.ptr (fid 4 (zt (zw (s6.1+1)))) (zt s14.2) 0),(75,vI a21),(76,vI x23),(77,vI x25)],(s55_27 p0 s11),91⟩) kr bodyB_52 (msnap_cons rfl (msnap_cons rfl msnap_nil)) (fun x25 q26=>g_path_add_ok s14.1 x23 x25 q26) (fun _=>by as_aux_lemma=>kernel_rfl) h (fun x25 q26 h=>?_)
        refine sy 1 23 (rgd ?_)
        refine ⟨_,wk_refl,?_⟩
        refine wg [2,3,5,6,8,9,43,44,52,53] [1,2,3,4] (rn ?_)
        cases h
        exact ⟨_,rfl,(wk_gc (live:=[2,3,5,6,8,9,43,44,52,53]) (keep:=[1,2,3,4]) kr)⟩
       refine wcF (wg [2,3,5,6,9,43,44] [1,2,3,4] ?_)
       refine wp_exit ?_
       cases h
       exact ⟨kr,rfl⟩
      intro x28 h out hx
      subst hx
      refine bind_elim h (fun a29 q30 h=>?_)
      refine wp_wk (wk_steal 3 4 (enc:=eI) (ls:=s11.2) (x:=a29) (n:=s6.1) [2,3,5,6,9,43,44] (st':=⟨[(2,.ptr 1 0 0),(3,.ptr 2 0 0),(5,.ref 3 0 s11.2.length),(6,vI s6.1),(9,vI x28),(43,vI 1),(44,vI s11.1)],(s55_108 p0 s11 s6 a29),91⟩) rfl rfl q30 kr kr) ?_
      refine wp_wk (wk_eq (congrArg (fun n31=>(⟨[(2,.ptr 1 0 0),(3,.ptr 2 0 0),(5,.ref 3 0 n31),(6,vI s6.1),(9,vI x28),(43,vI 1),(44,vI s11.1)],(s55_108 p0 s11 s6 a29),91⟩:St)) (show s11.2.length=(List.set s11.2 (zt s6.1) ([]:List Int)).length by simp only [List.length_set]))) ?_
      refine wp_post ?_
      refine reg_in (sz 4 4 ?_)
      refine idxS (enc:=eI) (ls:=(List.set s11.2 (zt s6.1) ([]:List Int))) (x:=([]:List Int)) (n:=s6.1) (ob:=3) (j:=4) (m:=5) (q:=a29.length) kr kr (lkI_set ([]:List Int) q30) gE ?_
      refine loadS (enc:=eI) (ls:=(List.set s11.2 (zt s6.1) ([]:List Int))) (x:=([]:List Int)) (n:=s6.1) (ob:=3) (j:=4) (m:=5) (q:=a29.length) kr kr (lkI_set ([]:List Int) q30) gE ?_
      refine sz 1 7 ?_
      refine sgL false [] [] true gE ?_
      refine appR (enc:=eI) (l:=a29) (m:=([x28]:(List Int))) (w:=1) (bytes:=8) (ob:=5) (nr:=true) (fl:=true) (nr':=true) (fl':=true) (b:=.ref 6 0 1) (rds:=[6]) false kr kr kr rfl gE kr h (fun h=>?_)
      refine idxS (enc:=eI) (ls:=(List.set s11.2 (zt s6.1) ([]:List Int))) (x:=([]:List Int)) (n:=s6.1) (ob:=3) (j:=4) (m:=5) (q:=a29.length) kr kr (lkI_set ([]:List Int) q30) gE ?_
      refine storeS2 (enc:=eI) (ls:=(List.set s11.2 (zt s6.1) ([]:List Int))) (x:=([]:List Int)) (n:=s6.1) (ob:=3) (j:=4) (m0:=5) (q0:=a29.length) (m:=7) (q:=(a29++([x28]:(List Int))).length) (S:=⟨(s55_109 s11 s6 x28)++[(83,.ptr 3 (zt s6.1) 0),(84,.ref 5 0 a29.length),(85,vI x28),(86,.ref 6 0 1),(87,.ref 7 0 ((a29++([x28]:(List Int))).length)),(88,.ptr 3 (zt s6.1) 0)],[oX true false 5 (.agg [vI p0.Hidden.Grain,z1 p0.Hidden.First,z2 p0.Hidden.Step,z2 p0.Hidden.Show,z1 p0.seen]),oX true false 5 (.agg [vI p0.Hidden.Grain,z1 p0.Hidden.First,z2 p0.Hidden.Step,z2 p0.Hidden.Show,z1 p0.seen]),oX true false 4 (.agg [vI 1,vI 0,.fn (.func 52) [] [],.fn (.func 51) [] []]),.row false false false false 1 ((famRefs 4 0 (eF eI (List.set s11.2 (zt s6.1) ([]:List Int)))).set (zt s6.1) (.ref 7 0 ((a29++([x28]:(List Int))).length))),.fam 1 true (eF eI (List.set s11.2 (zt s6.1) ([]:List Int))),.dead,.row false false true true 1 [vI x28],oR true 1 eI (a29++([x28]:(List Int)))],91⟩) kr kr (lkI_set ([]:List Int) q30) kr kr kr ?_
      refine reg_end rfl ?_
      refine ⟨⟨[(2,.ptr 1 0 0),(3,.ptr 2 0 0),(5,.ref 3 0 ((List.set (List.set s11.2 (zt s6.1) ([]:List Int)) (zt s6.1) (a29++([x28]:(List Int)))).length)),(6,vI s6.1),(9,vI x28),(43,vI 1),(44,vI s11.1),(79,.ref 3 0 ((List.set (List.set s11.2 (zt s6.1) ([]:List Int)) (zt s6.1) (a29++([x28]:(List Int)))).length)),(80,vI s6.1),(81,.ref 3 0 ((List.set (List.set s11.2 (zt s6.1) ([]:List Int)) (zt s6.1) (a29++([x28]:(List Int)))).length)),(82,vI s6.1),(83,.ptr 3 (zt s6.1) 0),(84,.ref 5 0 a29.length),(85,vI x28),(86,.ref 6 0 1),(88,.ptr 3 (zt s6.1) 0)],(s55_110 p0 s11 s6 a29 x28),91⟩,(wk_trans (wk_adopt 3 4 7 (enc:=eI) (ls:=(List.set s11.2 (zt s6.1) ([]:List Int))) (x:=([]:List Int)) (b:=(a29++([x28]:(List Int)))) (n:=s6.1) [2,3,5,6,9,43,44,79,80,81,82,83,84,85,86,88] (st':=⟨(s55_109 s11 s6 x28)++[(83,.ptr 3 (zt s6.1) 0),(84,.ref 5 0 a29.length),(85,vI x28),(86,.ref 6 0 1),(88,.ptr 3 (zt s6.1) 0)],(s55_110 p0 s11 s6 a29 x28),91⟩) rfl rfl rfl (lkI_set ([]:List Int) q30) (by kernel_rfl) (by kernel_rfl)) (wk_eq (congrArg (fun n32=>(⟨[(2,.ptr 1 0 0),(3,.ptr 2 0 0),(5,.ref 3 0 n32),(6,vI s6.1),(9,vI x28),(43,vI 1),(44,vI s11.1),(79,.ref 3 0 n32),(80,vI s6.1),(81,.ref 3 0 n32),(82,vI s6.1),(83,.ptr 3 (zt s6.1) 0),(84,.ref 5 0 a29.length),(85,vI x28),(86,.ref 6 0 1),(88,.ptr 3 (zt s6.1) 0)],(s55_110 p0 s11 s6 a29 x28),91⟩:St)) (show (List.set s11.2 (zt s6.1) ([]:List Int)).length=(List.set (List.set s11.2 (zt s6.1) ([]:List Int)) (zt s6.1) (a29++([x28]:(List Int)))).length by simp only [List.length_set])))),?_⟩
      refine wg [2,3,5,6,43,44] [1,2,3,4] (rn ?_)
      cases h
      exact ⟨_,rfl,(wk_gc (live:=[2,3,5,6,43,44]) (keep:=[1,2,3,4]) kr)⟩
     refine wcF (wg [2,3,5,6] [1,2,3,4] ?_)
     refine wp_exit ?_
     cases h
     exact ⟨kr,rfl⟩
    intro x34 h out hx
    subst hx
    refine rn ?_
    cases h
    exact ⟨_,rfl,(wk_gc (live:=[2,3,5,6]) (keep:=[1,2,3,4]) kr)⟩
   refine wcF (wp_skip (sq (wp_block ?_)))
   refine wwh h (fun s35=>⟨[(2,.ptr 1 0 0),(3,.ptr 2 0 0),(5,.ref 3 0 s35.2.length),(6,vI s6.1),(43,vI (zn p0.Hidden.First)),(44,vI s35.1)],(s55_48 p0 s35),91⟩) (fun v out=>out=.go (.exit 2) ⟨[(2,.ptr 1 0 0),(3,.ptr 2 0 0),(5,.ref 3 0 v.length),(6,vI s6.1)],[oX true false 5 (.agg [vI p0.Hidden.Grain,z1 p0.Hidden.First,z2 p0.Hidden.Step,z2 p0.Hidden.Show,z1 p0.seen]),oX true false 5 (.agg [vI p0.Hidden.Grain,z1 p0.Hidden.First,z2 p0.Hidden.Step,z2 p0.Hidden.Show,z1 p0.seen]),oX true false 4 (.agg [vI 1,vI 0,.fn (.func 52) [] [],.fn (.func 51) [] []]),.refs 4 (eF eI v),.fam 1 true (eF eI v)],91⟩) (wk_gc (live:=[2,3,5,6,43,44]) (keep:=[1,2,3,4]) kr) ?_ ?_
   ·intro s35 o h
    unfold g_path_searcher_total_b3 at h
    refine sq (wp_seq ?_)
    refine wb [45] h (fun q37 h=>?_) (fun q37 h=>?_)
    ·refine wcT (wp_skip (wp_seq (wp_block (sq (wp_seq ?_)))))
     refine wp_post ?_
     refine rn ?_
     refine ⟨_,wk_refl,?_⟩
     refine wp_seq (wp_seq ?_)
     refine wp_post ?_
     refine reg_in (sz 3 3 ?_)
     refine lenL (enc:=eI) (l:=p0.Hidden.First) (fl:=true) kr gE ?_
     refine sz 1 5 (reg_end rfl ?_)
     refine ⟨_,wk_refl,?_⟩
     refine wp_block ?_
     refine wwh h (fun s38=>⟨(s55_92 s35 s6 s38 p0),(s55_48 p0 s35),91⟩) (fun v out=>out=.go (.exit 4) ⟨[(2,.ptr 1 0 0),(3,.ptr 2 0 0),(5,.ref 3 0 s35.2.length),(6,vI s6.1),(9,vI v),(43,vI (zn p0.Hidden.First)),(44,vI s35.1)],(s55_48 p0 s35),91⟩) (wk_gc (live:=[2,3,5,6,8,9,43,44,52,53]) (keep:=[1,2,3,4]) kr) ?_ ?_
     ·intro s38 o h
      unfold g_path_searcher_total_b2 at h
      refine sq (wp_seq ?_)
      refine wb [54] h (fun q40 h=>?_) (fun q40 h=>?_)
      ·refine wcT (wp_skip (wp_seq (wp_block (sq ?_))))
       refine wp_post ?_
       refine rga hfol (sy 11 11 ?_)
       refine callW bodyB_36 (g_path_searcher_into_ok p0 s6.1 s35.1 s38.2) h (fun x41 _ h=>?_)
       refine sy 3 15 ?_
       refine bind_elim h (fun a43 q44 h=>?_)
       refine idxF (enc:=eI) (ls:=s35.2) (x:=a43) (n:=zw (s6.1+1)) (ob:=3) (j:=4) kr kr q44 gE ?_
       refine loadF (enc:=eI) (ls:=s35.2) (x:=a43) (n:=zw (s6.1+1)) (ob:=3) (j:=4) kr kr q44 gE ?_
       refine sy 1 18 ?_
       refine bind_elim h (fun a45 q46 h=>?_)
       refine idxI (enc:=eI) (ls:=s35.2) (x:=a43) (y:=a45) (n:=zw (s6.1+1)) (c:=s38.2) (w:=1) (j:=4) (fl:=true) kr kr q44 q46 rfl gE ?_
       refine loadI (enc:=eI) (ls:=s35.2) (x:=a43) (y:=a45) (n:=zw (s6.1+1)) (m:=s38.2) (w:=1) (j:=4) (c:=0) (fl:=true) kr kr q44 q46 rfl gE ?_
       refine callW bodyB_51 (g_path_multiplied_ok s6.1 s38.2 x41 a45) h (fun x47 _ h=>?_)
       refine callR (as0:=[vI s38.1,vI x47]) (ids:=[]) (S:=fun x49=>⟨(s55_92 s35 s6 s38 p0)++[(54,vB true),(55,vI s38.2),(10,vI s38.2),(56,.ptr 2 0 2),(57,.fn (.func 52) [] []),(58,vI s38.1),(59,.ptr 2 0 3),(60,.fn (.func 51) [] []),(61,vI s6.1),(62,vI s38.2),(63,.agg [vI p0.Hidden.Grain,z1 p0.Hidden.First,z2 p0.Hidden.Step,z2 p0.Hidden.Show,z1 p0.seen]),(64,vI s6.1),(65,vI s35.1),(66,vI s38.2)]++[(67,vI x41),(68,.ref 3 0 s35.2.length),(69,vI s6.1),(70,vI (zw (s6.1+1))),(71,.ptr 3 (zt (zw (s6.1+1))) 0),(72,.ref (fid 4 (zt (zw (s6.1+1)))) 0 a43.length),(73,vI s38.2)]++[(74,.ptr (fid 4 (zt (zw (s6.1+1)))) (zt s38.2) 0),(75,vI a45),(76,vI x47),(77,vI x49)],(s55_48 p0 s35),91⟩) kr bodyB_52 (msnap_cons rfl (msnap_cons rfl msnap_nil)) (fun x49 q50=>g_path_add_ok s38.1 x47 x49 q50) (fun _=>by as_aux_lemma=>kernel_rfl) h (fun x49 q50 h=>?_)
       refine sy 1 23 (rgd ?_)
       refine ⟨_,wk_refl,?_⟩
       refine wg [2,3,5,6,8,9,43,44,52,53] [1,2,3,4] (rn ?_)
       cases h
       exact ⟨_,rfl,(wk_gc (live:=[2,3,5,6,8,9,43,44,52,53]) (keep:=[1,2,3,4]) kr)⟩
      refine wcF (wg [2,3,5,6,9,43,44] [1,2,3,4] ?_)
      refine wp_exit ?_
      cases h
      exact ⟨kr,rfl⟩
     intro x52 h out hx
     subst hx
     refine bind_elim h (fun a53 q54 h=>?_)
     refine wp_wk (wk_steal 3 4 (enc:=eI) (ls:=s35.2) (x:=a53) (n:=s6.1) [2,3,5,6,9,43,44] (st':=⟨[(2,.ptr 1 0 0),(3,.ptr 2 0 0),(5,.ref 3 0 s35.2.length),(6,vI s6.1),(9,vI x52),(43,vI (zn p0.Hidden.First)),(44,vI s35.1)],(s55_129 p0 s35 s6 a53),91⟩) rfl rfl q54 kr kr) ?_
     refine wp_wk (wk_eq (congrArg (fun n55=>(⟨[(2,.ptr 1 0 0),(3,.ptr 2 0 0),(5,.ref 3 0 n55),(6,vI s6.1),(9,vI x52),(43,vI (zn p0.Hidden.First)),(44,vI s35.1)],(s55_129 p0 s35 s6 a53),91⟩:St)) (show s35.2.length=(List.set s35.2 (zt s6.1) ([]:List Int)).length by simp only [List.length_set]))) ?_
     refine wp_post ?_
     refine reg_in (sz 4 4 ?_)
     refine idxS (enc:=eI) (ls:=(List.set s35.2 (zt s6.1) ([]:List Int))) (x:=([]:List Int)) (n:=s6.1) (ob:=3) (j:=4) (m:=5) (q:=a53.length) kr kr (lkI_set ([]:List Int) q54) gE ?_
     refine loadS (enc:=eI) (ls:=(List.set s35.2 (zt s6.1) ([]:List Int))) (x:=([]:List Int)) (n:=s6.1) (ob:=3) (j:=4) (m:=5) (q:=a53.length) kr kr (lkI_set ([]:List Int) q54) gE ?_
     refine sz 1 7 ?_
     refine sgL false [] [] true gE ?_
     refine appR (enc:=eI) (l:=a53) (m:=([x52]:(List Int))) (w:=1) (bytes:=8) (ob:=5) (nr:=true) (fl:=true) (nr':=true) (fl':=true) (b:=.ref 6 0 1) (rds:=[6]) false kr kr kr rfl gE kr h (fun h=>?_)
     refine idxS (enc:=eI) (ls:=(List.set s35.2 (zt s6.1) ([]:List Int))) (x:=([]:List Int)) (n:=s6.1) (ob:=3) (j:=4) (m:=5) (q:=a53.length) kr kr (lkI_set ([]:List Int) q54) gE ?_
     refine storeS2 (enc:=eI) (ls:=(List.set s35.2 (zt s6.1) ([]:List Int))) (x:=([]:List Int)) (n:=s6.1) (ob:=3) (j:=4) (m0:=5) (q0:=a53.length) (m:=7) (q:=(a53++([x52]:(List Int))).length) (S:=⟨(s55_131 s35 s6 x52 p0 a53)++[(86,.ref 6 0 1),(87,.ref 7 0 ((a53++([x52]:(List Int))).length)),(88,.ptr 3 (zt s6.1) 0)],[oX true false 5 (.agg [vI p0.Hidden.Grain,z1 p0.Hidden.First,z2 p0.Hidden.Step,z2 p0.Hidden.Show,z1 p0.seen]),oX true false 5 (.agg [vI p0.Hidden.Grain,z1 p0.Hidden.First,z2 p0.Hidden.Step,z2 p0.Hidden.Show,z1 p0.seen]),oX true false 4 (.agg [vI 1,vI 0,.fn (.func 52) [] [],.fn (.func 51) [] []]),.row false false false false 1 ((famRefs 4 0 (eF eI (List.set s35.2 (zt s6.1) ([]:List Int)))).set (zt s6.1) (.ref 7 0 ((a53++([x52]:(List Int))).length))),.fam 1 true (eF eI (List.set s35.2 (zt s6.1) ([]:List Int))),.dead,.row false false true true 1 [vI x52],oR true 1 eI (a53++([x52]:(List Int)))],91⟩) kr kr (lkI_set ([]:List Int) q54) kr kr kr ?_
     refine reg_end rfl ?_
     refine ⟨⟨[(2,.ptr 1 0 0),(3,.ptr 2 0 0),(5,.ref 3 0 ((List.set (List.set s35.2 (zt s6.1) ([]:List Int)) (zt s6.1) (a53++([x52]:(List Int)))).length)),(6,vI s6.1),(9,vI x52),(43,vI (zn p0.Hidden.First)),(44,vI s35.1),(79,.ref 3 0 ((List.set (List.set s35.2 (zt s6.1) ([]:List Int)) (zt s6.1) (a53++([x52]:(List Int)))).length)),(80,vI s6.1),(81,.ref 3 0 ((List.set (List.set s35.2 (zt s6.1) ([]:List Int)) (zt s6.1) (a53++([x52]:(List Int)))).length)),(82,vI s6.1),(83,.ptr 3 (zt s6.1) 0),(84,.ref 5 0 a53.length),(85,vI x52),(86,.ref 6 0 1),(88,.ptr 3 (zt s6.1) 0)],(s55_132 p0 s35 s6 a53 x52),91⟩,(wk_trans (wk_adopt 3 4 7 (enc:=eI) (ls:=(List.set s35.2 (zt s6.1) ([]:List Int))) (x:=([]:List Int)) (b:=(a53++([x52]:(List Int)))) (n:=s6.1) [2,3,5,6,9,43,44,79,80,81,82,83,84,85,86,88] (st':=⟨(s55_131 s35 s6 x52 p0 a53)++[(86,.ref 6 0 1),(88,.ptr 3 (zt s6.1) 0)],(s55_132 p0 s35 s6 a53 x52),91⟩) rfl rfl rfl (lkI_set ([]:List Int) q54) (by kernel_rfl) (by kernel_rfl)) (wk_eq (congrArg (fun n56=>(⟨[(2,.ptr 1 0 0),(3,.ptr 2 0 0),(5,.ref 3 0 n56),(6,vI s6.1),(9,vI x52),(43,vI (zn p0.Hidden.First)),(44,vI s35.1),(79,.ref 3 0 n56),(80,vI s6.1),(81,.ref 3 0 n56),(82,vI s6.1),(83,.ptr 3 (zt s6.1) 0),(84,.ref 5 0 a53.length),(85,vI x52),(86,.ref 6 0 1),(88,.ptr 3 (zt s6.1) 0)],(s55_132 p0 s35 s6 a53 x52),91⟩:St)) (show (List.set s35.2 (zt s6.1) ([]:List Int)).length=(List.set (List.set s35.2 (zt s6.1) ([]:List Int)) (zt s6.1) (a53++([x52]:(List Int)))).length by simp only [List.length_set])))),?_⟩
     refine wg [2,3,5,6,43,44] [1,2,3,4] (rn ?_)
     cases h
     exact ⟨_,rfl,(wk_gc (live:=[2,3,5,6,43,44]) (keep:=[1,2,3,4]) kr)⟩
    refine wcF (wg [2,3,5,6] [1,2,3,4] ?_)
    refine wp_exit ?_
    cases h
    exact ⟨kr,rfl⟩
   intro x58 h out hx
   subst hx
   refine rn ?_
   cases h
   exact ⟨_,rfl,(wk_gc (live:=[2,3,5,6]) (keep:=[1,2,3,4]) kr)⟩
  refine wcF (wg [5] [3,4] ?_)
  refine wp_exit ?_
  cases h
  exact ⟨kr,rfl⟩
 intro x60 h out hx
 subst hx
 refine sq (wg [4] [1,2] ?_)
 refine wp_ret ?_
 refine ⟨⟨(s55_1 p0)++[(1,.ptr 0 0 0),(2,vI 0),(3,.agg [vI p0.Hidden.Grain,z1 p0.Hidden.First,z2 p0.Hidden.Step,z2 p0.Hidden.Show,z1 p0.seen]),(4,.agg [vI 1,vI 0,.fn (.func 52) [] [],.fn (.func 51) [] []])]++[(5,.ref 1 0 x60.length)],[oX true false 5 (.agg [vI p0.Hidden.Grain,z1 p0.Hidden.First,z2 p0.Hidden.Step,z2 p0.Hidden.Show,z1 p0.seen]),.refs 2 (eF eI x60),.fam 1 true (eF eI x60)],10⟩,by as_aux_lemma=>kernel_rfl,?_⟩
 refine bind_elim h (fun a61 q62 h=>?_)
 refine idxF (enc:=eI) (ls:=x60) (x:=a61) (n:=0) (ob:=1) (j:=2) kr kr q62 gE ?_
 refine loadF (enc:=eI) (ls:=x60) (x:=a61) (n:=0) (ob:=1) (j:=2) kr kr q62 gE ?_
 refine bind_elim h (fun a63 q64 h=>?_)
 refine idxI (enc:=eI) (ls:=x60) (x:=a61) (y:=a63) (n:=0) (c:=0) (w:=1) (j:=2) (fl:=true) kr kr q62 q64 rfl gE ?_
 refine loadI (enc:=eI) (ls:=x60) (x:=a61) (y:=a63) (n:=0) (m:=0) (w:=1) (j:=2) (c:=0) (fl:=true) kr kr q62 q64 rfl gE ?_
 refine sz 1 8 (reg_end rfl ?_)
 refine ⟨_,wk_refl,?_⟩
 refine wg [2] [] ?_
 cases h
 exact wp_ret (show fnOut _ _ _ _=_ from by kernel_rfl)
noncomputable abbrev s66_1 (p0:Thidden_watcher):List (Nat × AV):=[(0,.agg [vI p0.Hidden.Grain,z1 p0.Hidden.First,z2 p0.Hidden.Step,z2 p0.Hidden.Show,z1 p0.seen])]
noncomputable abbrev s66_2 (p0:Thidden_watcher):List (Nat × AV):=(s66_1 p0)++[(1,.ptr 0 0 0),(2,.nils),(8,.agg [vI p0.Hidden.Grain,z1 p0.Hidden.First,z2 p0.Hidden.Step,z2 p0.Hidden.Show,z1 p0.seen])]
noncomputable abbrev s66_5 (p0:Thidden_watcher):List (Nat × AV):=(s66_1 p0)++[(1,.ptr 1 0 0),(2,.nils),(5,.ptr 1 0 4),(6,z1 p0.seen),(7,vI (zn p0.seen)),(8,.ref 2 0 ((List.replicate (zt (zn p0.seen)) ([]:(List Int))).length)),(3,.ref 2 0 ((List.replicate (zt (zn p0.seen)) ([]:(List Int))).length))]
noncomputable abbrev s66_6 (p0:Thidden_watcher):List AObj:=[oX true false 5 (.agg [vI p0.Hidden.Grain,z1 p0.Hidden.First,z2 p0.Hidden.Step,z2 p0.Hidden.Show,z1 p0.seen]),oX true false 5 (.agg [vI p0.Hidden.Grain,z1 p0.Hidden.First,z2 p0.Hidden.Step,z2 p0.Hidden.Show,z1 p0.seen]),.refs 3 (eF eI (List.replicate (zt (zn p0.seen)) ([]:(List Int)))),.fam 1 true (eF eI (List.replicate (zt (zn p0.seen)) ([]:(List Int))))]
noncomputable abbrev s66_16 (s1:(Int × (List (List Int)))) (p0:Thidden_watcher):List (Nat × AV):=[(1,.ptr 1 0 0),(3,.ref 2 0 s1.2.length),(10,vI (((List.replicate (zt (zn p0.seen)) ([]:(List Int))).length):Int)),(11,vI s1.1)]
noncomputable abbrev s66_19 (p0:Thidden_watcher) (s1:(Int × (List (List Int)))):List AObj:=[oX true false 5 (.agg [vI p0.Hidden.Grain,z1 p0.Hidden.First,z2 p0.Hidden.Step,z2 p0.Hidden.Show,z1 p0.seen]),oX true false 5 (.agg [vI p0.Hidden.Grain,z1 p0.Hidden.First,z2 p0.Hidden.Step,z2 p0.Hidden.Show,z1 p0.seen]),.refs 3 (eF eI (List.set s1.2 (zt s1.1) (List.replicate (zt (zn p0.Hidden.First)) (0:Int)))),.fam 1 true (eF eI (List.set s1.2 (zt s1.1) (List.replicate (zt (zn p0.Hidden.First)) (0:Int)))),.dead]
noncomputable abbrev s66_31 (p0:Thidden_watcher):List (Nat × AV):=[(0,.agg [vI p0.Hidden.Grain,z1 p0.Hidden.First,z2 p0.Hidden.Step,z2 p0.Hidden.Show,z1 p0.seen]),(1,vI 1)]
noncomputable abbrev s66_66 (s9:(Int × (List (List Int)))) (p0:Thidden_watcher) (s12:(Int × (List (List Int)))):List (Nat × AV):=[(1,.ptr 0 0 0),(3,.ptr 1 0 0),(4,vI s9.1),(16,vI (zn p0.Hidden.First)),(17,vI s12.1),(5,vI s12.1)]
theorem g_hidden_watcher_backward_ok (p0:Thidden_watcher) (x:(List (List Int))) (h:g_hidden_watcher_backward p0=some x):CallOk Try.prog 66 [.agg [vI p0.Hidden.Grain,z1 p0.Hidden.First,z2 p0.Hidden.Step,z2 p0.Hidden.Show,z1 p0.seen]] (.ret (.ref 0 0 x.length) [oR false 1 z1 x]):=by
 refine fn_ok [] Try.func66 rfl (by decide +kernel) rfl ?_
 unfold g_hidden_watcher_backward at h
 refine wp_eqB (base':=0) (st':=⟨(s66_1 p0),[],72⟩) kr kr ?_
 refine wp_seq (reg_in ?_)
 refine sgL false [] [] false gE ?_
 refine sz 1 2 (reg_end rfl (wp_seq ?_))
 refine wp_post ?_
 refine reg_in (sz 1 1 ?_)
 refine inlR (f:=87) (fn:=Try.f87) (as0:=[.agg [vI p0.Hidden.Grain,z1 p0.Hidden.First,z2 p0.Hidden.Step,z2 p0.Hidden.Show,z1 p0.seen]]) kr Try.func87 rfl (by decide +kernel) rfl ?_
 refine wp_eqB (base':=1) (st':=⟨(s66_1 p0),[oX true false 5 (.agg [vI p0.Hidden.Grain,z1 p0.Hidden.First,z2 p0.Hidden.Step,z2 p0.Hidden.Show,z1 p0.seen])],24⟩) kr kr ?_
 refine wp_seq (reg_in ?_)
 refine sgL false [] [] false gE ?_
 refine sz 1 2 (reg_end rfl (wp_seq ?_))
 refine wp_post ?_
 refine reg_in (sz 2 2 ?_)
 refine lenL (enc:=eI) (l:=p0.seen) (fl:=true) kr gE ?_
 refine mkL (enc:=fun _=>AV.nils) (z:=([]:(List Int))) (z0:=AV.nils) (n:=(zn p0.seen)) (m:=(zn p0.seen)) (w:=1) (bytes:=24) [] false kr rfl gE kr h (fun h=>?_)
 refine sgz 1 5 (S:=⟨(s66_5 p0),[oX true false 5 (.agg [vI p0.Hidden.Grain,z1 p0.Hidden.First,z2 p0.Hidden.Step,z2 p0.Hidden.Show,z1 p0.seen]),oX true false 5 (.agg [vI p0.Hidden.Grain,z1 p0.Hidden.First,z2 p0.Hidden.Step,z2 p0.Hidden.Show,z1 p0.seen]),.row false false true false 1 (List.map (fun _=>AV.nils) (List.replicate (zt (zn p0.seen)) ([]:(List Int))))],24⟩) ?_
 refine reg_end rfl ?_
 refine ⟨⟨(s66_5 p0),(s66_6 p0),24⟩,(wk_fam 2 1 true eI (x0:=([]:List Int)) (enc1:=fun _=>AV.nils) (st':=⟨(s66_5 p0),(s66_6 p0),24⟩) rfl rfl rfl (by kernel_rfl)),?_⟩
 refine wp_seq (wp_seq (wg [1,3] [1,2,3] (rn (wp_block ?_))))
 refine wwh h (fun s1=>⟨(s66_16 s1 p0),[oX true false 5 (.agg [vI p0.Hidden.Grain,z1 p0.Hidden.First,z2 p0.Hidden.Step,z2 p0.Hidden.Show,z1 p0.seen]),oX true false 5 (.agg [vI p0.Hidden.Grain,z1 p0.Hidden.First,z2 p0.Hidden.Step,z2 p0.Hidden.Show,z1 p0.seen]),.refs 3 (eF eI s1.2),.fam 1 true (eF eI s1.2)],24⟩) (fun v out=>out=.go (.exit 0) ⟨[(3,.ref 1 0 v.length)],[oX true false 5 (.agg [vI p0.Hidden.Grain,z1 p0.Hidden.First,z2 p0.Hidden.Step,z2 p0.Hidden.Show,z1 p0.seen]),.refs 2 (eF eI v),.fam 1 true (eF eI v)],24⟩) (wk_gc (live:=[1,3,10,11]) (keep:=[1,2,3]) kr) ?_ ?_
 ·intro s1 o h
  unfold g_hidden_watcher_backward_b0 at h
  refine sq (wp_seq ?_)
  refine wb [12] h (fun q3 h=>?_) (fun q3 h=>?_)
  ·refine wcT (wp_skip (wp_seq (wp_block (sq ?_))))
   refine wp_post ?_
   refine reg_in (sz 5 5 ?_)
   refine lenL (enc:=eI) (l:=p0.Hidden.First) (fl:=true) kr gE ?_
   refine mkL (enc:=eI) (z:=(0:Int)) (z0:=vI 0) (n:=(zn p0.Hidden.First)) (m:=(zn p0.Hidden.First)) (w:=1) (bytes:=8) [] true kr rfl gE kr h (fun h=>?_)
   refine bind_elim h (fun a4 q5 h=>?_)
   refine idxF (enc:=eI) (ls:=s1.2) (x:=a4) (n:=s1.1) (ob:=2) (j:=3) kr kr q5 gE ?_
   refine storeF (enc:=eI) (ls:=s1.2) (x:=a4) (n:=s1.1) (ob:=2) (j:=3) (m:=4) (q:=(List.replicate (zt (zn p0.Hidden.First)) (0:Int)).length) (S:=⟨(s66_16 s1 p0)++[(12,vB true),(13,vI s1.1),(4,vI s1.1),(14,.ref 2 0 s1.2.length),(15,vI s1.1),(16,.ptr 1 0 0),(17,.ptr 1 0 1),(18,z1 p0.Hidden.First),(19,vI (zn p0.Hidden.First)),(20,.ref 4 0 ((List.replicate (zt (zn p0.Hidden.First)) (0:Int)).length)),(21,.ptr 2 (zt s1.1) 0)],[oX true false 5 (.agg [vI p0.Hidden.Grain,z1 p0.Hidden.First,z2 p0.Hidden.Step,z2 p0.Hidden.Show,z1 p0.seen]),oX true false 5 (.agg [vI p0.Hidden.Grain,z1 p0.Hidden.First,z2 p0.Hidden.Step,z2 p0.Hidden.Show,z1 p0.seen]),.row false false false false 1 ((famRefs 3 0 (eF eI s1.2)).set (zt s1.1) (.ref 4 0 ((List.replicate (zt (zn p0.Hidden.First)) (0:Int)).length))),.fam 1 true (eF eI s1.2),oR true 1 eI (List.replicate (zt (zn p0.Hidden.First)) (0:Int))],24⟩) kr kr q5 kr kr kr ?_
   refine reg_end rfl ?_
   refine ⟨⟨[(1,.ptr 1 0 0),(3,.ref 2 0 ((List.set s1.2 (zt s1.1) (List.replicate (zt (zn p0.Hidden.First)) (0:Int))).length)),(10,vI (((List.replicate (zt (zn p0.seen)) ([]:(List Int))).length):Int)),(11,vI s1.1)]++[(12,vB true),(13,vI s1.1),(4,vI s1.1),(14,.ref 2 0 ((List.set s1.2 (zt s1.1) (List.replicate (zt (zn p0.Hidden.First)) (0:Int))).length)),(15,vI s1.1),(16,.ptr 1 0 0),(17,.ptr 1 0 1),(18,z1 p0.Hidden.First),(19,vI (zn p0.Hidden.First)),(21,.ptr 2 (zt s1.1) 0)],(s66_19 p0 s1),24⟩,(wk_trans (wk_adopt 2 3 4 (enc:=eI) (ls:=s1.2) (x:=a4) (b:=(List.replicate (zt (zn p0.Hidden.First)) (0:Int))) (n:=s1.1) [1,3,10,11,12,13,4,14,15,16,17,18,19,21] (st':=⟨(s66_16 s1 p0)++[(12,vB true),(13,vI s1.1),(4,vI s1.1),(14,.ref 2 0 s1.2.length),(15,vI s1.1),(16,.ptr 1 0 0),(17,.ptr 1 0 1),(18,z1 p0.Hidden.First),(19,vI (zn p0.Hidden.First)),(21,.ptr 2 (zt s1.1) 0)],(s66_19 p0 s1),24⟩) rfl rfl rfl q5 (by kernel_rfl) (by kernel_rfl)) (wk_eq (congrArg (fun n6=>(⟨[(1,.ptr 1 0 0),(3,.ref 2 0 n6),(10,vI (((List.replicate (zt (zn p0.seen)) ([]:(List Int))).length):Int)),(11,vI s1.1),(12,vB true),(13,vI s1.1),(4,vI s1.1),(14,.ref 2 0 n6),(15,vI s1.1),(16,.ptr 1 0 0),(17,.ptr 1 0 1),(18,z1 p0.Hidden.First),(19,vI (zn p0.Hidden.First)),(21,.ptr 2 (zt s1.1) 0)],(s66_19 p0 s1),24⟩:St)) (show s1.2.length=(List.set s1.2 (zt s1.1) (List.replicate (zt (zn p0.Hidden.First)) (0:Int))).length by simp only [List.length_set])))),?_⟩
   refine wg [1,3,10,11] [1,2,3] (rn ?_)
   cases h
   exact ⟨_,rfl,(wk_gc (live:=[1,3,10,11]) (keep:=[1,2,3]) kr)⟩
  refine wcF (wg [3] [2,3] ?_)
  refine wp_exit ?_
  cases h
  exact ⟨kr,rfl⟩
 intro x8 h out hx
 subst hx
 refine sq (wg [2] [1,2] ?_)
 refine wp_ret ?_
 refine ⟨⟨(s66_2 p0)++[(9,.ref 1 0 x8.length)],[oX true false 5 (.agg [vI p0.Hidden.Grain,z1 p0.Hidden.First,z2 p0.Hidden.Step,z2 p0.Hidden.Show,z1 p0.seen]),.refs 2 (eF eI x8),.fam 1 true (eF eI x8)],72⟩,by as_aux_lemma=>kernel_rfl,?_⟩
 refine sgL false [] [] false gE ?_
 refine sz 1 4 (reg_end rfl ?_)
 refine ⟨_,wk_refl,?_⟩
 refine wp_seq (wp_seq ?_)
 refine wp_post ?_
 refine reg_in (sz 1 1 ?_)
 refine inlR (f:=88) (fn:=Try.f88) (as0:=[.agg [vI p0.Hidden.Grain,z1 p0.Hidden.First,z2 p0.Hidden.Step,z2 p0.Hidden.Show,z1 p0.seen],vI 1]) kr Try.func88 rfl (by decide +kernel) rfl ?_
 refine wp_eqB (base':=4) (st':=⟨(s66_31 p0),[oX true false 5 (.agg [vI p0.Hidden.Grain,z1 p0.Hidden.First,z2 p0.Hidden.Step,z2 p0.Hidden.Show,z1 p0.seen]),.refs 2 (eF eI x8),.fam 1 true (eF eI x8),oX false false 1 (.ref 1 0 x8.length)],12⟩) kr kr ?_
 refine wp_seq (reg_in ?_)
 refine sgL false [] [] false gE ?_
 refine sz 1 2 (reg_end rfl (wp_seq ?_))
 refine wp_post ?_
 refine reg_in (sz 1 1 ?_)
 refine sgL false [] [] false gE ?_
 refine sz 1 3 (reg_end rfl ?_)
 refine ⟨_,wk_refl,?_⟩
 refine wp_seq ?_
 refine wp_post ?_
 refine rga hfol (sy 4 4 ?_)
 refine inlN (f:=108) (fn:=Try.f108) (as0:=[.agg [vI p0.Hidden.Grain,z1 p0.Hidden.First,z2 p0.Hidden.Step,z2 p0.Hidden.Show,z1 p0.seen]]) kr kr Try.func108 rfl (by decide +kernel) rfl ?_
 refine wp_eqB (base':=6) (st':=⟨(s66_1 p0),[.dead,.dead,.dead,.dead,.dead,.dead],4⟩) kr kr ?_
 refine wp_seq (reg_in ?_)
 refine sgL false [] [] false gE ?_
 refine sz 1 2 (reg_end rfl (sq (wg [2] [6] ?_)))
 refine wp_ret ?_
 refine ⟨⟨(s66_31 p0)++[(2,.ptr 4 0 0),(4,.nilf),(6,.agg [.fn (.func 107) [] [],.fn (.func 108) [] []]),(5,.ptr 5 0 0),(7,vI 1),(8,.ptr 5 0 1),(9,.fn (.func 108) [] []),(10,.agg [vI p0.Hidden.Grain,z1 p0.Hidden.First,z2 p0.Hidden.Step,z2 p0.Hidden.Show,z1 p0.seen])]++[(11,.fn (.func 118) [] [.ptr 6 0 0])],[oX true false 5 (.agg [vI p0.Hidden.Grain,z1 p0.Hidden.First,z2 p0.Hidden.Step,z2 p0.Hidden.Show,z1 p0.seen]),.refs 2 (eF eI x8),.fam 1 true (eF eI x8),oX false false 1 (.ref 1 0 x8.length),oX true false 5 (.agg [vI p0.Hidden.Grain,z1 p0.Hidden.First,z2 p0.Hidden.Step,z2 p0.Hidden.Show,z1 p0.seen]),oX true false 2 (.agg [.fn (.func 107) [] [],.fn (.func 108) [] []]),oX true false 5 (.agg [vI p0.Hidden.Grain,z1 p0.Hidden.First,z2 p0.Hidden.Step,z2 p0.Hidden.Show,z1 p0.seen])],12⟩,by as_aux_lemma=>kernel_rfl,?_⟩
 refine sy 1 6 (rgd ?_)
 refine ⟨_,wk_refl,?_⟩
 refine wg [4] [6] ?_
 refine wp_ret ?_
 refine ⟨⟨(s66_2 p0)++[(9,.ref 1 0 x8.length),(3,.ptr 3 0 0),(10,.agg [vI p0.Hidden.Grain,z1 p0.Hidden.First,z2 p0.Hidden.Step,z2 p0.Hidden.Show,z1 p0.seen])]++[(11,.fn (.func 118) [] [.ptr 4 0 0])],[oX true false 5 (.agg [vI p0.Hidden.Grain,z1 p0.Hidden.First,z2 p0.Hidden.Step,z2 p0.Hidden.Show,z1 p0.seen]),.refs 2 (eF eI x8),.fam 1 true (eF eI x8),oX false false 1 (.ref 1 0 x8.length),oX true false 5 (.agg [vI p0.Hidden.Grain,z1 p0.Hidden.First,z2 p0.Hidden.Step,z2 p0.Hidden.Show,z1 p0.seen])],72⟩,by as_aux_lemma=>kernel_rfl,?_⟩
 refine reg_end rfl ?_
 refine ⟨_,wk_refl,?_⟩
 refine wp_block ?_
 refine wgc [1,3,11] [0,3,4,1,2] ⟨[(1,.ptr 0 0 0),(3,.ptr 1 0 0),(11,.fn (.func 118) [] [.ptr 2 0 0])],[oX true false 5 (.agg [vI p0.Hidden.Grain,z1 p0.Hidden.First,z2 p0.Hidden.Step,z2 p0.Hidden.Show,z1 p0.seen]),oX false false 1 (.ref 3 0 x8.length),oX true false 5 (.agg [vI p0.Hidden.Grain,z1 p0.Hidden.First,z2 p0.Hidden.Step,z2 p0.Hidden.Show,z1 p0.seen]),.refs 4 (eF eI x8),.fam 1 true (eF eI x8)],72⟩ ?_
 refine wp_range (f:=118) (fn:=Try.f118) (first:=[]) (caps:=[.ptr 2 0 0]) rfl Try.func118 rfl (by decide +kernel) rfl rfl ?_
 refine wp_eqB (base':=6) (st':=⟨[(0,.yld 5),(1,.ptr 2 0 0)],[oX true false 5 (.agg [vI p0.Hidden.Grain,z1 p0.Hidden.First,z2 p0.Hidden.Step,z2 p0.Hidden.Show,z1 p0.seen]),oX false false 1 (.ref 3 0 x8.length),oX true false 5 (.agg [vI p0.Hidden.Grain,z1 p0.Hidden.First,z2 p0.Hidden.Step,z2 p0.Hidden.Show,z1 p0.seen]),.refs 4 (eF eI x8),.fam 1 true (eF eI x8),.loop 72 [(1,.ptr 0 0 0),(3,.ptr 1 0 0),(11,.fn (.func 118) [] [.ptr 2 0 0])] [12] (cA Try.f66 [true,true,false,true,true]) (cB Try.f66 [true,true,false,true,true]) .ready none],16⟩) kr kr ?_
 refine wp_seq ?_
 refine wp_post ?_
 refine reg_in (sz 2 2 ?_)
 refine lenL (enc:=eI) (l:=p0.seen) (fl:=true) kr gE ?_
 refine sz 2 5 (reg_end rfl ?_)
 refine ⟨_,wk_refl,?_⟩
 refine wp_block ?_
 refine wwh h (fun s9=>⟨[(0,.yld 5),(3,vI s9.1)],[oX true false 5 (.agg [vI p0.Hidden.Grain,z1 p0.Hidden.First,z2 p0.Hidden.Step,z2 p0.Hidden.Show,z1 p0.seen]),oX false false 1 (.ref 3 0 s9.2.length),oX true false 5 (.agg [vI p0.Hidden.Grain,z1 p0.Hidden.First,z2 p0.Hidden.Step,z2 p0.Hidden.Show,z1 p0.seen]),.refs 4 (eF eI s9.2),.fam 1 true (eF eI s9.2),.loop 72 [(1,.ptr 0 0 0),(3,.ptr 1 0 0),(11,.fn (.func 118) [] [.ptr 2 0 0])] [12] (cA Try.f66 [true,true,false,true,true]) (cB Try.f66 [true,true,false,true,true]) .ready none],16⟩) (fun v out=>out=.go (.exit 0) ⟨[],[oX true false 5 (.agg [vI p0.Hidden.Grain,z1 p0.Hidden.First,z2 p0.Hidden.Step,z2 p0.Hidden.Show,z1 p0.seen]),oX false false 1 (.ref 3 0 v.length),oX true false 5 (.agg [vI p0.Hidden.Grain,z1 p0.Hidden.First,z2 p0.Hidden.Step,z2 p0.Hidden.Show,z1 p0.seen]),.refs 4 (eF eI v),.fam 1 true (eF eI v),.loop 72 [(1,.ptr 0 0 0),(3,.ptr 1 0 0),(11,.fn (.func 118) [] [.ptr 2 0 0])] [12] (cA Try.f66 [true,true,false,true,true]) (cB Try.f66 [true,true,false,true,true]) .ready none],16⟩) (wk_gc (live:=[0,3]) (keep:=[]) kr) ?_ ?_
 ·intro s9 o h
  unfold g_hidden_watcher_backward_b3 at h
  refine wp_seq (sq ?_)
  refine wb [9] h (fun q11 h=>?_) (fun q11 h=>?_)
  ·refine wcT (wp_skip (wp_seq (wp_block (wp_seq ?_))))
   refine wp_post ?_
   refine reg_in (sz 2 2 ?_)
   refine yldR (l:=5) (nt:=72) (us:=[vI s9.1]) (sl:=[(1,.ptr 0 0 0),(3,.ptr 1 0 0),(11,.fn (.func 118) [] [.ptr 2 0 0])]) (ps:=[12]) (assign:=cA Try.f66 [true,true,false,true,true]) (body:=cB Try.f66 [true,true,false,true,true]) (pe:=none) kr rfl rfl ?_
   refine wp_eqB (base':=6) (st':=⟨[(1,.ptr 0 0 0),(3,.ptr 1 0 0),(11,.fn (.func 118) [] [.ptr 2 0 0]),(12,vI s9.1)],[oX true false 5 (.agg [vI p0.Hidden.Grain,z1 p0.Hidden.First,z2 p0.Hidden.Step,z2 p0.Hidden.Show,z1 p0.seen]),oX false false 1 (.ref 3 0 s9.2.length),oX true false 5 (.agg [vI p0.Hidden.Grain,z1 p0.Hidden.First,z2 p0.Hidden.Step,z2 p0.Hidden.Show,z1 p0.seen]),.refs 4 (eF eI s9.2),.fam 1 true (eF eI s9.2),.loop 72 [(1,.ptr 0 0 0),(3,.ptr 1 0 0),(11,.fn (.func 118) [] [.ptr 2 0 0])] [12] (cA Try.f66 [true,true,false,true,true]) (cB Try.f66 [true,true,false,true,true]) .ready none],72⟩) kr kr ?_
   refine rn ?_
   refine ⟨⟨[(1,.ptr 0 0 0),(3,.ptr 1 0 0),(11,.fn (.func 118) [] [.ptr 2 0 0]),(12,vI s9.1),(4,vI s9.1)],[oX true false 5 (.agg [vI p0.Hidden.Grain,z1 p0.Hidden.First,z2 p0.Hidden.Step,z2 p0.Hidden.Show,z1 p0.seen]),oX false false 1 (.ref 3 0 s9.2.length),oX true false 5 (.agg [vI p0.Hidden.Grain,z1 p0.Hidden.First,z2 p0.Hidden.Step,z2 p0.Hidden.Show,z1 p0.seen]),.refs 4 (eF eI s9.2),.fam 1 true (eF eI s9.2),.loop 72 [(1,.ptr 0 0 0),(3,.ptr 1 0 0),(11,.fn (.func 118) [] [.ptr 2 0 0])] [12] (cA Try.f66 [true,true,false,true,true]) (cB Try.f66 [true,true,false,true,true]) .busy none],72⟩,by as_aux_lemma=>kernel_rfl,?_⟩
   refine wp_block (wp_seq ?_)
   refine wp_post ?_
   refine reg_in (sz 3 3 ?_)
   refine lenL (enc:=eI) (l:=p0.Hidden.First) (fl:=true) kr gE ?_
   refine sz 1 5 (reg_end rfl ?_)
   refine ⟨_,wk_refl,?_⟩
   refine wp_block ?_
   refine wwh h (fun s12=>⟨[(1,.ptr 0 0 0),(3,.ptr 1 0 0),(4,vI s9.1),(16,vI (zn p0.Hidden.First)),(17,vI s12.1)],[oX true false 5 (.agg [vI p0.Hidden.Grain,z1 p0.Hidden.First,z2 p0.Hidden.Step,z2 p0.Hidden.Show,z1 p0.seen]),oX false false 1 (.ref 3 0 s12.2.length),oX true false 5 (.agg [vI p0.Hidden.Grain,z1 p0.Hidden.First,z2 p0.Hidden.Step,z2 p0.Hidden.Show,z1 p0.seen]),.refs 4 (eF eI s12.2),.fam 1 true (eF eI s12.2),.loop 72 [(1,.ptr 0 0 0),(3,.ptr 1 0 0),(11,.fn (.func 118) [] [.ptr 2 0 0])] [12] (cA Try.f66 [true,true,false,true,true]) (cB Try.f66 [true,true,false,true,true]) .busy none],72⟩) (fun v out=>out=.go (.exit 2) ⟨[],[oX true false 5 (.agg [vI p0.Hidden.Grain,z1 p0.Hidden.First,z2 p0.Hidden.Step,z2 p0.Hidden.Show,z1 p0.seen]),oX false false 1 (.ref 3 0 v.length),oX true false 5 (.agg [vI p0.Hidden.Grain,z1 p0.Hidden.First,z2 p0.Hidden.Step,z2 p0.Hidden.Show,z1 p0.seen]),.refs 4 (eF eI v),.fam 1 true (eF eI v),.loop 72 [(1,.ptr 0 0 0),(3,.ptr 1 0 0),(11,.fn (.func 118) [] [.ptr 2 0 0])] [12] (cA Try.f66 [true,true,false,true,true]) (cB Try.f66 [true,true,false,true,true]) .busy none],72⟩) (wk_gc (live:=[1,3,4,16,17]) (keep:=[]) kr) ?_ ?_
   ·intro s12 o h
    unfold g_hidden_watcher_backward_b2 at h
    refine sq (wp_seq ?_)
    refine wb [18] h (fun q14 h=>?_) (fun q14 h=>?_)
    ·refine wcT (wp_skip (wp_seq (wp_block (sq (wp_seq (wp_seq ?_))))))
     refine wp_post ?_
     refine reg_in (sz 3 3 ?_)
     refine lenL (enc:=eI) (l:=p0.seen) (fl:=true) kr gE ?_
     refine sz 2 6 (reg_end rfl ?_)
     refine ⟨_,wk_refl,?_⟩
     refine wbz h (fun q16 h=>?_) (fun q16 h=>?_)
     ·refine wp_seq ?_
      refine wgc [1,3,4,16,17,5] [] ⟨(s66_66 s9 p0 s12),[oX true false 5 (.agg [vI p0.Hidden.Grain,z1 p0.Hidden.First,z2 p0.Hidden.Step,z2 p0.Hidden.Show,z1 p0.seen]),oX false false 1 (.ref 3 0 s12.2.length),oX true false 5 (.agg [vI p0.Hidden.Grain,z1 p0.Hidden.First,z2 p0.Hidden.Step,z2 p0.Hidden.Show,z1 p0.seen]),.refs 4 (eF eI s12.2),.fam 1 true (eF eI s12.2),.loop 72 [(1,.ptr 0 0 0),(3,.ptr 1 0 0),(11,.fn (.func 118) [] [.ptr 2 0 0])] [12] (cA Try.f66 [true,true,false,true,true]) (cB Try.f66 [true,true,false,true,true]) .busy none],72⟩ ?_
      refine wp_post ?_
      refine reg_in (sz 2 2 ?_)
      refine bind_elim h (fun a17 q18 h=>?_)
      refine idxF (enc:=eI) (ls:=s12.2) (x:=a17) (n:=s9.1) (ob:=3) (j:=4) kr kr q18 gE ?_
      refine loadF (enc:=eI) (ls:=s12.2) (x:=a17) (n:=s9.1) (ob:=3) (j:=4) kr kr q18 gE ?_
      refine sz 1 5 ?_
      refine bind_elim h (fun a19 q20 h=>?_)
      refine idxI (enc:=eI) (ls:=s12.2) (x:=a17) (y:=a19) (n:=s9.1) (c:=s12.1) (w:=1) (j:=4) (fl:=true) kr kr q18 q20 rfl gE ?_
      refine storeI (enc:=eI) (ls:=s12.2) (x:=a17) (y:=a19) (y':=1) (n:=s9.1) (m:=s12.1) (w:=1) (j:=4) (q:=3) (c:=0) (fl:=true) (v:=vI 1) kr kr kr q18 q20 rfl kr kr kr gE ?_
      refine rknN (n:=s12.2.length) (m:=(List.set s12.2 (zt s9.1) (List.set a17 (zt s12.1) 1)).length) (S:=fun n21=>⟨(s66_66 s9 p0 s12)++[(26,.ref 3 0 n21),(27,vI s9.1),(28,.ptr 3 (zt s9.1) 0),(29,.ref (fid 4 (zt s9.1)) 0 a17.length),(30,vI s12.1),(31,.ptr (fid 4 (zt s9.1)) (zt s12.1) 0)],[oX true false 5 (.agg [vI p0.Hidden.Grain,z1 p0.Hidden.First,z2 p0.Hidden.Step,z2 p0.Hidden.Show,z1 p0.seen]),oX false false 1 (.ref 3 0 n21),oX true false 5 (.agg [vI p0.Hidden.Grain,z1 p0.Hidden.First,z2 p0.Hidden.Step,z2 p0.Hidden.Show,z1 p0.seen]),.refs 4 (eF eI (List.set s12.2 (zt s9.1) (List.set a17 (zt s12.1) 1))),.fam 1 true (eF eI (List.set s12.2 (zt s9.1) (List.set a17 (zt s12.1) 1))),.loop 72 [(1,.ptr 0 0 0),(3,.ptr 1 0 0),(11,.fn (.func 118) [] [.ptr 2 0 0])] [12] (cA Try.f66 [true,true,false,true,true]) (cB Try.f66 [true,true,false,true,true]) .busy none],72⟩) (by simp only [List.length_set]) ?_
      refine reg_end rfl ?_
      refine ⟨_,wk_refl,?_⟩
      refine wg [1,3,4,16,17] [] ?_
      refine wp_exit ?_
      refine rn ?_
      cases h
      exact ⟨_,rfl,(wk_gc (live:=[1,3,4,16,17]) (keep:=[]) kr)⟩
     refine wp_skip (wp_seq ?_)
     refine wgc [1,3,4,16,17,5] [] ⟨(s66_66 s9 p0 s12),[oX true false 5 (.agg [vI p0.Hidden.Grain,z1 p0.Hidden.First,z2 p0.Hidden.Step,z2 p0.Hidden.Show,z1 p0.seen]),oX false false 1 (.ref 3 0 s12.2.length),oX true false 5 (.agg [vI p0.Hidden.Grain,z1 p0.Hidden.First,z2 p0.Hidden.Step,z2 p0.Hidden.Show,z1 p0.seen]),.refs 4 (eF eI s12.2),.fam 1 true (eF eI s12.2),.loop 72 [(1,.ptr 0 0 0),(3,.ptr 1 0 0),(11,.fn (.func 118) [] [.ptr 2 0 0])] [12] (cA Try.f66 [true,true,false,true,true]) (cB Try.f66 [true,true,false,true,true]) .busy none],72⟩ ?_
     refine wp_post ?_
     refine reg_in (sz 3 3 ?_)
     refine bind_elim h (fun a22 q23 h=>?_)
     refine idxF (enc:=eI) (ls:=s12.2) (x:=a22) (n:=zw (s9.1+1)) (ob:=3) (j:=4) kr kr q23 gE ?_
     refine loadF (enc:=eI) (ls:=s12.2) (x:=a22) (n:=zw (s9.1+1)) (ob:=3) (j:=4) kr kr q23 gE ?_
     refine sgz 2 7 (S:=⟨(s66_66 s9 p0 s12)++[(32,.ref 3 0 s12.2.length),(33,vI s9.1),(34,vI (zw (s9.1+1))),(35,.ptr 3 (zt (zw (s9.1+1))) 0),(36,.ref (fid 4 (zt (zw (s9.1+1)))) 0 a22.length),(37,vI (zn a22)),(38,vI 0)],[oX true false 5 (.agg [vI p0.Hidden.Grain,z1 p0.Hidden.First,z2 p0.Hidden.Step,z2 p0.Hidden.Show,z1 p0.seen]),oX false false 1 (.ref 3 0 s12.2.length),oX true false 5 (.agg [vI p0.Hidden.Grain,z1 p0.Hidden.First,z2 p0.Hidden.Step,z2 p0.Hidden.Show,z1 p0.seen]),.refs 4 (eF eI s12.2),.fam 1 true (eF eI s12.2),.loop 72 [(1,.ptr 0 0 0),(3,.ptr 1 0 0),(11,.fn (.func 118) [] [.ptr 2 0 0])] [12] (cA Try.f66 [true,true,false,true,true]) (cB Try.f66 [true,true,false,true,true]) .busy none],72⟩) ?_
     refine reg_end rfl ?_
     refine ⟨⟨(s66_66 s9 p0 s12)++[(32,.ref 3 0 s12.2.length),(33,vI s9.1),(34,vI (zw (s9.1+1))),(35,.ptr 3 (zt (zw (s9.1+1))) 0),(36,.lin 4 (zt (zw (s9.1+1))) a22.length),(37,vI (zn a22)),(38,vI 0)],[oX true false 5 (.agg [vI p0.Hidden.Grain,z1 p0.Hidden.First,z2 p0.Hidden.Step,z2 p0.Hidden.Show,z1 p0.seen]),oX false false 1 (.ref 3 0 s12.2.length),oX true false 5 (.agg [vI p0.Hidden.Grain,z1 p0.Hidden.First,z2 p0.Hidden.Step,z2 p0.Hidden.Show,z1 p0.seen]),.refs 4 (eF eI s12.2),.fam 1 true (eF eI s12.2),.loop 72 [(1,.ptr 0 0 0),(3,.ptr 1 0 0),(11,.fn (.func 118) [] [.ptr 2 0 0])] [12] (cA Try.f66 [true,true,false,true,true]) (cB Try.f66 [true,true,false,true,true]) .busy none],72⟩,(wk_lin 36 (st':=⟨(s66_66 s9 p0 s12)++[(32,.ref 3 0 s12.2.length),(33,vI s9.1),(34,vI (zw (s9.1+1))),(35,.ptr 3 (zt (zw (s9.1+1))) 0),(36,.lin 4 (zt (zw (s9.1+1))) a22.length),(37,vI (zn a22)),(38,vI 0)],[oX true false 5 (.agg [vI p0.Hidden.Grain,z1 p0.Hidden.First,z2 p0.Hidden.Step,z2 p0.Hidden.Show,z1 p0.seen]),oX false false 1 (.ref 3 0 s12.2.length),oX true false 5 (.agg [vI p0.Hidden.Grain,z1 p0.Hidden.First,z2 p0.Hidden.Step,z2 p0.Hidden.Show,z1 p0.seen]),.refs 4 (eF eI s12.2),.fam 1 true (eF eI s12.2),.loop 72 [(1,.ptr 0 0 0),(3,.ptr 1 0 0),(11,.fn (.func 118) [] [.ptr 2 0 0])] [12] (cA Try.f66 [true,true,false,true,true]) (cB Try.f66 [true,true,false,true,true]) .busy none],72⟩) rfl (by kernel_rfl)),?_⟩
     refine wp_block ?_
     refine wwh h (fun s24=>⟨[(1,.ptr 0 0 0),(3,.ptr 1 0 0),(4,vI s9.1),(5,vI s12.1),(16,vI (zn p0.Hidden.First)),(17,vI s12.1),(36,.lin 4 (zt (zw (s9.1+1))) a22.length),(37,vI (zn a22)),(38,vI s24.1)],[oX true false 5 (.agg [vI p0.Hidden.Grain,z1 p0.Hidden.First,z2 p0.Hidden.Step,z2 p0.Hidden.Show,z1 p0.seen]),oX false false 1 (.ref 3 0 s24.2.length),oX true false 5 (.agg [vI p0.Hidden.Grain,z1 p0.Hidden.First,z2 p0.Hidden.Step,z2 p0.Hidden.Show,z1 p0.seen]),.refs 4 (eF eI s24.2),.fam 1 true (eF eI s24.2),.loop 72 [(1,.ptr 0 0 0),(3,.ptr 1 0 0),(11,.fn (.func 118) [] [.ptr 2 0 0])] [12] (cA Try.f66 [true,true,false,true,true]) (cB Try.f66 [true,true,false,true,true]) .busy none],72⟩) (fun v out=>out=.go (.exit 4) ⟨[(1,.ptr 0 0 0),(3,.ptr 1 0 0),(4,vI s9.1),(16,vI (zn p0.Hidden.First)),(17,vI s12.1)],[oX true false 5 (.agg [vI p0.Hidden.Grain,z1 p0.Hidden.First,z2 p0.Hidden.Step,z2 p0.Hidden.Show,z1 p0.seen]),oX false false 1 (.ref 3 0 v.length),oX true false 5 (.agg [vI p0.Hidden.Grain,z1 p0.Hidden.First,z2 p0.Hidden.Step,z2 p0.Hidden.Show,z1 p0.seen]),.refs 4 (eF eI v),.fam 1 true (eF eI v),.loop 72 [(1,.ptr 0 0 0),(3,.ptr 1 0 0),(11,.fn (.func 118) [] [.ptr 2 0 0])] [12] (cA Try.f66 [true,true,false,true,true]) (cB Try.f66 [true,true,false,true,true]) .busy none],72⟩) (wk_gc (live:=[1,3,4,5,16,17,36,37,38]) (keep:=[]) kr) ?_ ?_
     ·intro s24 o h
      unfold g_hidden_watcher_backward_b1 at h
      refine sq (wp_seq ?_)
      refine wbr (S:=fun b25=>⟨[(1,.ptr 0 0 0),(3,.ptr 1 0 0),(4,vI s9.1),(5,vI s12.1),(16,vI (zn p0.Hidden.First)),(17,vI s12.1),(36,.lin 4 (zt (zw (s9.1+1))) a22.length),(37,vI (zn a22)),(38,vI s24.1)]++[(39,vB b25)],[oX true false 5 (.agg [vI p0.Hidden.Grain,z1 p0.Hidden.First,z2 p0.Hidden.Step,z2 p0.Hidden.Show,z1 p0.seen]),oX false false 1 (.ref 3 0 s24.2.length),oX true false 5 (.agg [vI p0.Hidden.Grain,z1 p0.Hidden.First,z2 p0.Hidden.Step,z2 p0.Hidden.Show,z1 p0.seen]),.refs 4 (eF eI s24.2),.fam 1 true (eF eI s24.2),.loop 72 [(1,.ptr 0 0 0),(3,.ptr 1 0 0),(11,.fn (.func 118) [] [.ptr 2 0 0])] [12] (cA Try.f66 [true,true,false,true,true]) (cB Try.f66 [true,true,false,true,true]) .busy none],72⟩) h (fun q26 h=>?_) (fun q26 h=>?_)
      ·refine wcT (wp_skip (wp_seq (wp_block (wp_seq ?_))))
       refine wp_wk (wk_unlin 36 (st':=⟨[(1,.ptr 0 0 0),(3,.ptr 1 0 0),(4,vI s9.1),(5,vI s12.1),(16,vI (zn p0.Hidden.First)),(17,vI s12.1),(36,.ref (fid 4 (zt (zw (s9.1+1)))) 0 a22.length),(37,vI (zn a22)),(38,vI s24.1),(39,vB true)],[oX true false 5 (.agg [vI p0.Hidden.Grain,z1 p0.Hidden.First,z2 p0.Hidden.Step,z2 p0.Hidden.Show,z1 p0.seen]),oX false false 1 (.ref 3 0 s24.2.length),oX true false 5 (.agg [vI p0.Hidden.Grain,z1 p0.Hidden.First,z2 p0.Hidden.Step,z2 p0.Hidden.Show,z1 p0.seen]),.refs 4 (eF eI s24.2),.fam 1 true (eF eI s24.2),.loop 72 [(1,.ptr 0 0 0),(3,.ptr 1 0 0),(11,.fn (.func 118) [] [.ptr 2 0 0])] [12] (cA Try.f66 [true,true,false,true,true]) (cB Try.f66 [true,true,false,true,true]) .busy none],72⟩) rfl kr) ?_
       refine wp_post ?_
       refine reg_in (sz 1 1 ?_)
       refine bind_elim h (fun a27 q28 h=>?_)
       refine bind_elim h (fun a29 q30 h=>?_)
       refine idxI2 (enc:=eI) (ls:=s24.2) (x:=a27) (y:=a29) (n:=zw (s9.1+1)) (c:=s24.1) (w:=1) (j:=4) (m:=a22.length) (fl:=true) kr kr q28 q30 rfl gE h (fun h=>?_)
       refine loadI (enc:=eI) (ls:=s24.2) (x:=a27) (y:=a29) (n:=zw (s9.1+1)) (m:=s24.1) (w:=1) (j:=4) (c:=0) (fl:=true) kr kr q28 q30 rfl gE ?_
       refine sgz 2 5 (S:=⟨[(1,.ptr 0 0 0),(3,.ptr 1 0 0),(4,vI s9.1),(5,vI s12.1),(16,vI (zn p0.Hidden.First)),(17,vI s12.1),(36,.ref (fid 4 (zt (zw (s9.1+1)))) 0 a22.length),(37,vI (zn a22)),(38,vI s24.1),(39,vB true)]++[(40,vI s24.1),(41,.ptr (fid 4 (zt (zw (s9.1+1)))) (zt s24.1) 0),(42,vI a29),(6,vI s24.1),(7,vI a29)],[oX true false 5 (.agg [vI p0.Hidden.Grain,z1 p0.Hidden.First,z2 p0.Hidden.Step,z2 p0.Hidden.Show,z1 p0.seen]),oX false false 1 (.ref 3 0 s24.2.length),oX true false 5 (.agg [vI p0.Hidden.Grain,z1 p0.Hidden.First,z2 p0.Hidden.Step,z2 p0.Hidden.Show,z1 p0.seen]),.refs 4 (eF eI s24.2),.fam 1 true (eF eI s24.2),.loop 72 [(1,.ptr 0 0 0),(3,.ptr 1 0 0),(11,.fn (.func 118) [] [.ptr 2 0 0])] [12] (cA Try.f66 [true,true,false,true,true]) (cB Try.f66 [true,true,false,true,true]) .busy none],72⟩) ?_
       refine reg_end rfl ?_
       refine ⟨⟨[(1,.ptr 0 0 0),(3,.ptr 1 0 0),(4,vI s9.1),(5,vI s12.1),(16,vI (zn p0.Hidden.First)),(17,vI s12.1),(36,.lin 4 (zt (zw (s9.1+1))) a22.length),(37,vI (zn a22)),(38,vI s24.1)]++[(39,vB true),(40,vI s24.1),(41,.ptr (fid 4 (zt (zw (s9.1+1)))) (zt s24.1) 0),(42,vI a29),(6,vI s24.1),(7,vI a29)],[oX true false 5 (.agg [vI p0.Hidden.Grain,z1 p0.Hidden.First,z2 p0.Hidden.Step,z2 p0.Hidden.Show,z1 p0.seen]),oX false false 1 (.ref 3 0 s24.2.length),oX true false 5 (.agg [vI p0.Hidden.Grain,z1 p0.Hidden.First,z2 p0.Hidden.Step,z2 p0.Hidden.Show,z1 p0.seen]),.refs 4 (eF eI s24.2),.fam 1 true (eF eI s24.2),.loop 72 [(1,.ptr 0 0 0),(3,.ptr 1 0 0),(11,.fn (.func 118) [] [.ptr 2 0 0])] [12] (cA Try.f66 [true,true,false,true,true]) (cB Try.f66 [true,true,false,true,true]) .busy none],72⟩,(wk_lin 36 (st':=⟨[(1,.ptr 0 0 0),(3,.ptr 1 0 0),(4,vI s9.1),(5,vI s12.1),(16,vI (zn p0.Hidden.First)),(17,vI s12.1),(36,.lin 4 (zt (zw (s9.1+1))) a22.length),(37,vI (zn a22)),(38,vI s24.1)]++[(39,vB true),(40,vI s24.1),(41,.ptr (fid 4 (zt (zw (s9.1+1)))) (zt s24.1) 0),(42,vI a29),(6,vI s24.1),(7,vI a29)],[oX true false 5 (.agg [vI p0.Hidden.Grain,z1 p0.Hidden.First,z2 p0.Hidden.Step,z2 p0.Hidden.Show,z1 p0.seen]),oX false false 1 (.ref 3 0 s24.2.length),oX true false 5 (.agg [vI p0.Hidden.Grain,z1 p0.Hidden.First,z2 p0.Hidden.Step,z2 p0.Hidden.Show,z1 p0.seen]),.refs 4 (eF eI s24.2),.fam 1 true (eF eI s24.2),.loop 72 [(1,.ptr 0 0 0),(3,.ptr 1 0 0),(11,.fn (.func 118) [] [.ptr 2 0 0])] [12] (cA Try.f66 [true,true,false,true,true]) (cB Try.f66 [true,true,false,true,true]) .busy none],72⟩) rfl (by kernel_rfl)),?_⟩
       refine wp_post ?_
       refine rga hfol (sy 2 2 ?_)
       refine bind_elim h (fun a31 q32 h=>?_)
       refine idxF (enc:=eI) (ls:=s24.2) (x:=a31) (n:=s9.1) (ob:=3) (j:=4) kr kr q32 gE ?_
       refine loadF (enc:=eI) (ls:=s24.2) (x:=a31) (n:=s9.1) (ob:=3) (j:=4) kr kr q32 gE ?_
       refine sy 1 5 ?_
       refine bind_elim h (fun a33 q34 h=>?_)
       refine idxI (enc:=eI) (ls:=s24.2) (x:=a31) (y:=a33) (n:=s9.1) (c:=s12.1) (w:=1) (j:=4) (fl:=true) kr kr q32 q34 rfl gE ?_
       refine loadI (enc:=eI) (ls:=s24.2) (x:=a31) (y:=a33) (n:=s9.1) (m:=s12.1) (w:=1) (j:=4) (c:=0) (fl:=true) kr kr q32 q34 rfl gE ?_
       refine sy 4 11 ?_
       refine bind_elim h (fun a35 q36 h=>?_)
       refine idxL' (enc:=z1) (l:=p0.Hidden.Step) (n:=s12.1) (fl:=false) (w:=1) (a:=a35) kr rfl gE q36 ?_
       refine sy 2 14 ?_
       refine bind_elim h (fun a37 q38 h=>?_)
       refine idxL' (enc:=eI) (l:=a35) (n:=s24.1) (fl:=true) (w:=1) (a:=a37) kr rfl gE q38 ?_
       refine sy 5 20 ?_
       refine callW bodyB_89 (g_hidden_watcher_shown_ok p0 (zw (s9.1+1)) s24.1) h (fun x39 _ h=>?_)
       refine sy 4 25 ?_
       refine idxI (enc:=eI) (ls:=s24.2) (x:=a31) (y:=a33) (n:=s9.1) (c:=s12.1) (w:=1) (j:=4) (fl:=true) kr kr q32 q34 rfl gE ?_
       refine storeI (enc:=eI) (ls:=s24.2) (x:=a31) (y:=a33) (y':=zw (a33+(zw ((zw (a37*x39))*a29)))) (n:=s9.1) (m:=s12.1) (w:=1) (j:=4) (q:=3) (c:=0) (fl:=true) (v:=vI (zw (a33+(zw ((zw (a37*x39))*a29))))) kr kr kr q32 q34 rfl kr kr kr gE ?_
       refine rknN (n:=s24.2.length) (m:=(List.set s24.2 (zt s9.1) (List.set a31 (zt s12.1) (zw (a33+(zw ((zw (a37*x39))*a29)))))).length) (S:=fun n41=>⟨[(1,.ptr 0 0 0),(3,.ptr 1 0 0),(4,vI s9.1),(5,vI s12.1),(16,vI (zn p0.Hidden.First)),(17,vI s12.1),(36,.lin 4 (zt (zw (s9.1+1))) a22.length),(37,vI (zn a22)),(38,vI s24.1)]++[(39,vB true),(40,vI s24.1),(41,.ptr (fid 4 (zt (zw (s9.1+1)))) (zt s24.1) 0),(42,vI a29),(6,vI s24.1),(7,vI a29),(43,.ref 3 0 n41),(44,vI s9.1),(45,.ptr 3 (zt s9.1) 0),(46,.ref (fid 4 (zt s9.1)) 0 a31.length),(47,vI s12.1),(48,.ptr (fid 4 (zt s9.1)) (zt s12.1) 0),(49,vI a33),(50,.ptr 0 0 0),(51,.ptr 0 0 2),(52,z2 p0.Hidden.Step),(53,vI s12.1),(54,.fz [z1 a35]),(55,z1 a35),(56,vI s24.1),(57,.fz [vI a37]),(58,vI a37),(59,.agg [vI p0.Hidden.Grain,z1 p0.Hidden.First,z2 p0.Hidden.Step,z2 p0.Hidden.Show,z1 p0.seen]),(60,vI s9.1),(61,vI (zw (s9.1+1))),(62,vI s24.1),(63,vI x39),(64,vI (zw (a37*x39))),(65,vI a29),(66,vI (zw ((zw (a37*x39))*a29))),(67,vI (zw (a33+(zw ((zw (a37*x39))*a29))))),(68,.ptr (fid 4 (zt s9.1)) (zt s12.1) 0)],[oX true false 5 (.agg [vI p0.Hidden.Grain,z1 p0.Hidden.First,z2 p0.Hidden.Step,z2 p0.Hidden.Show,z1 p0.seen]),oX false false 1 (.ref 3 0 n41),oX true false 5 (.agg [vI p0.Hidden.Grain,z1 p0.Hidden.First,z2 p0.Hidden.Step,z2 p0.Hidden.Show,z1 p0.seen]),.refs 4 (eF eI (List.set s24.2 (zt s9.1) (List.set a31 (zt s12.1) (zw (a33+(zw ((zw (a37*x39))*a29))))))),.fam 1 true (eF eI (List.set s24.2 (zt s9.1) (List.set a31 (zt s12.1) (zw (a33+(zw ((zw (a37*x39))*a29))))))),.loop 72 [(1,.ptr 0 0 0),(3,.ptr 1 0 0),(11,.fn (.func 118) [] [.ptr 2 0 0])] [12] (cA Try.f66 [true,true,false,true,true]) (cB Try.f66 [true,true,false,true,true]) .busy none],72⟩) (by simp only [List.length_set]) ?_
       refine rgd ?_
       refine ⟨_,wk_refl,?_⟩
       refine wg [1,3,4,5,16,17,36,37,38] [] (rn ?_)
       cases h
       exact ⟨_,rfl,(wk_gc (live:=[1,3,4,5,16,17,36,37,38]) (keep:=[]) kr)⟩
      refine wcF (wg [1,3,4,16,17] [] ?_)
      refine wp_exit ?_
      cases h
      exact ⟨kr,rfl⟩
     intro x43 h out hx
     subst hx
     refine rn ?_
     cases h
     exact ⟨_,rfl,(wk_gc (live:=[1,3,4,16,17]) (keep:=[]) kr)⟩
    refine wcF (wg [] [] ?_)
    refine wp_exit ?_
    cases h
    exact ⟨kr,rfl⟩
   intro x45 h out hx
   subst hx
   refine ⟨⟨[(0,.yld 5),(3,vI s9.1),(8,vI s9.1),(9,vB true),(12,.yld 5),(13,vI s9.1),(14,vB true)],[oX true false 5 (.agg [vI p0.Hidden.Grain,z1 p0.Hidden.First,z2 p0.Hidden.Step,z2 p0.Hidden.Show,z1 p0.seen]),oX false false 1 (.ref 3 0 x45.length),oX true false 5 (.agg [vI p0.Hidden.Grain,z1 p0.Hidden.First,z2 p0.Hidden.Step,z2 p0.Hidden.Show,z1 p0.seen]),.refs 4 (eF eI x45),.fam 1 true (eF eI x45),.loop 72 [(1,.ptr 0 0 0),(3,.ptr 1 0 0),(11,.fn (.func 118) [] [.ptr 2 0 0])] [12] (cA Try.f66 [true,true,false,true,true]) (cB Try.f66 [true,true,false,true,true]) .ready none],16⟩,by as_aux_lemma=>kernel_rfl,?_⟩
   refine sz 1 4 (reg_end rfl ?_)
   refine ⟨_,wk_refl,?_⟩
   refine wcF (wp_skip (wg [0,3] [] (rn ?_)))
   cases h
   exact ⟨_,rfl,(wk_gc (live:=[0,3]) (keep:=[]) kr)⟩
  refine wcF (wg [] [] ?_)
  refine wp_exit ?_
  cases h
  exact ⟨kr,rfl⟩
 intro x47 h out hx
 subst hx
 refine ⟨.go .normal ⟨[(1,.ptr 0 0 0),(3,.ptr 1 0 0),(11,.fn (.func 118) [] [.ptr 2 0 0])],[oX true false 5 (.agg [vI p0.Hidden.Grain,z1 p0.Hidden.First,z2 p0.Hidden.Step,z2 p0.Hidden.Show,z1 p0.seen]),oX false false 1 (.ref 3 0 x47.length),oX true false 5 (.agg [vI p0.Hidden.Grain,z1 p0.Hidden.First,z2 p0.Hidden.Step,z2 p0.Hidden.Show,z1 p0.seen]),.refs 4 (eF eI x47),.fam 1 true (eF eI x47),.dead],72⟩,by as_aux_lemma=>kernel_rfl,?_⟩
 refine wp_seq ?_
 refine wp_post ?_
 refine rn ?_
 refine ⟨_,wk_refl,?_⟩
 refine wgc [2] [3,4] ⟨[(2,.ref 0 0 x47.length)],[.refs 1 (eF eI x47),.fam 1 true (eF eI x47)],72⟩ ?_
 refine wp_wk (wk_frzF 0 1 (enc:=eI) (ls:=x47) (st':=⟨[(2,.ref 0 0 x47.length)],[oR false 1 z1 x47,.dead],72⟩) rfl rfl kr) ?_
 cases h
 exact wp_ret (show fnOut _ _ _ _=_ from by kernel_rfl)
theorem g_hidden_Backward_ok (p0:Tapi_Hidden) (p1:(List Int)) (x:((List (List Int)) × Int)) (h:g_hidden_Backward p0 p1=some x):CallOk Try.prog 56 [.agg [vI p0.Grain,z1 p0.First,z2 p0.Step,z2 p0.Show],z1 p1] (.ret (.tup [.ref 0 0 x.1.length,vI x.2]) [oR false 1 z1 x.1]):=by
 refine fn_ok [] Try.func56 rfl (by decide +kernel) rfl ?_
 unfold g_hidden_Backward at h
 refine wp_eqB (base':=0) (st':=⟨[(0,.agg [vI p0.Grain,z1 p0.First,z2 p0.Step,z2 p0.Show]),(1,z1 p1)],[],19⟩) kr kr ?_
 refine wp_seq (reg_in ?_)
 refine sgL false [] [] false gE ?_
 refine sz 2 3 (reg_end rfl (wp_seq (reg_in (sz 2 2 ?_))))
 refine callW bodyB_62 (g_hidden_newWatcher_ok p0 p1) h (fun x1 _ h=>?_)
 refine sz 3 6 ?_
 refine sgL false [] [] false gE ?_
 refine sz 2 9 (reg_end rfl (wp_seq (wp_seq ?_)))
 refine wgc [6,7] [1] ⟨[(6,.ptr 0 0 0),(7,vI x1.2)],[oX true false 5 (.agg [vI x1.1.Hidden.Grain,z1 x1.1.Hidden.First,z2 x1.1.Hidden.Step,z2 x1.1.Hidden.Show,z1 x1.1.seen])],19⟩ ?_
 refine rn ?_
 refine wb [15] h (fun q4 h=>?_) (fun q4 h=>?_)
 ·refine wcT (sq (wg [4,5] [] ?_))
  refine wp_wk (wk_nil 4 1 true false gE) ?_
  cases h
  exact wp_ret (show fnOut _ _ _ _=_ from by kernel_rfl)
 refine wcF (wp_skip (wp_seq (reg_in (sz 1 1 ?_))))
 refine callW bodyB_66 (g_hidden_watcher_backward_ok x1.1) h (fun x5 _ h=>?_)
 refine sz 2 4 (reg_end rfl (wg [4,5] [1] ?_))
 cases h
 exact wp_ret (show fnOut _ _ _ _=_ from by kernel_rfl)
theorem g_path_States_ok (p0:Tapi_Hidden) (p1:(List Int)) (x:((List Int) × Int)) (h:g_path_States p0 p1=some x):CallOk Try.prog 23 [.agg [vI p0.Grain,z1 p0.First,z2 p0.Step,z2 p0.Show],z1 p1] (.ret (.tup [.ref 0 0 x.1.length,vI x.2]) [oR true 1 eI x.1]):=by
 refine fn_ok [] Try.func23 rfl (by decide +kernel) rfl ?_
 unfold g_path_States at h
 refine wp_eqB (base':=0) (st':=⟨[(0,.agg [vI p0.Grain,z1 p0.First,z2 p0.Step,z2 p0.Show]),(1,z1 p1)],[],90⟩) kr kr ?_
 refine wp_seq (reg_in ?_)
 refine sgL false [] [] false gE ?_
 refine sz 2 3 (reg_end rfl (wp_seq (reg_in (sz 2 2 ?_))))
 refine callW bodyB_35 (g_path_newSearcher_ok p0 p1) h (fun x1 _ h=>?_)
 refine sz 3 6 ?_
 refine sgL false [] [] false gE ?_
 refine sz 2 9 (reg_end rfl (wp_seq (wp_seq ?_)))
 refine wgc [1,2,6,7] [0,1] ⟨[(1,z1 p1),(2,.ptr 0 0 0),(6,.ptr 1 0 0),(7,vI x1.2)],[oX true false 4 (.agg [vI p0.Grain,z1 p0.First,z2 p0.Step,z2 p0.Show]),oX true false 5 (.agg [vI x1.1.Hidden.Grain,z1 x1.1.Hidden.First,z2 x1.1.Hidden.Step,z2 x1.1.Hidden.Show,z1 x1.1.seen])],90⟩ ?_
 refine rn ?_
 refine wb [23] h (fun q4 h=>?_) (fun q4 h=>?_)
 ·refine wcT (wp_seq (wg [7] [] (rn (wg [4,5] [] ?_))))
  refine wp_wk (wk_nil 4 1 true true gE) ?_
  cases h
  exact wp_ret (show fnOut _ _ _ _=_ from by kernel_rfl)
 refine wcF (wp_skip (wp_seq (wp_seq (reg_in (sz 1 1 ?_)))))
 refine callW bodyB_55 (g_path_searcher_total_ok x1.1) h (fun x5 _ h=>?_)
 refine sz 1 3 (reg_end rfl ?_)
 refine wbz h (fun q8 h=>?_) (fun q8 h=>?_)
 ·refine wp_seq (wg [] [] (rn ?_))
  refine wgc [4,5] [] ⟨[(4,.nils),(5,vI 7)],[],90⟩ ?_
  refine wp_wk (wk_nil 4 1 true true gE) ?_
  cases h
  exact wp_ret (show fnOut _ _ _ _=_ from by kernel_rfl)
 refine wp_skip (wp_seq (wg [1,2] [0] (reg_in (sz 2 2 ?_))))
 refine callW bodyB_27 (g_hidden_Forward_ok p0 p1) h (fun x9 _ h=>?_)
 refine sz 5 8 (reg_end rfl (wp_seq (wp_seq ?_)))
 refine wgc [1,2,8,7] [0,1] ⟨[(1,z1 p1),(2,.ptr 0 0 0),(8,.ref 1 0 x9.1.length),(7,vI x9.2)],[oX true false 4 (.agg [vI p0.Grain,z1 p0.First,z2 p0.Step,z2 p0.Show]),oR false 1 z1 x9.1],90⟩ ?_
 refine rn ?_
 refine wb [35] h (fun q12 h=>?_) (fun q12 h=>?_)
 ·refine wcT (wp_seq (wg [7] [] (rn (wg [4,5] [] ?_))))
  refine wp_wk (wk_nil 4 1 true true gE) ?_
  cases h
  exact wp_ret (show fnOut _ _ _ _=_ from by kernel_rfl)
 refine wcF (wp_skip (wp_seq (reg_in (sz 2 2 ?_))))
 refine callW bodyB_56 (g_hidden_Backward_ok p0 p1) h (fun x13 _ h=>?_)
 refine sz 5 8 (reg_end rfl (wp_seq (wp_seq ?_)))
 refine wgc [1,8,7,9] [1,2] ⟨[(1,z1 p1),(8,.ref 0 0 x9.1.length),(7,vI x13.2),(9,.ref 1 0 x13.1.length)],[oR false 1 z1 x9.1,oR false 1 z1 x13.1],90⟩ ?_
 refine rn ?_
 refine wb [44] h (fun q16 h=>?_) (fun q16 h=>?_)
 ·refine wcT (wp_seq (wg [7] [] (rn (wg [4,5] [] ?_))))
  refine wp_wk (wk_nil 4 1 true true gE) ?_
  cases h
  exact wp_ret (show fnOut _ _ _ _=_ from by kernel_rfl)
 refine wcF (wp_skip (wp_seq (reg_in (sz 1 1 ?_))))
 refine lenL (enc:=eI) (l:=p1) (fl:=true) kr gE ?_
 refine mkL (enc:=eI) (z:=(0:Int)) (z0:=vI 0) (n:=(zn p1)) (m:=(zn p1)) (w:=1) (bytes:=8) [] true kr rfl gE kr h (fun h=>?_)
 refine sz 1 4 (reg_end rfl (wp_seq (wp_seq (wg [8,9,10] [0,1,2] (rn (wp_block ?_))))))
 refine wwh h (fun s17=>⟨[(9,.ref 0 0 x13.1.length),(10,.ref 1 0 s17.2.length),(49,.ref 2 0 x9.1.length),(50,vI (zn x9.1)),(51,vI s17.1)],[oR false 1 z1 x13.1,oR true 1 eI s17.2,oR false 1 z1 x9.1],90⟩) (fun v out=>out=.go (.exit 0) ⟨[(10,.ref 0 0 v.length)],[oR true 1 eI v],90⟩) (wk_gc (live:=[9,10,49,50,51]) (keep:=[1,2,0]) kr) ?_ ?_
 ·intro s17 o h
  unfold g_path_States_b1 at h
  refine sq (wp_seq ?_)
  refine wb [52] h (fun q19 h=>?_) (fun q19 h=>?_)
  ·refine wcT (wp_skip (wp_seq (wp_block (wp_seq (reg_in (sz 1 1 ?_))))))
   refine bind_elim h (fun a20 q21 h=>?_)
   refine idxR' (enc:=z1) (l:=x9.1) (n:=s17.1) (w:=1) (ob:=2) (ro:=false) (nr:=true) (fl:=false) (a:=a20) kr kr gE q21 ?_
   refine loadR (enc:=z1) (l:=x9.1) (n:=s17.1) (w:=1) (ob:=2) (c:=0) (bx:=false) (ro:=false) (nr:=true) (fl:=false) (a:=a20) kr kr q21 gE ?_
   refine sz 2 5 (reg_end rfl (sq (wp_seq (reg_in (sz 1 1 ?_)))))
   refine lenL (enc:=eI) (l:=a20) (fl:=true) kr gE ?_
   refine sz 1 3 (reg_end rfl (wp_block ?_))
   refine wwh h (fun s22=>⟨[(9,.ref 0 0 x13.1.length),(10,.ref 1 0 s22.2.2.length),(11,vI s17.1),(13,vI s22.1),(49,.ref 2 0 x9.1.length),(50,vI (zn x9.1)),(51,vI s17.1),(56,z1 a20),(57,vI (zn a20)),(58,vI s22.2.1)],[oR false 1 z1 x13.1,oR true 1 eI s22.2.2,oR false 1 z1 x9.1],90⟩) (fun v out=>out=.go (.exit 2) ⟨[(9,.ref 0 0 x13.1.length),(10,.ref 1 0 v.length),(49,.ref 2 0 x9.1.length),(50,vI (zn x9.1)),(51,vI s17.1)],[oR false 1 z1 x13.1,oR true 1 eI v,oR false 1 z1 x9.1],90⟩) (wk_gc (live:=[9,10,11,13,49,50,51,56,57,58]) (keep:=[0,1,2]) kr) ?_ ?_
   ·intro s22 o h
    unfold g_path_States_b0 at h
    refine sq (wp_seq ?_)
    refine wb [59] h (fun q24 h=>?_) (fun q24 h=>?_)
    ·refine wcT (wp_skip (wp_seq (wp_block (wp_seq (reg_in (sz 1 1 ?_))))))
     refine bind_elim h (fun a25 q26 h=>?_)
     refine idxL' (enc:=eI) (l:=a20) (n:=s22.2.1) (fl:=true) (w:=1) (a:=a25) kr rfl gE q26 ?_
     refine sz 3 5 (reg_end rfl (wp_seq (reg_in (sz 3 3 ?_))))
     refine bind_elim h (fun a27 q28 h=>?_)
     refine idxR' (enc:=z1) (l:=x13.1) (n:=s17.1) (w:=1) (ob:=0) (ro:=false) (nr:=true) (fl:=false) (a:=a27) kr kr gE q28 ?_
     refine loadR (enc:=z1) (l:=x13.1) (n:=s17.1) (w:=1) (ob:=0) (c:=0) (bx:=false) (ro:=false) (nr:=true) (fl:=false) (a:=a27) kr kr q28 gE ?_
     refine sz 1 6 ?_
     refine bind_elim h (fun a29 q30 h=>?_)
     refine idxL' (enc:=eI) (l:=a27) (n:=s22.2.1) (fl:=true) (w:=1) (a:=a29) kr rfl gE q30 ?_
     refine sz 4 11 (reg_end rfl ?_)
     refine wbz h (fun q32 h=>?_) (fun q32 h=>?_)
     ·refine wgc [9,10,11,49,50,51,56,57,58,14,15] [0,1,2] ⟨[(9,.ref 0 0 x13.1.length),(10,.ref 1 0 s22.2.2.length),(11,vI s17.1),(49,.ref 2 0 x9.1.length),(50,vI (zn x9.1)),(51,vI s17.1),(56,z1 a20),(57,vI (zn a20)),(58,vI s22.2.1),(14,vI s22.2.1),(15,vI a25)],[oR false 1 z1 x13.1,oR true 1 eI s22.2.2,oR false 1 z1 x9.1],90⟩ ?_
      refine reg_in (sz 6 6 ?_)
      refine idxR' (enc:=z1) (l:=x13.1) (n:=s17.1) (w:=1) (ob:=0) (ro:=false) (nr:=true) (fl:=false) (a:=a27) kr kr gE q28 ?_
      refine loadR (enc:=z1) (l:=x13.1) (n:=s17.1) (w:=1) (ob:=0) (c:=0) (bx:=false) (ro:=false) (nr:=true) (fl:=false) (a:=a27) kr kr q28 gE ?_
      refine sz 1 9 ?_
      refine idxL' (enc:=eI) (l:=a27) (n:=s22.2.1) (fl:=true) (w:=1) (a:=a29) kr rfl gE q30 ?_
      refine sz 2 12 ?_
      refine bind_elim h (fun a33 q34 h=>?_)
      refine idxR' (enc:=eI) (l:=s22.2.2) (n:=s17.1) (w:=1) (ob:=1) (ro:=false) (nr:=true) (fl:=true) (a:=a33) kr kr gE q34 ?_
      refine storeR (enc:=eI) (l:=s22.2.2) (n:=s17.1) (ob:=1) (w:=1) (bx:=false) (nr:=true) (fl:=true) (c:=0) (a:=a33) (a':=s22.2.1) (v:=vI s22.2.1) false kr kr q34 kr rfl kr gE kr ?_
      refine rl [10,74] (n:=s22.2.2.length) (m:=(List.set s22.2.2 (zt s17.1) s22.2.1).length) (by simp only [List.length_set]) ?_
      refine sz 1 15 (reg_end rfl ?_)
      refine wgc [9,10,11,49,50,51,56,57,58,13] [0,1,2] ⟨[(9,.ref 0 0 x13.1.length),(10,.ref 1 0 ((List.set s22.2.2 (zt s17.1) s22.2.1).length)),(11,vI s17.1),(49,.ref 2 0 x9.1.length),(50,vI (zn x9.1)),(51,vI s17.1),(56,z1 a20),(57,vI (zn a20)),(58,vI s22.2.1),(13,vI (zw (a25*a29)))],[oR false 1 z1 x13.1,oR true 1 eI (List.set s22.2.2 (zt s17.1) s22.2.1),oR false 1 z1 x9.1],90⟩ ?_
      refine rn ?_
      cases h
      exact ⟨_,rfl,(wk_gc (live:=[9,10,11,13,49,50,51,56,57,58]) (keep:=[0,1,2]) kr)⟩
     refine wp_skip ?_
     refine wgc [9,10,11,13,49,50,51,56,57,58] [0,1,2] ⟨[(9,.ref 0 0 x13.1.length),(10,.ref 1 0 s22.2.2.length),(11,vI s17.1),(13,vI s22.1),(49,.ref 2 0 x9.1.length),(50,vI (zn x9.1)),(51,vI s17.1),(56,z1 a20),(57,vI (zn a20)),(58,vI s22.2.1)],[oR false 1 z1 x13.1,oR true 1 eI s22.2.2,oR false 1 z1 x9.1],90⟩ ?_
     refine rn ?_
     cases h
     exact ⟨_,rfl,(wk_gc (live:=[9,10,11,13,49,50,51,56,57,58]) (keep:=[0,1,2]) kr)⟩
    refine wcF (wg [9,10,49,50,51] [0,1,2] ?_)
    refine wp_exit ?_
    cases h
    exact ⟨kr,rfl⟩
   intro x37 h out hx
   subst hx
   refine rn ?_
   cases h
   exact ⟨_,rfl,(wk_gc (live:=[9,10,49,50,51]) (keep:=[0,1,2]) kr)⟩
  refine wcF (wg [10] [1] ?_)
  refine wp_exit ?_
  cases h
  exact ⟨kr,rfl⟩
 intro x39 h out hx
 subst hx
 refine sq (wg [4,5] [0] ?_)
 cases h
 exact wp_ret (show fnOut _ _ _ _=_ from by kernel_rfl)
end Go.Ab
