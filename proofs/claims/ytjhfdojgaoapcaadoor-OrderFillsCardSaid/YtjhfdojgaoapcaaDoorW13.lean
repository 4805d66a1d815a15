/- What functions compute. No conditions. -/
import Derived.Test.YtjhfdojgaoapcaaDoorProg
import Derived.Test.YtjhfdojgaoapcaaDoorW10
import Derived.KernelRfl
import Derived.Test.YtjhfdojgaoapcaaDoorW11
import Derived.Test.YtjhfdojgaoapcaaDoorW12
set_option linter.all false
namespace Go.Ab
open Go Go.Proofs
set_option maxRecDepth 100000
set_option maxHeartbeats 4000000
noncomputable abbrev i32_100 (p0:(List Int)):Int:=(zv ((zv (1*2^min (zt (zn p0)) (IntKind.bits .u64))) - 1))
noncomputable abbrev i32_101 (x28:Int):Int:=(zv (1*2^min (zt x28) (IntKind.bits .u64)))
noncomputable abbrev i32_102 (x13:Int):Int:=(zv (1*2^min (zt x13) (IntKind.bits .u64)))
noncomputable abbrev i32_103 (x42:Int):Int:=(zv (1*2^min (zt x42) (IntKind.bits .u64)))
noncomputable abbrev o32_104:AObj:=oX true false 1 (.nils)
noncomputable abbrev o32_105:AObj:=oX true true 1 (vI 0)
noncomputable abbrev o32_106 (p0:(List Int)):AObj:=oX true false 1 (eL true (AV.int .u64) p0)
noncomputable abbrev o32_107 (p0:(List Int)):AObj:=oX true true 1 (.int .u64 (i32_100 p0))
noncomputable abbrev o32_108:AObj:=oX false false 1 (.mp 5)
noncomputable abbrev o32_109:AObj:=oX false false 1 (.fn (.func 67) [] [.ptr 4 0 0,.ptr 0 0 0,.ptr 3 0 0,.ptr 6 0 0])
noncomputable abbrev o32_110 (p0:(List Int)):AObj:=oX true true 1 (vI (zn p0))
noncomputable abbrev o32_111:AObj:=.loop 43 [(1,.ptr 4 0 0),(2,.ptr 0 0 0),(3,.ptr 3 0 0),(4,.ptr 6 0 0),(5,.ptr 7 0 0),(9,.ptr 8 0 0),(22,.fn (.func 85) [] [.ptr 9 0 0])] [23] (cA Tryd.f67 [true,true,true,false,true,true]) (cB Tryd.f67 [true,true,true,false,true,true]) .ready none
noncomputable abbrev o32_112:AObj:=.loop 43 [(1,.ptr 4 0 0),(2,.ptr 0 0 0),(3,.ptr 3 0 0),(4,.ptr 6 0 0),(5,.ptr 7 0 0),(9,.ptr 8 0 0),(22,.fn (.func 85) [] [.ptr 9 0 0])] [23] (cA Tryd.f67 [true,true,true,false,true,true]) (cB Tryd.f67 [true,true,true,false,true,true]) .busy none
noncomputable abbrev o32_113 (x20:(Int × (List (Int × Int)))):AObj:=oX true true 1 (vI x20.1)
noncomputable abbrev o32_114:AObj:=oX false false 1 (.fn (.func 67) [] [.ptr 5 0 0,.ptr 0 0 0,.ptr 3 0 0,.ptr 4 0 0])
noncomputable abbrev o32_115:AObj:=oX false false 1 (.fn (.func 67) [] [.ptr 7 0 0,.ptr 0 0 0,.ptr 3 0 0,.ptr 4 0 0])
noncomputable abbrev o32_116:AObj:=oX false false 1 (.fn (.func 67) [] [.ptr 6 0 0,.ptr 0 0 0,.ptr 3 0 0,.ptr 4 0 0])
noncomputable abbrev o32_117:AObj:=oX false false 1 (.fn (.func 67) [] [.ptr 8 0 0,.ptr 0 0 0,.ptr 3 0 0,.ptr 4 0 0])
noncomputable abbrev o32_118:AObj:=oX false false 1 (.mp 9)
noncomputable abbrev o32_119:AObj:=.loop 60 [(1,.ptr 0 0 0),(2,.ptr 1 0 0),(3,.ptr 2 0 0),(6,.ptr 3 0 0),(8,.ptr 4 0 0),(9,.ptr 5 0 0),(30,.fn (.func 85) [] [.ptr 6 0 0])] [31] (cA Tryd.f31 [true,true,true,true,true,true,true,true,true,true,false,true,true,true,true,false,true,true]) (cB Tryd.f31 [true,true,true,true,true,true,true,true,true,true,false,true,true,true,true,false,true,true]) .ready none
noncomputable abbrev o32_120:AObj:=.loop 60 [(1,.ptr 0 0 0),(2,.ptr 1 0 0),(3,.ptr 2 0 0),(6,.ptr 3 0 0),(8,.ptr 4 0 0),(9,.ptr 5 0 0),(30,.fn (.func 85) [] [.ptr 6 0 0])] [31] (cA Tryd.f31 [true,true,true,true,true,true,true,true,true,true,false,true,true,true,true,false,true,true]) (cB Tryd.f31 [true,true,true,true,true,true,true,true,true,true,false,true,true,true,true,false,true,true]) .done (some (.exit 1))
noncomputable abbrev o32_121:AObj:=.loop 60 [(1,.ptr 0 0 0),(2,.ptr 1 0 0),(3,.ptr 2 0 0),(6,.ptr 3 0 0),(8,.ptr 4 0 0),(9,.ptr 5 0 0),(30,.fn (.func 85) [] [.ptr 6 0 0])] [31] (cA Tryd.f31 [true,true,true,true,true,true,true,true,true,true,false,true,true,true,true,false,true,true]) (cB Tryd.f31 [true,true,true,true,true,true,true,true,true,true,false,true,true,true,true,false,true,true]) .busy none
noncomputable abbrev o32_122:AObj:=.loop 43 [(1,.ptr 8 0 0),(2,.ptr 0 0 0),(3,.ptr 3 0 0),(4,.ptr 4 0 0),(5,.ptr 11 0 0),(9,.ptr 12 0 0),(22,.fn (.func 85) [] [.ptr 13 0 0])] [23] (cA Tryd.f67 [true,true,true,false,true,true]) (cB Tryd.f67 [true,true,true,false,true,true]) .ready none
noncomputable abbrev o32_123:AObj:=.loop 43 [(1,.ptr 8 0 0),(2,.ptr 0 0 0),(3,.ptr 3 0 0),(4,.ptr 4 0 0),(5,.ptr 11 0 0),(9,.ptr 12 0 0),(22,.fn (.func 85) [] [.ptr 13 0 0])] [23] (cA Tryd.f67 [true,true,true,false,true,true]) (cB Tryd.f67 [true,true,true,false,true,true]) .busy none
noncomputable abbrev e32_124:Nat×AV:=(2,.ptr 0 0 0)
noncomputable abbrev e32_125:Nat×AV:=(1,.ptr 0 0 0)
noncomputable abbrev e32_126:Nat×AV:=(2,.ptr 1 0 0)
noncomputable abbrev e32_127:Nat×AV:=(3,.ptr 2 0 0)
noncomputable abbrev e32_128:Nat×AV:=(6,.ptr 3 0 0)
noncomputable abbrev e32_129:Nat×AV:=(22,.fn (.func 67) [] [.ptr 4 0 0,.ptr 0 0 0,.ptr 3 0 0,.ptr 6 0 0])
noncomputable abbrev e32_130:Nat×AV:=(23,.fn (.func 67) [] [.ptr 4 0 0,.ptr 0 0 0,.ptr 3 0 0,.ptr 6 0 0])
noncomputable abbrev e32_131:Nat×AV:=(1,.ptr 4 0 0)
noncomputable abbrev e32_132:Nat×AV:=(3,.ptr 3 0 0)
noncomputable abbrev e32_133:Nat×AV:=(4,.ptr 6 0 0)
noncomputable abbrev e32_134:Nat×AV:=(5,.ptr 7 0 0)
noncomputable abbrev e32_135:Nat×AV:=(2,.fn (.func 85) [] [.ptr 9 0 0])
noncomputable abbrev e32_136:Nat×AV:=(22,.fn (.func 85) [] [.ptr 9 0 0])
noncomputable abbrev e32_137:Nat×AV:=(8,.ptr 4 0 0)
noncomputable abbrev e32_138:Nat×AV:=(9,.ptr 5 0 0)
noncomputable abbrev e32_139:Nat×AV:=(30,.fn (.func 85) [] [.ptr 6 0 0])
noncomputable abbrev e32_140:Nat×AV:=(41,.fn (.func 67) [] [.ptr 8 0 0,.ptr 0 0 0,.ptr 3 0 0,.ptr 4 0 0])
noncomputable abbrev e32_141:Nat×AV:=(1,.ptr 8 0 0)
noncomputable abbrev e32_142:Nat×AV:=(4,.ptr 4 0 0)
noncomputable abbrev e32_143:Nat×AV:=(5,.ptr 11 0 0)
noncomputable abbrev e32_144:Nat×AV:=(22,.fn (.func 85) [] [.ptr 13 0 0])
noncomputable abbrev l32_145 (a0 a1 a2 a3:AObj) (p0:(List Int)) (x20:(Int × (List (Int × Int)))):List AObj:=[(o32_106 p0),a0,(o32_113 x20),(o32_107 p0),o32_117,a1,a2,a3,o32_118]
noncomputable abbrev l32_146 (a0:AObj) (p0:(List Int)):List AObj:=[(o32_106 p0),o32_104,o32_105,(o32_107 p0),o32_108,a0,o32_109]
noncomputable abbrev l32_147 (a0:AObj) (p0:(List Int)) (x20:(Int × (List (Int × Int)))):List AObj:=[(o32_106 p0),a0,(o32_113 x20),(o32_107 p0)]
noncomputable abbrev s32_148:List (Nat×AV):=[e32_125,e32_126,e32_127,e32_128,e32_137,e32_138]
noncomputable abbrev s32_149:List (Nat×AV):=[e32_141,e32_124,e32_132,e32_142,e32_143,(9,.ptr 12 0 0)]
noncomputable abbrev s32_150:List (Nat×AV):=[e32_131,e32_124,e32_132,e32_133,e32_134,(9,.ptr 8 0 0)]
noncomputable abbrev s32_151 (p0:(List Int)):List (Nat×AV):=[e32_125,e32_126,e32_127,e32_128,(7,.ptr 4 0 0),(8,.ptr 6 0 0),e32_129,e32_130,(24,.int .u64 (i32_100 p0))]
noncomputable abbrev s32_152 (p0:(List Int)):List (Nat×AV):=[e32_125,e32_126,e32_127,(16,eL true (AV.int .u64) p0),(17,vI (zn p0)),(18,.int .u64 (zv (1*2^min (zt (zn p0)) (IntKind.bits .u64)))),(19,.int .u64 (i32_100 p0)),e32_128,(20,.mp 4)]
theorem g_order_Best_ok (p0:(List Int)) (x:((List Int) × Int × Int)) (h:g_order_Best p0=some x):CallOk Tryd.prog 31 [eL true (AV.int .u64) p0] (.ret (.tup [.ref 0 0 x.1.length,vI x.2.1,vI x.2.2]) [oR true 1 eI x.1]):=by
 refine fn_ok [] Tryd.func31 rfl (by decide +kernel) rfl ?_
 unfold g_order_Best at h
 refine wp_eqB (base':=0) (st':=⟨[(0,eL true (AV.int .u64) p0)],[],60⟩) kr kr ?_
 refine wp_seq (reg_in ?_)
 refine sgL false [] [] false gE ?_
 refine sgL false [] [] false gE ?_
 refine sz 2 4 (reg_end rfl ?_)
 refine wp_scope ?_
 refine wp_seq (wp_seq (reg_in (sz 1 1 ?_)))
 refine callW bodyB_14 (g_order_Check_ok p0) h (fun x1 _ h=>?_)
 refine sz 1 3 (reg_end rfl (sq ?_))
 refine wbz h (fun q4 h=>?_) (fun q4 h=>?_)
 ·refine wp_seq ?_
  refine wgc [2,3,5] [1,2] ⟨[e32_124,(3,.ptr 1 0 0),(5,vI x1)],[o32_104,o32_105],60⟩ ?_
  refine rn (wg [2,3,4] [0,1] ?_)
  refine wp_wk (wk_nilO 0 0 0 1 true true gE) ?_
  cases h
  exact wp_ret (show fnOut _ _ _ _=_ from by kernel_rfl)
 refine wp_skip (wp_seq ?_)
 refine wgc [1,2,3] [0,1,2] ⟨[e32_125,e32_126,e32_127],[(o32_106 p0),o32_104,o32_105],60⟩ ?_
 refine reg_in (sz 1 1 ?_)
 refine lenL (enc:=(AV.int .u64)) (l:=p0) (fl:=true) kr gE ?_
 refine shlR (k:=.u64) (k':=.i64) (a:=1) (b:=(zn p0)) kr gE h (fun h=>?_)
 refine sz 3 6 (reg_end rfl (wp_seq (reg_in ?_)))
 refine sgz 1 1 (S:=⟨(s32_152 p0),[(o32_106 p0),o32_104,o32_105,(o32_107 p0),mapI .u64 eI []],60⟩) ?_
 refine updM (ob:=4) (kk:=.u64) (enc:=eI) (l:=[]) (n:=0) (v:=0) kr kr gE kr ?_
 refine sz 1 3 ?_
 refine sgL false [] [] false gE ?_
 refine sgz 1 5 (S:=⟨(s32_152 p0)++[(21,.mp 4),(7,.ptr 5 0 0)],[(o32_106 p0),o32_104,o32_105,(o32_107 p0),mapI .u64 eI (mput [] (0:Int) (0:Int)),oX false false 1 (.mp 4)],60⟩) ?_
 refine reg_end rfl (wp_seq ?_)
 refine wp_wk (wk_gcM (live:=[1,2,3,6,7]) (keep:=[0,1,2,3,5,4]) 4 .u64 eI (mput [] (0:Int) (0:Int)) (fun f a=>rfl) kr (st':=⟨[e32_125,e32_126,e32_127,e32_128,(7,.ptr 4 0 0)],[(o32_106 p0),o32_104,o32_105,(o32_107 p0),o32_108,mapI .u64 eI (mput [] (0:Int) (0:Int))],60⟩) kr) ?_
 refine reg_in ?_
 refine sgL false [] [] false gE ?_
 refine reg_end rfl (sq (wp_seq (reg_in ?_)))
 refine sgz 2 2 (S:=⟨(s32_151 p0),(l32_146 (mapI .u64 eI (mput [] (0:Int) (0:Int))) p0),60⟩) ?_
 refine recR (f:=67) (fn:=Tryd.f67) (as0:=[.int .u64 (i32_100 p0),.ptr 4 0 0,.ptr 0 0 0,.ptr 3 0 0,.ptr 6 0 0]) (N:=7) (I:=fun s5=>⟨[(0,.int .u64 s5.1),e32_131,e32_124,e32_132,e32_133],(l32_146 (mapI .u64 eI s5.2) p0),43⟩) (E:=fun v=>⟨[(6,vI v.1)],(l32_146 (mapI .u64 eI v.2) p0),43⟩) (F:=(g_order_Best_r1 p0)) (zv ((zv (1*2^min (zt (zn p0)) (IntKind.bits .u64))) - 1),mput [] (0:Int) (0:Int)) kr Tryd.func67 rfl (by decide +kernel) rfl kr rfl h ?_ (fun x20 h=>?_)
 ·intro r6 i7 s5 y21 h
  unfold g_order_Best_r1 at h
  refine wp_post ?_
  refine sq (wp_seq (wp_seq (reg_in ?_)))
  refine sgz 2 2 (S:=⟨[(0,.int .u64 s5.1),e32_131,e32_124,e32_132,e32_133,e32_134,(6,vI 0),(12,.mp 5),(13,.int .u64 s5.1)],(l32_146 (mapI .u64 eI s5.2) p0)++[oX true true 1 (.int .u64 s5.1)],43⟩) ?_
  refine lookM (ob:=5) (c:=true) (kk:=.u64) (enc:=eI) (l:=s5.2) (n:=s5.1) (z:=0) kr kr (fun _=>rfl) gE ?_
  refine sgz 5 8 (S:=⟨[(0,.int .u64 s5.1),e32_131,e32_124,e32_132,e32_133,e32_134,(6,vI 0),(12,.mp 5),(13,.int .u64 s5.1),(14,.tup [vI ((mget s5.2 s5.1).getD 0),vB ((mget s5.2 s5.1).isSome)]),(11,.tup [vI ((mget s5.2 s5.1).getD 0),vB ((mget s5.2 s5.1).isSome)]),(15,vI ((mget s5.2 s5.1).getD 0)),(16,vB ((mget s5.2 s5.1).isSome)),(7,vI ((mget s5.2 s5.1).getD 0)),(8,vB ((mget s5.2 s5.1).isSome))],(l32_146 (mapI .u64 eI s5.2) p0)++[oX true true 1 (.int .u64 s5.1)],43⟩) ?_
  refine reg_end rfl (wp_seq ?_)
  refine wp_wk (wk_gcM (live:=[1,2,3,4,5,7,8]) (keep:=[7]) 5 .u64 eI s5.2 (fun f a=>rfl) kr (st':=⟨[e32_131,e32_124,e32_132,e32_133,e32_134,(7,vI ((mget s5.2 s5.1).getD 0)),(8,vB ((mget s5.2 s5.1).isSome))],(l32_146 (mapI .u64 eI s5.2) p0)++[oX true true 1 (.int .u64 s5.1)],43⟩) kr) ?_
  refine rn ?_
  refine wbr (S:=fun b8=>⟨[e32_131,e32_124,e32_132,e32_133,e32_134,(7,vI ((mget s5.2 s5.1).getD 0)),(8,vB b8),(17,vB b8)],(l32_146 (mapI .u64 eI s5.2) p0)++[oX true true 1 (.int .u64 s5.1)],43⟩) h (fun q9 h=>?_) (fun q9 h=>?_)
  ·refine wcT (wp_seq ?_)
   refine wp_wk (wk_gcM (live:=[7]) (keep:=[]) 5 .u64 eI s5.2 (fun f a=>rfl) kr (st':=⟨[(7,vI ((mget s5.2 s5.1).getD 0))],(l32_146 (mapI .u64 eI s5.2) p0),43⟩) kr) ?_
   refine rgN (S:=⟨[(7,vI ((mget s5.2 s5.1).getD 0)),(18,vI ((mget s5.2 s5.1).getD 0)),(6,vI ((mget s5.2 s5.1).getD 0))],(l32_146 (mapI .u64 eI s5.2) p0),43⟩) ?_
   refine wp_wk (wk_gcM (live:=[6]) (keep:=[]) 5 .u64 eI s5.2 (fun f a=>rfl) kr (st':=⟨[(6,vI ((mget s5.2 s5.1).getD 0))],(l32_146 (mapI .u64 eI s5.2) p0),43⟩) kr) ?_
   refine wp_ret ?_
   cases h
   refine ⟨⟨[(6,vI ((mget s5.2 s5.1).getD 0))],(l32_146 (mapI .u64 eI s5.2) p0),43⟩,(wk_gcM (live:=[6]) (keep:=[]) 5 .u64 eI s5.2 (fun f a=>rfl) kr (st':=⟨[(6,vI ((mget s5.2 s5.1).getD 0))],(l32_146 (mapI .u64 eI s5.2) p0),43⟩) (by kernel_rfl)),?_⟩
   exact .inl (by kernel_rfl)
  refine wcF (wp_skip (wp_seq (reg_in (sz 1 1 ?_))))
  refine lenL (enc:=(AV.int .u64)) (l:=p0) (fl:=true) kr gE ?_
  refine sgz 2 4 (S:=⟨[e32_131,e32_124,e32_132,e32_133,e32_134,(7,vI ((mget s5.2 s5.1).getD 0)),(8,vB false),(17,vB false),(19,eL true (AV.int .u64) p0),(20,vI (zn p0)),(9,.ptr 8 0 0)],(l32_146 (mapI .u64 eI s5.2) p0)++[oX true true 1 (.int .u64 s5.1),(o32_110 p0)],43⟩) ?_
  refine reg_end rfl (wp_seq (wp_seq ?_))
  refine wp_wk (wk_gcM (live:=[1,2,3,4,5,9]) (keep:=[7,8]) 5 .u64 eI s5.2 (fun f a=>rfl) kr (st':=⟨s32_150,(l32_146 (mapI .u64 eI s5.2) p0)++[oX true true 1 (.int .u64 s5.1),(o32_110 p0)],43⟩) kr) ?_
  refine reg_in (sz 1 1 ?_)
  refine inlR (f:=68) (fn:=Tryd.f68) (as0:=[.int .u64 s5.1]) kr Tryd.func68 rfl (by decide +kernel) rfl ?_
  refine wp_eqB (base':=9) (st':=⟨[(0,.int .u64 s5.1)],(l32_146 (mapI .u64 eI s5.2) p0)++[oX true true 1 (.int .u64 s5.1),(o32_110 p0)],4⟩) kr kr ?_
  refine sq ?_
  refine sqN (S:=⟨[(0,.int .u64 s5.1),(1,.ptr 9 0 0),e32_135,(3,.fn (.func 85) [] [.ptr 9 0 0])],(l32_146 (mapI .u64 eI s5.2) p0)++[oX true true 1 (.int .u64 s5.1),(o32_110 p0),oX true true 1 (.int .u64 s5.1)],4⟩) ?_
  refine wp_wk (wk_gcM (live:=[2]) (keep:=[9]) 5 .u64 eI s5.2 (fun f a=>rfl) kr (st':=⟨[e32_135],(l32_146 (mapI .u64 eI s5.2) p0)++[oX true true 1 (.int .u64 s5.1),(o32_110 p0),oX true true 1 (.int .u64 s5.1)],4⟩) kr) ?_
  refine wp_ret ?_
  refine ⟨⟨s32_150++[(21,.int .u64 s5.1),e32_136],(l32_146 (mapI .u64 eI s5.2) p0)++[oX true true 1 (.int .u64 s5.1),(o32_110 p0),oX true true 1 (.int .u64 s5.1)],43⟩,by as_aux_lemma=>kernel_rfl,?_⟩
  refine reg_end rfl (wp_block ?_)
  refine wp_wk (wk_gcM (live:=[1,2,3,4,5,9,22]) (keep:=[7,8,9]) 5 .u64 eI s5.2 (fun f a=>rfl) kr (st':=⟨s32_150++[e32_136],(l32_146 (mapI .u64 eI s5.2) p0)++[oX true true 1 (.int .u64 s5.1),(o32_110 p0),oX true true 1 (.int .u64 s5.1)],43⟩) kr) ?_
  refine wp_range (f:=85) (fn:=Tryd.f85) (first:=[]) (caps:=[.ptr 9 0 0]) rfl Tryd.func85 rfl (by decide +kernel) rfl rfl ?_
  refine wp_eqB (base':=11) (st':=⟨[(0,.yld 10),(1,.ptr 9 0 0)],(l32_146 (mapI .u64 eI s5.2) p0)++[oX true true 1 (.int .u64 s5.1),(o32_110 p0),oX true true 1 (.int .u64 s5.1),o32_111],16⟩) kr kr ?_
  refine sqN (S:=⟨[(0,.yld 10),(1,.ptr 9 0 0),(4,.int .u64 s5.1),(3,.int .u64 s5.1)],(l32_146 (mapI .u64 eI s5.2) p0)++[oX true true 1 (.int .u64 s5.1),(o32_110 p0),oX true true 1 (.int .u64 s5.1),o32_111],16⟩) ?_
  refine wp_block ?_
  refine wwh h (fun s10=>⟨[(0,.yld 10),(3,.int .u64 s10.1)],(l32_146 (mapI .u64 eI s10.2.1) p0)++[oX true true 1 (.int .u64 s5.1),oX true true 1 (vI s10.2.2),oX true true 1 (.int .u64 s5.1),o32_111],16⟩) (fun v out=>out=.go (.exit 0) ⟨[],(l32_146 (mapI .u64 eI v.1) p0)++[oX true true 1 (.int .u64 s5.1),oX true true 1 (vI v.2),oX true true 1 (.int .u64 s5.1),o32_111],16⟩) (wk_gcM (live:=[0,3]) (keep:=[]) 5 .u64 eI s5.2 (fun f a=>rfl) kr kr) ?_ ?_
  ·intro s10 o h
   unfold g_order_Best_b0 at h
   refine wp_seq (sq ?_)
   refine wbr (S:=fun b11=>⟨[(0,.yld 10),(3,.int .u64 s10.1),(5,.int .u64 s10.1),(6,vB b11)],(l32_146 (mapI .u64 eI s10.2.1) p0)++[oX true true 1 (.int .u64 s5.1),oX true true 1 (vI s10.2.2),oX true true 1 (.int .u64 s5.1),o32_111],16⟩) h (fun q12 h=>?_) (fun q12 h=>?_)
   ·refine wcT (wp_skip (wp_seq (wp_block (wp_seq (reg_in (sz 2 2 ?_))))))
    refine callW bodyB_86 (g_math_bits_TrailingZeros_ok s10.1) h (fun x13 _ h=>?_)
    refine yldR (l:=10) (nt:=43) (us:=[vI x13]) (sl:=[(1,.ptr 4 0 0),(2,.ptr 0 0 0),(3,.ptr 3 0 0),(4,.ptr 6 0 0),(5,.ptr 7 0 0),(9,.ptr 8 0 0),(22,.fn (.func 85) [] [.ptr 9 0 0])]) (ps:=[23]) (assign:=cA Tryd.f67 [true,true,true,false,true,true]) (body:=cB Tryd.f67 [true,true,true,false,true,true]) (pe:=none) kr kr rfl ?_
    refine wp_eqB (base':=11) (st':=⟨s32_150++[e32_136,(23,vI x13)],(l32_146 (mapI .u64 eI s10.2.1) p0)++[oX true true 1 (.int .u64 s5.1),oX true true 1 (vI s10.2.2),oX true true 1 (.int .u64 s5.1),o32_111],43⟩) kr kr ?_
    refine rn ?_
    refine ⟨⟨s32_150++[e32_136,(23,vI x13),(10,vI x13)],(l32_146 (mapI .u64 eI s10.2.1) p0)++[oX true true 1 (.int .u64 s5.1),oX true true 1 (vI s10.2.2),oX true true 1 (.int .u64 s5.1),o32_112],43⟩,by as_aux_lemma=>kernel_rfl,?_⟩
    refine wp_block (rga hfol (sy 6 6 ?_))
    refine callW bodyB_69 (g_order_late_ok p0 x13 (zv (BitVec.ofInt (IntKind.bits .u64) (i32_100 p0) &&& ~~~ BitVec.ofInt (IntKind.bits .u64) s5.1).toNat)) h (fun x15 _ h=>?_)
    refine sy 3 10 ?_
    refine shlR (k:=.u64) (k':=.i64) (a:=1) (b:=x13) kr gE h (fun h=>?_)
    refine sgy 1 12 (S:=⟨s32_150++[e32_136,(23,vI x13),(10,vI x13),(24,vI s10.2.2),(25,eL true (AV.int .u64) p0),(26,vI x13),(27,.int .u64 (i32_100 p0)),(28,.int .u64 s5.1),(29,.int .u64 (zv (BitVec.ofInt (IntKind.bits .u64) (i32_100 p0) &&& ~~~ BitVec.ofInt (IntKind.bits .u64) s5.1).toNat)),(30,vI x15),(31,.fn (.func 67) [] [.ptr 4 0 0,.ptr 0 0 0,.ptr 3 0 0,.ptr 6 0 0]),(32,.int .u64 s5.1),(33,vI x13),(34,.int .u64 (i32_102 x13)),(35,.int .u64 (zv (BitVec.ofInt (IntKind.bits .u64) s5.1 &&& ~~~ BitVec.ofInt (IntKind.bits .u64) (i32_102 x13)).toNat))],(l32_146 (mapI .u64 eI s10.2.1) p0)++[oX true true 1 (.int .u64 s5.1),oX true true 1 (vI s10.2.2),oX true true 1 (.int .u64 s5.1),o32_112],43⟩) ?_
    refine recH (f:=67) (fn:=Tryd.f67) (N:=7) (as0:=[.int .u64 (zv (BitVec.ofInt (IntKind.bits .u64) s5.1 &&& ~~~ BitVec.ofInt (IntKind.bits .u64) (i32_102 x13)).toNat),.ptr 4 0 0,.ptr 0 0 0,.ptr 3 0 0,.ptr 6 0 0]) (zv (BitVec.ofInt (IntKind.bits .u64) s5.1 &&& ~~~ BitVec.ofInt (IntKind.bits .u64) (i32_102 x13)).toNat,s10.2.1) (fun v=>[(5,mapI .u64 eI v.2)]) (fun x17=>⟨s32_150++[e32_136,(23,vI x13),(10,vI x13),(24,vI s10.2.2),(25,eL true (AV.int .u64) p0),(26,vI x13),(27,.int .u64 (i32_100 p0)),(28,.int .u64 s5.1),(29,.int .u64 (zv (BitVec.ofInt (IntKind.bits .u64) (i32_100 p0) &&& ~~~ BitVec.ofInt (IntKind.bits .u64) s5.1).toNat)),(30,vI x15),(31,.fn (.func 67) [] [.ptr 4 0 0,.ptr 0 0 0,.ptr 3 0 0,.ptr 6 0 0]),(32,.int .u64 s5.1),(33,vI x13),(34,.int .u64 (i32_102 x13)),(35,.int .u64 (zv (BitVec.ofInt (IntKind.bits .u64) s5.1 &&& ~~~ BitVec.ofInt (IntKind.bits .u64) (i32_102 x13)).toNat)),(36,vI x17.1)],(l32_146 (mapI .u64 eI x17.2) p0)++[oX true true 1 (.int .u64 s5.1),oX true true 1 (vI s10.2.2),oX true true 1 (.int .u64 s5.1),o32_112],43⟩) [5] kr Tryd.func67 rfl (by decide +kernel) rfl kr rfl kr kr (ok_map 5 .u64 eI s10.2.1 kr (fun _=>rfl) kr) (fun _=>kr) (fun v=>ok_map 5 .u64 eI v.2 kr (fun _=>rfl) kr) kr (fun _=>kr) (fun _=>rfl) kr i7 h (fun _=>kr) (fun x17 h=>?_)
    refine sy 3 16 (rgd ?_)
    refine ⟨⟨[(0,.yld 10),(3,.int .u64 s10.1),(5,.int .u64 s10.1),(6,vB true),(11,.yld 10),(12,.int .u64 s10.1),(13,vI x13),(14,vB true)],(l32_146 (mapI .u64 eI x17.2) p0)++[oX true true 1 (.int .u64 s5.1),oX true true 1 (vI (if (if x17.1 > x15 then x17.1 else x15) < s10.2.2 then (if x17.1 > x15 then x17.1 else x15) else s10.2.2)),oX true true 1 (.int .u64 s5.1),o32_111],16⟩,by as_aux_lemma=>kernel_rfl,?_⟩
    refine sz 1 5 (reg_end rfl (wcF (wp_skip ?_)))
    refine wp_wk (wk_gcM (live:=[0,3]) (keep:=[]) 5 .u64 eI x17.2 (fun f a=>rfl) kr (st':=⟨[(0,.yld 10),(3,.int .u64 s10.1)],(l32_146 (mapI .u64 eI x17.2) p0)++[oX true true 1 (.int .u64 s5.1),oX true true 1 (vI (if (if x17.1 > x15 then x17.1 else x15) < s10.2.2 then (if x17.1 > x15 then x17.1 else x15) else s10.2.2)),oX true true 1 (.int .u64 s5.1),o32_111],16⟩) kr) ?_
    refine rgN (S:=⟨[(0,.yld 10),(3,.int .u64 (zv (BitVec.ofInt (IntKind.bits .u64) s10.1 &&& BitVec.ofInt (IntKind.bits .u64) (zv (s10.1 - 1))).toNat)),(7,.int .u64 s10.1),(8,.int .u64 s10.1),(9,.int .u64 (zv (s10.1 - 1))),(10,.int .u64 (zv (BitVec.ofInt (IntKind.bits .u64) s10.1 &&& BitVec.ofInt (IntKind.bits .u64) (zv (s10.1 - 1))).toNat))],(l32_146 (mapI .u64 eI x17.2) p0)++[oX true true 1 (.int .u64 s5.1),oX true true 1 (vI (if (if x17.1 > x15 then x17.1 else x15) < s10.2.2 then (if x17.1 > x15 then x17.1 else x15) else s10.2.2)),oX true true 1 (.int .u64 s5.1),o32_111],16⟩) ?_
    cases h
    exact ⟨_,rfl,(wk_gcM (live:=[0,3]) (keep:=[]) 5 .u64 eI x17.2 (fun f a=>rfl) kr kr)⟩
   refine wcF ?_
   refine wp_wk (wk_gcM (live:=[]) (keep:=[]) 5 .u64 eI s10.2.1 (fun f a=>rfl) kr (st':=⟨[],(l32_146 (mapI .u64 eI s10.2.1) p0)++[oX true true 1 (.int .u64 s5.1),oX true true 1 (vI s10.2.2),oX true true 1 (.int .u64 s5.1),o32_111],16⟩) kr) ?_
   refine wp_exit ?_
   cases h
   exact ⟨kr,rfl⟩
  intro x19 h out hx
  subst hx
  refine ⟨.go .normal ⟨s32_150++[e32_136],(l32_146 (mapI .u64 eI x19.1) p0)++[oX true true 1 (.int .u64 s5.1),oX true true 1 (vI x19.2),oX true true 1 (.int .u64 s5.1),.dead],43⟩,by as_aux_lemma=>kernel_rfl,?_⟩
  refine wp_seq (reg_in ?_)
  refine sgz 3 3 (S:=⟨s32_150++[e32_136,(39,.mp 5),(40,.int .u64 s5.1),(41,vI x19.2)],(l32_146 (mapI .u64 eI x19.1) p0)++[oX true true 1 (.int .u64 s5.1),oX true true 1 (vI x19.2),oX true true 1 (.int .u64 s5.1),.dead],43⟩) ?_
  refine updM (ob:=5) (kk:=.u64) (enc:=eI) (l:=x19.1) (n:=s5.1) (v:=x19.2) (S:=⟨s32_150++[e32_136,(39,.mp 5),(40,.int .u64 s5.1),(41,vI x19.2)],(l32_146 (mapI .u64 eI (mput x19.1 s5.1 x19.2)) p0)++[oX true true 1 (.int .u64 s5.1),oX true true 1 (vI x19.2),oX true true 1 (.int .u64 s5.1),.dead],43⟩) kr kr kr kr ?_
  refine reg_end rfl (wp_seq ?_)
  refine wp_wk (wk_gcM (live:=[9]) (keep:=[8]) 5 .u64 eI (mput x19.1 s5.1 x19.2) (fun f a=>rfl) kr (st':=⟨[(9,.ptr 7 0 0)],(l32_146 (mapI .u64 eI (mput x19.1 s5.1 x19.2)) p0)++[oX true true 1 (vI x19.2)],43⟩) kr) ?_
  refine rgN (S:=⟨[(9,.ptr 7 0 0),(42,vI x19.2),(6,vI x19.2)],(l32_146 (mapI .u64 eI (mput x19.1 s5.1 x19.2)) p0)++[oX true true 1 (vI x19.2)],43⟩) ?_
  refine wp_wk (wk_gcM (live:=[6]) (keep:=[]) 5 .u64 eI (mput x19.1 s5.1 x19.2) (fun f a=>rfl) kr (st':=⟨[(6,vI x19.2)],(l32_146 (mapI .u64 eI (mput x19.1 s5.1 x19.2)) p0),43⟩) kr) ?_
  refine wp_ret ?_
  cases h
  refine ⟨⟨[(6,vI x19.2)],(l32_146 (mapI .u64 eI (mput x19.1 s5.1 x19.2)) p0),43⟩,(wk_gcM (live:=[6]) (keep:=[]) 5 .u64 eI (mput x19.1 s5.1 x19.2) (fun f a=>rfl) kr (st':=⟨[(6,vI x19.2)],(l32_146 (mapI .u64 eI (mput x19.1 s5.1 x19.2)) p0),43⟩) (by kernel_rfl)),?_⟩
  exact .inl (by kernel_rfl)
 refine ⟨⟨(s32_151 p0)++[(25,vI x20.1)],(l32_146 (mapI .u64 eI x20.2) p0),60⟩,by as_aux_lemma=>kernel_rfl,?_⟩
 refine sgz 1 4 (S:=⟨(s32_151 p0)++[(25,vI x20.1)],(l32_147 o32_104 p0 x20)++[o32_108,mapI .u64 eI x20.2,o32_109],60⟩) ?_
 refine reg_end rfl (wp_seq ?_)
 refine wp_wk (wk_gcM (live:=[1,2,3,6,8]) (keep:=[0,1,2,3,6,4,5]) 5 .u64 eI x20.2 (fun f a=>rfl) kr (st':=⟨[e32_125,e32_126,e32_127,e32_128,e32_137],(l32_147 o32_104 p0 x20)++[o32_114,oX false false 1 (.mp 6),mapI .u64 eI x20.2],60⟩) kr) ?_
 refine rgN (S:=⟨[e32_125,e32_126,e32_127,e32_128,e32_137,(26,.int .u64 (i32_100 p0)),(9,.ptr 7 0 0)],(l32_147 o32_104 p0 x20)++[o32_114,oX false false 1 (.mp 6),mapI .u64 eI x20.2,(o32_107 p0)],60⟩) ?_
 refine wp_seq ?_
 refine wp_label ?_
 refine wp_seq (wp_block ?_)
 refine wwh h (fun s22=>⟨s32_148,(l32_147 (oX false false 1 (.ref 6 0 s22.2.1.length)) p0 x20)++[o32_115,oX true true 1 (.int .u64 s22.1),oR true 1 eI s22.2.1,oX false false 1 (.mp 8),mapI .u64 eI s22.2.2],60⟩) (fun v out=>out=.go (.exit 0) ⟨[e32_124,(3,.ptr 1 0 0)],[oX false false 1 (.ref 2 0 v.length),(o32_113 x20),oR true 1 eI v],60⟩) (wk_trans (wk_gcM (live:=[1,2,3,6,8,9]) (keep:=[0,1,2,3,4,7,5,6]) 6 .u64 eI x20.2 (fun f a=>rfl) kr (st':=⟨s32_148,(l32_147 o32_104 p0 x20)++[o32_116,(o32_107 p0),oX false false 1 (.mp 7),mapI .u64 eI x20.2],60⟩) kr) (wk_trans (wk_nilO 1 0 0 1 true true (st':=⟨s32_148,(l32_147 (oX false false 1 (.ref 8 0 0)) p0 x20)++[o32_116,(o32_107 p0),oX false false 1 (.mp 7),mapI .u64 eI x20.2,.row false false true true 1 []],60⟩) kr) (wk_gcM (live:=[1,2,3,6,8,9]) (keep:=[0,1,2,3,4,5,8,6,7]) 7 .u64 eI x20.2 (fun f a=>rfl) kr kr))) ?_ ?_
 ·intro s22 o h
  unfold g_order_Best_b5 at h
  refine wp_seq (sq ?_)
  refine wb [28] h (fun q24 h=>?_) (fun q24 h=>?_)
  ·refine wcT (wp_skip (wp_block (wp_seq (wp_seq (reg_in (sz 1 1 ?_))))))
   refine inlR (f:=68) (fn:=Tryd.f68) (as0:=[.int .u64 s22.1]) kr Tryd.func68 rfl (by decide +kernel) rfl ?_
   refine wp_eqB (base':=9) (st':=⟨[(0,.int .u64 s22.1)],(l32_147 (oX false false 1 (.ref 6 0 s22.2.1.length)) p0 x20)++[o32_115,oX true true 1 (.int .u64 s22.1),oR true 1 eI s22.2.1,oX false false 1 (.mp 8),mapI .u64 eI s22.2.2],4⟩) kr kr ?_
   refine sq ?_
   refine sqN (S:=⟨[(0,.int .u64 s22.1),(1,.ptr 9 0 0),e32_135,(3,.fn (.func 85) [] [.ptr 9 0 0])],(l32_147 (oX false false 1 (.ref 6 0 s22.2.1.length)) p0 x20)++[o32_115,oX true true 1 (.int .u64 s22.1),oR true 1 eI s22.2.1,oX false false 1 (.mp 8),mapI .u64 eI s22.2.2,oX true true 1 (.int .u64 s22.1)],4⟩) ?_
   refine wp_wk (wk_gcM (live:=[2]) (keep:=[9]) 8 .u64 eI s22.2.2 (fun f a=>rfl) kr (st':=⟨[e32_135],(l32_147 (oX false false 1 (.ref 6 0 s22.2.1.length)) p0 x20)++[o32_115,oX true true 1 (.int .u64 s22.1),oR true 1 eI s22.2.1,oX false false 1 (.mp 8),mapI .u64 eI s22.2.2,oX true true 1 (.int .u64 s22.1)],4⟩) kr) ?_
   refine wp_ret ?_
   refine ⟨⟨s32_148++[(27,.int .u64 s22.1),(28,vB true),(29,.int .u64 s22.1),(30,.fn (.func 85) [] [.ptr 9 0 0])],(l32_147 (oX false false 1 (.ref 6 0 s22.2.1.length)) p0 x20)++[o32_115,oX true true 1 (.int .u64 s22.1),oR true 1 eI s22.2.1,oX false false 1 (.mp 8),mapI .u64 eI s22.2.2,oX true true 1 (.int .u64 s22.1)],60⟩,by as_aux_lemma=>kernel_rfl,?_⟩
   refine reg_end rfl (wp_block ?_)
   refine wp_wk (wk_gcM (live:=[1,2,3,6,8,9,30]) (keep:=[0,1,2,3,4,5,9,6,7,8]) 8 .u64 eI s22.2.2 (fun f a=>rfl) kr (st':=⟨s32_148++[e32_139],(l32_145 (oX false false 1 (.ref 7 0 s22.2.1.length)) (oX true true 1 (.int .u64 s22.1)) (oX true true 1 (.int .u64 s22.1)) (oR true 1 eI s22.2.1) p0 x20)++[mapI .u64 eI s22.2.2],60⟩) kr) ?_
   refine wp_range (f:=85) (fn:=Tryd.f85) (first:=[]) (caps:=[.ptr 6 0 0]) rfl Tryd.func85 rfl (by decide +kernel) rfl rfl ?_
   refine wp_eqB (base':=11) (st':=⟨[(0,.yld 10),(1,.ptr 6 0 0)],(l32_145 (oX false false 1 (.ref 7 0 s22.2.1.length)) (oX true true 1 (.int .u64 s22.1)) (oX true true 1 (.int .u64 s22.1)) (oR true 1 eI s22.2.1) p0 x20)++[mapI .u64 eI s22.2.2,o32_119],16⟩) kr kr ?_
   refine sqN (S:=⟨[(0,.yld 10),(1,.ptr 6 0 0),(4,.int .u64 s22.1),(3,.int .u64 s22.1)],(l32_145 (oX false false 1 (.ref 7 0 s22.2.1.length)) (oX true true 1 (.int .u64 s22.1)) (oX true true 1 (.int .u64 s22.1)) (oR true 1 eI s22.2.1) p0 x20)++[mapI .u64 eI s22.2.2,o32_119],16⟩) ?_
   refine wp_block ?_
   refine wwh h (fun s25=>⟨[(0,.yld 10),(3,.int .u64 s25.1)],(l32_145 (oX false false 1 (.ref 7 0 s22.2.1.length)) (oX true true 1 (.int .u64 s22.1)) (oX true true 1 (.int .u64 s22.1)) (oR true 1 eI s22.2.1) p0 x20)++[mapI .u64 eI s25.2,o32_119],16⟩) (fun x out=>out=match x with | .inl v=>.go (.ret) ⟨[],(l32_145 (oX false false 1 (.ref 11 0 v.2.2.length)) (oX true true 1 (.int .u64 v.1)) (oX true true 1 (.int .u64 s22.1)) .dead p0 x20)++[mapI .u64 eI v.2.1,o32_120,oR true 1 eI v.2.2],16⟩ | .inr v=>.go (.exit 0) ⟨[],(l32_145 (oX false false 1 (.ref 7 0 s22.2.1.length)) (oX true true 1 (.int .u64 s22.1)) (oX true true 1 (.int .u64 s22.1)) (oR true 1 eI s22.2.1) p0 x20)++[mapI .u64 eI v,o32_119],16⟩) (wk_gcM (live:=[0,3]) (keep:=[]) 9 .u64 eI s22.2.2 (fun f a=>rfl) kr kr) ?_ ?_
   ·intro s25 o h
    unfold g_order_Best_b4 at h
    refine wp_seq (sq ?_)
    refine wbr (S:=fun b26=>⟨[(0,.yld 10),(3,.int .u64 s25.1),(5,.int .u64 s25.1),(6,vB b26)],(l32_145 (oX false false 1 (.ref 7 0 s22.2.1.length)) (oX true true 1 (.int .u64 s22.1)) (oX true true 1 (.int .u64 s22.1)) (oR true 1 eI s22.2.1) p0 x20)++[mapI .u64 eI s25.2,o32_119],16⟩) h (fun q27 h=>?_) (fun q27 h=>?_)
    ·refine wcT (wp_skip (wp_seq (wp_block (wp_seq (reg_in (sz 2 2 ?_))))))
     refine callW bodyB_86 (g_math_bits_TrailingZeros_ok s25.1) h (fun x28 _ h=>?_)
     refine yldR (l:=10) (nt:=60) (us:=[vI x28]) (sl:=[(1,.ptr 0 0 0),(2,.ptr 1 0 0),(3,.ptr 2 0 0),(6,.ptr 3 0 0),(8,.ptr 4 0 0),(9,.ptr 5 0 0),(30,.fn (.func 85) [] [.ptr 6 0 0])]) (ps:=[31]) (assign:=cA Tryd.f31 [true,true,true,true,true,true,true,true,true,true,false,true,true,true,true,false,true,true]) (body:=cB Tryd.f31 [true,true,true,true,true,true,true,true,true,true,false,true,true,true,true,false,true,true]) (pe:=none) kr kr rfl ?_
     refine wp_eqB (base':=11) (st':=⟨s32_148++[e32_139,(31,vI x28)],(l32_145 (oX false false 1 (.ref 7 0 s22.2.1.length)) (oX true true 1 (.int .u64 s22.1)) (oX true true 1 (.int .u64 s22.1)) (oR true 1 eI s22.2.1) p0 x20)++[mapI .u64 eI s25.2,o32_119],60⟩) kr kr ?_
     refine rn ?_
     refine ⟨⟨s32_148++[e32_139,(31,vI x28),(10,vI x28)],(l32_145 (oX false false 1 (.ref 7 0 s22.2.1.length)) (oX true true 1 (.int .u64 s22.1)) (oX true true 1 (.int .u64 s22.1)) (oR true 1 eI s22.2.1) p0 x20)++[mapI .u64 eI s25.2,o32_121],60⟩,by as_aux_lemma=>kernel_rfl,?_⟩
     refine wp_block (wp_seq (rga hfol (sy 5 5 ?_)))
     refine callW bodyB_69 (g_order_late_ok p0 x28 (zv (BitVec.ofInt (IntKind.bits .u64) (i32_100 p0) &&& ~~~ BitVec.ofInt (IntKind.bits .u64) s22.1).toNat)) h (fun x30 _ h=>?_)
     refine sy 3 9 ?_
     refine rb [39,40] h (fun q33 h=>?_) (fun q33 h=>?_)
     ·refine sy 3 12 ?_
      refine shlR (k:=.u64) (k':=.i64) (a:=1) (b:=x28) kr gE h (fun h=>?_)
      refine sgy 1 14 (S:=⟨s32_148++[e32_139,(31,vI x28),(10,vI x28),(32,eL true (AV.int .u64) p0),(33,vI x28),(34,.int .u64 (i32_100 p0)),(35,.int .u64 s22.1),(36,.int .u64 (zv (BitVec.ofInt (IntKind.bits .u64) (i32_100 p0) &&& ~~~ BitVec.ofInt (IntKind.bits .u64) s22.1).toNat)),(37,vI x30),(38,vI x20.1),(39,vB true),(40,vB true),e32_140,(42,.int .u64 s22.1),(43,vI x28),(44,.int .u64 (i32_101 x28)),(45,.int .u64 (zv (BitVec.ofInt (IntKind.bits .u64) s22.1 &&& ~~~ BitVec.ofInt (IntKind.bits .u64) (i32_101 x28)).toNat))],(l32_145 (oX false false 1 (.ref 7 0 s22.2.1.length)) (oX true true 1 (.int .u64 s22.1)) (oX true true 1 (.int .u64 s22.1)) (oR true 1 eI s22.2.1) p0 x20)++[mapI .u64 eI s25.2,o32_121],60⟩) ?_
      refine recHR (f:=67) (fn:=Tryd.f67) (N:=11) (as0:=[.int .u64 (zv (BitVec.ofInt (IntKind.bits .u64) s22.1 &&& ~~~ BitVec.ofInt (IntKind.bits .u64) (i32_101 x28)).toNat),.ptr 8 0 0,.ptr 0 0 0,.ptr 3 0 0,.ptr 4 0 0]) (I:=fun s34=>⟨[(0,.int .u64 s34.1),e32_141,e32_124,e32_132,e32_142],(l32_145 (oX false false 1 (.ref 7 0 s22.2.1.length)) (oX true true 1 (.int .u64 s22.1)) (oX true true 1 (.int .u64 s22.1)) (oR true 1 eI s22.2.1) p0 x20)++[mapI .u64 eI s34.2,o32_121],43⟩) (E:=fun v=>⟨[(6,vI v.1)],(l32_145 (oX false false 1 (.ref 7 0 s22.2.1.length)) (oX true true 1 (.int .u64 s22.1)) (oX true true 1 (.int .u64 s22.1)) (oR true 1 eI s22.2.1) p0 x20)++[mapI .u64 eI v.2,o32_121],43⟩) (F:=(g_order_Best_r3 p0)) (zv (BitVec.ofInt (IntKind.bits .u64) s22.1 &&& ~~~ BitVec.ofInt (IntKind.bits .u64) (i32_101 x28)).toNat,s25.2) (fun v=>[(9,mapI .u64 eI v.2)]) (fun x49=>⟨s32_148++[e32_139,(31,vI x28),(10,vI x28),(32,eL true (AV.int .u64) p0),(33,vI x28),(34,.int .u64 (i32_100 p0)),(35,.int .u64 s22.1),(36,.int .u64 (zv (BitVec.ofInt (IntKind.bits .u64) (i32_100 p0) &&& ~~~ BitVec.ofInt (IntKind.bits .u64) s22.1).toNat)),(37,vI x30),(38,vI x20.1),(39,vB true),(40,vB true),e32_140,(42,.int .u64 s22.1),(43,vI x28),(44,.int .u64 (i32_101 x28)),(45,.int .u64 (zv (BitVec.ofInt (IntKind.bits .u64) s22.1 &&& ~~~ BitVec.ofInt (IntKind.bits .u64) (i32_101 x28)).toNat)),(46,vI x49.1)],(l32_145 (oX false false 1 (.ref 7 0 s22.2.1.length)) (oX true true 1 (.int .u64 s22.1)) (oX true true 1 (.int .u64 s22.1)) (oR true 1 eI s22.2.1) p0 x20)++[mapI .u64 eI x49.2,o32_121],60⟩) [9] kr Tryd.func67 rfl (by decide +kernel) rfl kr rfl kr kr (ok_map 9 .u64 eI s25.2 kr (fun _=>rfl) kr) (fun _=>kr) (fun v=>ok_map 9 .u64 eI v.2 kr (fun _=>rfl) kr) kr (fun _=>kr) (fun _=>rfl) kr h (fun _=>kr) ?_ (fun x49 h=>?_)
      ·intro r35 i36 s34 y50 h
       unfold g_order_Best_r3 at h
       refine wp_post ?_
       refine sq (wp_seq (wp_seq (reg_in ?_)))
       refine sgz 2 2 (S:=⟨[(0,.int .u64 s34.1),e32_141,e32_124,e32_132,e32_142,e32_143,(6,vI 0),(12,.mp 9),(13,.int .u64 s34.1)],(l32_145 (oX false false 1 (.ref 7 0 s22.2.1.length)) (oX true true 1 (.int .u64 s22.1)) (oX true true 1 (.int .u64 s22.1)) (oR true 1 eI s22.2.1) p0 x20)++[mapI .u64 eI s34.2,o32_121,oX true true 1 (.int .u64 s34.1)],43⟩) ?_
       refine lookM (ob:=9) (c:=true) (kk:=.u64) (enc:=eI) (l:=s34.2) (n:=s34.1) (z:=0) kr kr (fun _=>rfl) gE ?_
       refine sgz 5 8 (S:=⟨[(0,.int .u64 s34.1),e32_141,e32_124,e32_132,e32_142,e32_143,(6,vI 0),(12,.mp 9),(13,.int .u64 s34.1),(14,.tup [vI ((mget s34.2 s34.1).getD 0),vB ((mget s34.2 s34.1).isSome)]),(11,.tup [vI ((mget s34.2 s34.1).getD 0),vB ((mget s34.2 s34.1).isSome)]),(15,vI ((mget s34.2 s34.1).getD 0)),(16,vB ((mget s34.2 s34.1).isSome)),(7,vI ((mget s34.2 s34.1).getD 0)),(8,vB ((mget s34.2 s34.1).isSome))],(l32_145 (oX false false 1 (.ref 7 0 s22.2.1.length)) (oX true true 1 (.int .u64 s22.1)) (oX true true 1 (.int .u64 s22.1)) (oR true 1 eI s22.2.1) p0 x20)++[mapI .u64 eI s34.2,o32_121,oX true true 1 (.int .u64 s34.1)],43⟩) ?_
       refine reg_end rfl (wp_seq ?_)
       refine wp_wk (wk_gcM (live:=[1,2,3,4,5,7,8]) (keep:=[11]) 9 .u64 eI s34.2 (fun f a=>rfl) kr (st':=⟨[e32_141,e32_124,e32_132,e32_142,e32_143,(7,vI ((mget s34.2 s34.1).getD 0)),(8,vB ((mget s34.2 s34.1).isSome))],(l32_145 (oX false false 1 (.ref 7 0 s22.2.1.length)) (oX true true 1 (.int .u64 s22.1)) (oX true true 1 (.int .u64 s22.1)) (oR true 1 eI s22.2.1) p0 x20)++[mapI .u64 eI s34.2,o32_121,oX true true 1 (.int .u64 s34.1)],43⟩) kr) ?_
       refine rn ?_
       refine wbr (S:=fun b37=>⟨[e32_141,e32_124,e32_132,e32_142,e32_143,(7,vI ((mget s34.2 s34.1).getD 0)),(8,vB b37),(17,vB b37)],(l32_145 (oX false false 1 (.ref 7 0 s22.2.1.length)) (oX true true 1 (.int .u64 s22.1)) (oX true true 1 (.int .u64 s22.1)) (oR true 1 eI s22.2.1) p0 x20)++[mapI .u64 eI s34.2,o32_121,oX true true 1 (.int .u64 s34.1)],43⟩) h (fun q38 h=>?_) (fun q38 h=>?_)
       ·refine wcT (wp_seq ?_)
        refine wp_wk (wk_gcM (live:=[7]) (keep:=[]) 9 .u64 eI s34.2 (fun f a=>rfl) kr (st':=⟨[(7,vI ((mget s34.2 s34.1).getD 0))],(l32_145 (oX false false 1 (.ref 7 0 s22.2.1.length)) (oX true true 1 (.int .u64 s22.1)) (oX true true 1 (.int .u64 s22.1)) (oR true 1 eI s22.2.1) p0 x20)++[mapI .u64 eI s34.2,o32_121],43⟩) kr) ?_
        refine rgN (S:=⟨[(7,vI ((mget s34.2 s34.1).getD 0)),(18,vI ((mget s34.2 s34.1).getD 0)),(6,vI ((mget s34.2 s34.1).getD 0))],(l32_145 (oX false false 1 (.ref 7 0 s22.2.1.length)) (oX true true 1 (.int .u64 s22.1)) (oX true true 1 (.int .u64 s22.1)) (oR true 1 eI s22.2.1) p0 x20)++[mapI .u64 eI s34.2,o32_121],43⟩) ?_
        refine wp_wk (wk_gcM (live:=[6]) (keep:=[]) 9 .u64 eI s34.2 (fun f a=>rfl) kr (st':=⟨[(6,vI ((mget s34.2 s34.1).getD 0))],(l32_145 (oX false false 1 (.ref 7 0 s22.2.1.length)) (oX true true 1 (.int .u64 s22.1)) (oX true true 1 (.int .u64 s22.1)) (oR true 1 eI s22.2.1) p0 x20)++[mapI .u64 eI s34.2,o32_121],43⟩) kr) ?_
        refine wp_ret ?_
        cases h
        refine ⟨⟨[(6,vI ((mget s34.2 s34.1).getD 0))],(l32_145 (oX false false 1 (.ref 7 0 s22.2.1.length)) (oX true true 1 (.int .u64 s22.1)) (oX true true 1 (.int .u64 s22.1)) (oR true 1 eI s22.2.1) p0 x20)++[mapI .u64 eI s34.2,o32_121],43⟩,(wk_gcM (live:=[6]) (keep:=[]) 9 .u64 eI s34.2 (fun f a=>rfl) kr (st':=⟨[(6,vI ((mget s34.2 s34.1).getD 0))],(l32_145 (oX false false 1 (.ref 7 0 s22.2.1.length)) (oX true true 1 (.int .u64 s22.1)) (oX true true 1 (.int .u64 s22.1)) (oR true 1 eI s22.2.1) p0 x20)++[mapI .u64 eI s34.2,o32_121],43⟩) (by kernel_rfl)),?_⟩
        exact .inl (by kernel_rfl)
       refine wcF (wp_skip (wp_seq (reg_in (sz 1 1 ?_))))
       refine lenL (enc:=(AV.int .u64)) (l:=p0) (fl:=true) kr gE ?_
       refine sgz 2 4 (S:=⟨[e32_141,e32_124,e32_132,e32_142,e32_143,(7,vI ((mget s34.2 s34.1).getD 0)),(8,vB false),(17,vB false),(19,eL true (AV.int .u64) p0),(20,vI (zn p0)),(9,.ptr 12 0 0)],(l32_145 (oX false false 1 (.ref 7 0 s22.2.1.length)) (oX true true 1 (.int .u64 s22.1)) (oX true true 1 (.int .u64 s22.1)) (oR true 1 eI s22.2.1) p0 x20)++[mapI .u64 eI s34.2,o32_121,oX true true 1 (.int .u64 s34.1),(o32_110 p0)],43⟩) ?_
       refine reg_end rfl (wp_seq (wp_seq ?_))
       refine wp_wk (wk_gcM (live:=[1,2,3,4,5,9]) (keep:=[11,12]) 9 .u64 eI s34.2 (fun f a=>rfl) kr (st':=⟨s32_149,(l32_145 (oX false false 1 (.ref 7 0 s22.2.1.length)) (oX true true 1 (.int .u64 s22.1)) (oX true true 1 (.int .u64 s22.1)) (oR true 1 eI s22.2.1) p0 x20)++[mapI .u64 eI s34.2,o32_121,oX true true 1 (.int .u64 s34.1),(o32_110 p0)],43⟩) kr) ?_
       refine reg_in (sz 1 1 ?_)
       refine inlR (f:=68) (fn:=Tryd.f68) (as0:=[.int .u64 s34.1]) kr Tryd.func68 rfl (by decide +kernel) rfl ?_
       refine wp_eqB (base':=13) (st':=⟨[(0,.int .u64 s34.1)],(l32_145 (oX false false 1 (.ref 7 0 s22.2.1.length)) (oX true true 1 (.int .u64 s22.1)) (oX true true 1 (.int .u64 s22.1)) (oR true 1 eI s22.2.1) p0 x20)++[mapI .u64 eI s34.2,o32_121,oX true true 1 (.int .u64 s34.1),(o32_110 p0)],4⟩) kr kr ?_
       refine sq ?_
       refine sqN (S:=⟨[(0,.int .u64 s34.1),(1,.ptr 13 0 0),(2,.fn (.func 85) [] [.ptr 13 0 0]),(3,.fn (.func 85) [] [.ptr 13 0 0])],(l32_145 (oX false false 1 (.ref 7 0 s22.2.1.length)) (oX true true 1 (.int .u64 s22.1)) (oX true true 1 (.int .u64 s22.1)) (oR true 1 eI s22.2.1) p0 x20)++[mapI .u64 eI s34.2,o32_121,oX true true 1 (.int .u64 s34.1),(o32_110 p0),oX true true 1 (.int .u64 s34.1)],4⟩) ?_
       refine wp_wk (wk_gcM (live:=[2]) (keep:=[13]) 9 .u64 eI s34.2 (fun f a=>rfl) kr (st':=⟨[(2,.fn (.func 85) [] [.ptr 13 0 0])],(l32_145 (oX false false 1 (.ref 7 0 s22.2.1.length)) (oX true true 1 (.int .u64 s22.1)) (oX true true 1 (.int .u64 s22.1)) (oR true 1 eI s22.2.1) p0 x20)++[mapI .u64 eI s34.2,o32_121,oX true true 1 (.int .u64 s34.1),(o32_110 p0),oX true true 1 (.int .u64 s34.1)],4⟩) kr) ?_
       refine wp_ret ?_
       refine ⟨⟨s32_149++[(21,.int .u64 s34.1),e32_144],(l32_145 (oX false false 1 (.ref 7 0 s22.2.1.length)) (oX true true 1 (.int .u64 s22.1)) (oX true true 1 (.int .u64 s22.1)) (oR true 1 eI s22.2.1) p0 x20)++[mapI .u64 eI s34.2,o32_121,oX true true 1 (.int .u64 s34.1),(o32_110 p0),oX true true 1 (.int .u64 s34.1)],43⟩,by as_aux_lemma=>kernel_rfl,?_⟩
       refine reg_end rfl (wp_block ?_)
       refine wp_wk (wk_gcM (live:=[1,2,3,4,5,9,22]) (keep:=[11,12,13]) 9 .u64 eI s34.2 (fun f a=>rfl) kr (st':=⟨s32_149++[e32_144],(l32_145 (oX false false 1 (.ref 7 0 s22.2.1.length)) (oX true true 1 (.int .u64 s22.1)) (oX true true 1 (.int .u64 s22.1)) (oR true 1 eI s22.2.1) p0 x20)++[mapI .u64 eI s34.2,o32_121,oX true true 1 (.int .u64 s34.1),(o32_110 p0),oX true true 1 (.int .u64 s34.1)],43⟩) kr) ?_
       refine wp_range (f:=85) (fn:=Tryd.f85) (first:=[]) (caps:=[.ptr 13 0 0]) rfl Tryd.func85 rfl (by decide +kernel) rfl rfl ?_
       refine wp_eqB (base':=15) (st':=⟨[(0,.yld 14),(1,.ptr 13 0 0)],(l32_145 (oX false false 1 (.ref 7 0 s22.2.1.length)) (oX true true 1 (.int .u64 s22.1)) (oX true true 1 (.int .u64 s22.1)) (oR true 1 eI s22.2.1) p0 x20)++[mapI .u64 eI s34.2,o32_121,oX true true 1 (.int .u64 s34.1),(o32_110 p0),oX true true 1 (.int .u64 s34.1),o32_122],16⟩) kr kr ?_
       refine sqN (S:=⟨[(0,.yld 14),(1,.ptr 13 0 0),(4,.int .u64 s34.1),(3,.int .u64 s34.1)],(l32_145 (oX false false 1 (.ref 7 0 s22.2.1.length)) (oX true true 1 (.int .u64 s22.1)) (oX true true 1 (.int .u64 s22.1)) (oR true 1 eI s22.2.1) p0 x20)++[mapI .u64 eI s34.2,o32_121,oX true true 1 (.int .u64 s34.1),(o32_110 p0),oX true true 1 (.int .u64 s34.1),o32_122],16⟩) ?_
       refine wp_block ?_
       refine wwh h (fun s39=>⟨[(0,.yld 14),(3,.int .u64 s39.1)],(l32_145 (oX false false 1 (.ref 7 0 s22.2.1.length)) (oX true true 1 (.int .u64 s22.1)) (oX true true 1 (.int .u64 s22.1)) (oR true 1 eI s22.2.1) p0 x20)++[mapI .u64 eI s39.2.1,o32_121,oX true true 1 (.int .u64 s34.1),oX true true 1 (vI s39.2.2),oX true true 1 (.int .u64 s34.1),o32_122],16⟩) (fun v out=>out=.go (.exit 0) ⟨[],(l32_145 (oX false false 1 (.ref 7 0 s22.2.1.length)) (oX true true 1 (.int .u64 s22.1)) (oX true true 1 (.int .u64 s22.1)) (oR true 1 eI s22.2.1) p0 x20)++[mapI .u64 eI v.1,o32_121,oX true true 1 (.int .u64 s34.1),oX true true 1 (vI v.2),oX true true 1 (.int .u64 s34.1),o32_122],16⟩) (wk_gcM (live:=[0,3]) (keep:=[]) 9 .u64 eI s34.2 (fun f a=>rfl) kr kr) ?_ ?_
       ·intro s39 o h
        unfold g_order_Best_b2 at h
        refine wp_seq (sq ?_)
        refine wbr (S:=fun b40=>⟨[(0,.yld 14),(3,.int .u64 s39.1),(5,.int .u64 s39.1),(6,vB b40)],(l32_145 (oX false false 1 (.ref 7 0 s22.2.1.length)) (oX true true 1 (.int .u64 s22.1)) (oX true true 1 (.int .u64 s22.1)) (oR true 1 eI s22.2.1) p0 x20)++[mapI .u64 eI s39.2.1,o32_121,oX true true 1 (.int .u64 s34.1),oX true true 1 (vI s39.2.2),oX true true 1 (.int .u64 s34.1),o32_122],16⟩) h (fun q41 h=>?_) (fun q41 h=>?_)
        ·refine wcT (wp_skip (wp_seq (wp_block (wp_seq (reg_in (sz 2 2 ?_))))))
         refine callW bodyB_86 (g_math_bits_TrailingZeros_ok s39.1) h (fun x42 _ h=>?_)
         refine yldR (l:=14) (nt:=43) (us:=[vI x42]) (sl:=[(1,.ptr 8 0 0),(2,.ptr 0 0 0),(3,.ptr 3 0 0),(4,.ptr 4 0 0),(5,.ptr 11 0 0),(9,.ptr 12 0 0),(22,.fn (.func 85) [] [.ptr 13 0 0])]) (ps:=[23]) (assign:=cA Tryd.f67 [true,true,true,false,true,true]) (body:=cB Tryd.f67 [true,true,true,false,true,true]) (pe:=none) kr kr rfl ?_
         refine wp_eqB (base':=15) (st':=⟨s32_149++[e32_144,(23,vI x42)],(l32_145 (oX false false 1 (.ref 7 0 s22.2.1.length)) (oX true true 1 (.int .u64 s22.1)) (oX true true 1 (.int .u64 s22.1)) (oR true 1 eI s22.2.1) p0 x20)++[mapI .u64 eI s39.2.1,o32_121,oX true true 1 (.int .u64 s34.1),oX true true 1 (vI s39.2.2),oX true true 1 (.int .u64 s34.1),o32_122],43⟩) kr kr ?_
         refine rn ?_
         refine ⟨⟨s32_149++[e32_144,(23,vI x42),(10,vI x42)],(l32_145 (oX false false 1 (.ref 7 0 s22.2.1.length)) (oX true true 1 (.int .u64 s22.1)) (oX true true 1 (.int .u64 s22.1)) (oR true 1 eI s22.2.1) p0 x20)++[mapI .u64 eI s39.2.1,o32_121,oX true true 1 (.int .u64 s34.1),oX true true 1 (vI s39.2.2),oX true true 1 (.int .u64 s34.1),o32_123],43⟩,by as_aux_lemma=>kernel_rfl,?_⟩
         refine wp_block (rga hfol (sy 6 6 ?_))
         refine callW bodyB_69 (g_order_late_ok p0 x42 (zv (BitVec.ofInt (IntKind.bits .u64) (i32_100 p0) &&& ~~~ BitVec.ofInt (IntKind.bits .u64) s34.1).toNat)) h (fun x44 _ h=>?_)
         refine sy 3 10 ?_
         refine shlR (k:=.u64) (k':=.i64) (a:=1) (b:=x42) kr gE h (fun h=>?_)
         refine sgy 1 12 (S:=⟨s32_149++[e32_144,(23,vI x42),(10,vI x42),(24,vI s39.2.2),(25,eL true (AV.int .u64) p0),(26,vI x42),(27,.int .u64 (i32_100 p0)),(28,.int .u64 s34.1),(29,.int .u64 (zv (BitVec.ofInt (IntKind.bits .u64) (i32_100 p0) &&& ~~~ BitVec.ofInt (IntKind.bits .u64) s34.1).toNat)),(30,vI x44),(31,.fn (.func 67) [] [.ptr 8 0 0,.ptr 0 0 0,.ptr 3 0 0,.ptr 4 0 0]),(32,.int .u64 s34.1),(33,vI x42),(34,.int .u64 (i32_103 x42)),(35,.int .u64 (zv (BitVec.ofInt (IntKind.bits .u64) s34.1 &&& ~~~ BitVec.ofInt (IntKind.bits .u64) (i32_103 x42)).toNat))],(l32_145 (oX false false 1 (.ref 7 0 s22.2.1.length)) (oX true true 1 (.int .u64 s22.1)) (oX true true 1 (.int .u64 s22.1)) (oR true 1 eI s22.2.1) p0 x20)++[mapI .u64 eI s39.2.1,o32_121,oX true true 1 (.int .u64 s34.1),oX true true 1 (vI s39.2.2),oX true true 1 (.int .u64 s34.1),o32_123],43⟩) ?_
         refine recH (f:=67) (fn:=Tryd.f67) (N:=11) (as0:=[.int .u64 (zv (BitVec.ofInt (IntKind.bits .u64) s34.1 &&& ~~~ BitVec.ofInt (IntKind.bits .u64) (i32_103 x42)).toNat),.ptr 8 0 0,.ptr 0 0 0,.ptr 3 0 0,.ptr 4 0 0]) (zv (BitVec.ofInt (IntKind.bits .u64) s34.1 &&& ~~~ BitVec.ofInt (IntKind.bits .u64) (i32_103 x42)).toNat,s39.2.1) (fun v=>[(9,mapI .u64 eI v.2)]) (fun x46=>⟨s32_149++[e32_144,(23,vI x42),(10,vI x42),(24,vI s39.2.2),(25,eL true (AV.int .u64) p0),(26,vI x42),(27,.int .u64 (i32_100 p0)),(28,.int .u64 s34.1),(29,.int .u64 (zv (BitVec.ofInt (IntKind.bits .u64) (i32_100 p0) &&& ~~~ BitVec.ofInt (IntKind.bits .u64) s34.1).toNat)),(30,vI x44),(31,.fn (.func 67) [] [.ptr 8 0 0,.ptr 0 0 0,.ptr 3 0 0,.ptr 4 0 0]),(32,.int .u64 s34.1),(33,vI x42),(34,.int .u64 (i32_103 x42)),(35,.int .u64 (zv (BitVec.ofInt (IntKind.bits .u64) s34.1 &&& ~~~ BitVec.ofInt (IntKind.bits .u64) (i32_103 x42)).toNat)),(36,vI x46.1)],(l32_145 (oX false false 1 (.ref 7 0 s22.2.1.length)) (oX true true 1 (.int .u64 s22.1)) (oX true true 1 (.int .u64 s22.1)) (oR true 1 eI s22.2.1) p0 x20)++[mapI .u64 eI x46.2,o32_121,oX true true 1 (.int .u64 s34.1),oX true true 1 (vI s39.2.2),oX true true 1 (.int .u64 s34.1),o32_123],43⟩) [9] kr Tryd.func67 rfl (by decide +kernel) rfl kr rfl kr kr (ok_map 9 .u64 eI s39.2.1 kr (fun _=>rfl) kr) (fun _=>kr) (fun v=>ok_map 9 .u64 eI v.2 kr (fun _=>rfl) kr) kr (fun _=>kr) (fun _=>rfl) kr i36 h (fun _=>kr) (fun x46 h=>?_)
         refine sy 3 16 (rgd ?_)
         refine ⟨⟨[(0,.yld 14),(3,.int .u64 s39.1),(5,.int .u64 s39.1),(6,vB true),(11,.yld 14),(12,.int .u64 s39.1),(13,vI x42),(14,vB true)],(l32_145 (oX false false 1 (.ref 7 0 s22.2.1.length)) (oX true true 1 (.int .u64 s22.1)) (oX true true 1 (.int .u64 s22.1)) (oR true 1 eI s22.2.1) p0 x20)++[mapI .u64 eI x46.2,o32_121,oX true true 1 (.int .u64 s34.1),oX true true 1 (vI (if (if x46.1 > x44 then x46.1 else x44) < s39.2.2 then (if x46.1 > x44 then x46.1 else x44) else s39.2.2)),oX true true 1 (.int .u64 s34.1),o32_122],16⟩,by as_aux_lemma=>kernel_rfl,?_⟩
         refine sz 1 5 (reg_end rfl (wcF (wp_skip ?_)))
         refine wp_wk (wk_gcM (live:=[0,3]) (keep:=[]) 9 .u64 eI x46.2 (fun f a=>rfl) kr (st':=⟨[(0,.yld 14),(3,.int .u64 s39.1)],(l32_145 (oX false false 1 (.ref 7 0 s22.2.1.length)) (oX true true 1 (.int .u64 s22.1)) (oX true true 1 (.int .u64 s22.1)) (oR true 1 eI s22.2.1) p0 x20)++[mapI .u64 eI x46.2,o32_121,oX true true 1 (.int .u64 s34.1),oX true true 1 (vI (if (if x46.1 > x44 then x46.1 else x44) < s39.2.2 then (if x46.1 > x44 then x46.1 else x44) else s39.2.2)),oX true true 1 (.int .u64 s34.1),o32_122],16⟩) kr) ?_
         refine rgN (S:=⟨[(0,.yld 14),(3,.int .u64 (zv (BitVec.ofInt (IntKind.bits .u64) s39.1 &&& BitVec.ofInt (IntKind.bits .u64) (zv (s39.1 - 1))).toNat)),(7,.int .u64 s39.1),(8,.int .u64 s39.1),(9,.int .u64 (zv (s39.1 - 1))),(10,.int .u64 (zv (BitVec.ofInt (IntKind.bits .u64) s39.1 &&& BitVec.ofInt (IntKind.bits .u64) (zv (s39.1 - 1))).toNat))],(l32_145 (oX false false 1 (.ref 7 0 s22.2.1.length)) (oX true true 1 (.int .u64 s22.1)) (oX true true 1 (.int .u64 s22.1)) (oR true 1 eI s22.2.1) p0 x20)++[mapI .u64 eI x46.2,o32_121,oX true true 1 (.int .u64 s34.1),oX true true 1 (vI (if (if x46.1 > x44 then x46.1 else x44) < s39.2.2 then (if x46.1 > x44 then x46.1 else x44) else s39.2.2)),oX true true 1 (.int .u64 s34.1),o32_122],16⟩) ?_
         cases h
         exact ⟨_,rfl,(wk_gcM (live:=[0,3]) (keep:=[]) 9 .u64 eI x46.2 (fun f a=>rfl) kr kr)⟩
        refine wcF ?_
        refine wp_wk (wk_gcM (live:=[]) (keep:=[]) 9 .u64 eI s39.2.1 (fun f a=>rfl) kr (st':=⟨[],(l32_145 (oX false false 1 (.ref 7 0 s22.2.1.length)) (oX true true 1 (.int .u64 s22.1)) (oX true true 1 (.int .u64 s22.1)) (oR true 1 eI s22.2.1) p0 x20)++[mapI .u64 eI s39.2.1,o32_121,oX true true 1 (.int .u64 s34.1),oX true true 1 (vI s39.2.2),oX true true 1 (.int .u64 s34.1),o32_122],16⟩) kr) ?_
        refine wp_exit ?_
        cases h
        exact ⟨kr,rfl⟩
       intro x48 h out hx
       subst hx
       refine ⟨.go .normal ⟨s32_149++[e32_144],(l32_145 (oX false false 1 (.ref 7 0 s22.2.1.length)) (oX true true 1 (.int .u64 s22.1)) (oX true true 1 (.int .u64 s22.1)) (oR true 1 eI s22.2.1) p0 x20)++[mapI .u64 eI x48.1,o32_121,oX true true 1 (.int .u64 s34.1),oX true true 1 (vI x48.2),oX true true 1 (.int .u64 s34.1),.dead],43⟩,by as_aux_lemma=>kernel_rfl,?_⟩
       refine wp_seq (reg_in ?_)
       refine sgz 3 3 (S:=⟨s32_149++[e32_144,(39,.mp 9),(40,.int .u64 s34.1),(41,vI x48.2)],(l32_145 (oX false false 1 (.ref 7 0 s22.2.1.length)) (oX true true 1 (.int .u64 s22.1)) (oX true true 1 (.int .u64 s22.1)) (oR true 1 eI s22.2.1) p0 x20)++[mapI .u64 eI x48.1,o32_121,oX true true 1 (.int .u64 s34.1),oX true true 1 (vI x48.2),oX true true 1 (.int .u64 s34.1),.dead],43⟩) ?_
       refine updM (ob:=9) (kk:=.u64) (enc:=eI) (l:=x48.1) (n:=s34.1) (v:=x48.2) (S:=⟨s32_149++[e32_144,(39,.mp 9),(40,.int .u64 s34.1),(41,vI x48.2)],(l32_145 (oX false false 1 (.ref 7 0 s22.2.1.length)) (oX true true 1 (.int .u64 s22.1)) (oX true true 1 (.int .u64 s22.1)) (oR true 1 eI s22.2.1) p0 x20)++[mapI .u64 eI (mput x48.1 s34.1 x48.2),o32_121,oX true true 1 (.int .u64 s34.1),oX true true 1 (vI x48.2),oX true true 1 (.int .u64 s34.1),.dead],43⟩) kr kr kr kr ?_
       refine reg_end rfl (wp_seq ?_)
       refine wp_wk (wk_gcM (live:=[9]) (keep:=[12]) 9 .u64 eI (mput x48.1 s34.1 x48.2) (fun f a=>rfl) kr (st':=⟨[(9,.ptr 11 0 0)],(l32_145 (oX false false 1 (.ref 7 0 s22.2.1.length)) (oX true true 1 (.int .u64 s22.1)) (oX true true 1 (.int .u64 s22.1)) (oR true 1 eI s22.2.1) p0 x20)++[mapI .u64 eI (mput x48.1 s34.1 x48.2),o32_121,oX true true 1 (vI x48.2)],43⟩) kr) ?_
       refine rgN (S:=⟨[(9,.ptr 11 0 0),(42,vI x48.2),(6,vI x48.2)],(l32_145 (oX false false 1 (.ref 7 0 s22.2.1.length)) (oX true true 1 (.int .u64 s22.1)) (oX true true 1 (.int .u64 s22.1)) (oR true 1 eI s22.2.1) p0 x20)++[mapI .u64 eI (mput x48.1 s34.1 x48.2),o32_121,oX true true 1 (vI x48.2)],43⟩) ?_
       refine wp_wk (wk_gcM (live:=[6]) (keep:=[]) 9 .u64 eI (mput x48.1 s34.1 x48.2) (fun f a=>rfl) kr (st':=⟨[(6,vI x48.2)],(l32_145 (oX false false 1 (.ref 7 0 s22.2.1.length)) (oX true true 1 (.int .u64 s22.1)) (oX true true 1 (.int .u64 s22.1)) (oR true 1 eI s22.2.1) p0 x20)++[mapI .u64 eI (mput x48.1 s34.1 x48.2),o32_121],43⟩) kr) ?_
       refine wp_ret ?_
       cases h
       refine ⟨⟨[(6,vI x48.2)],(l32_145 (oX false false 1 (.ref 7 0 s22.2.1.length)) (oX true true 1 (.int .u64 s22.1)) (oX true true 1 (.int .u64 s22.1)) (oR true 1 eI s22.2.1) p0 x20)++[mapI .u64 eI (mput x48.1 s34.1 x48.2),o32_121],43⟩,(wk_gcM (live:=[6]) (keep:=[]) 9 .u64 eI (mput x48.1 s34.1 x48.2) (fun f a=>rfl) kr (st':=⟨[(6,vI x48.2)],(l32_145 (oX false false 1 (.ref 7 0 s22.2.1.length)) (oX true true 1 (.int .u64 s22.1)) (oX true true 1 (.int .u64 s22.1)) (oR true 1 eI s22.2.1) p0 x20)++[mapI .u64 eI (mput x48.1 s34.1 x48.2),o32_121],43⟩) (by kernel_rfl)),?_⟩
       exact .inl (by kernel_rfl)
      refine sy 3 18 (rgd ?_)
      refine wbr (S:=fun b51=>⟨s32_148++[e32_139,(31,vI x28),(10,vI x28),(32,eL true (AV.int .u64) p0),(33,vI x28),(34,.int .u64 (i32_100 p0)),(35,.int .u64 s22.1),(36,.int .u64 (zv (BitVec.ofInt (IntKind.bits .u64) (i32_100 p0) &&& ~~~ BitVec.ofInt (IntKind.bits .u64) s22.1).toNat)),(37,vI x30),(38,vI x20.1),(39,vB true),(40,vB true),e32_140,(42,.int .u64 s22.1),(43,vI x28),(44,.int .u64 (i32_101 x28)),(45,.int .u64 (zv (BitVec.ofInt (IntKind.bits .u64) s22.1 &&& ~~~ BitVec.ofInt (IntKind.bits .u64) (i32_101 x28)).toNat)),(46,vI x49.1),(47,vI x20.1),(48,vB b51),(49,vB b51)],(l32_145 (oX false false 1 (.ref 7 0 s22.2.1.length)) (oX true true 1 (.int .u64 s22.1)) (oX true true 1 (.int .u64 s22.1)) (oR true 1 eI s22.2.1) p0 x20)++[mapI .u64 eI x49.2,o32_121],60⟩) h (fun q52 h=>?_) (fun q52 h=>?_)
      ·refine wcT (wp_seq ?_)
       refine wp_wk (wk_gcM (live:=[1,2,3,6,8,9,10]) (keep:=[]) 9 .u64 eI x49.2 (fun f a=>rfl) kr (st':=⟨s32_148++[(10,vI x28)],(l32_145 (oX false false 1 (.ref 7 0 s22.2.1.length)) (oX true true 1 (.int .u64 s22.1)) (oX true true 1 (.int .u64 s22.1)) (oR true 1 eI s22.2.1) p0 x20)++[mapI .u64 eI x49.2,o32_121],60⟩) kr) ?_
       refine reg_in (sz 2 2 ?_)
       refine sgL false [] [] true gE ?_
       refine appR (enc:=eI) (l:=s22.2.1) (m:=([x28]:(List Int))) (w:=1) (bytes:=8) (ob:=7) (nr:=true) (fl:=true) (nr':=true) (fl':=true) (b:=.ref 11 0 1) (rds:=[11]) false kr kr kr rfl gE kr h (fun h=>?_)
       refine sz 1 5 (reg_end rfl (wp_seq (rga hfol (sy 2 2 ?_))))
       refine shlR (k:=.u64) (k':=.i64) (a:=1) (b:=x28) kr gE h (fun h=>?_)
       refine sgy 2 5 (S:=⟨s32_148++[(10,vI x28),(50,.ref 7 0 s22.2.1.length),(51,vI x28),(52,.ref 11 0 1),(53,.ref 12 0 ((s22.2.1++([x28]:(List Int))).length)),(54,.int .u64 s22.1),(55,vI x28),(56,.int .u64 (i32_101 x28)),(57,.int .u64 (zv (BitVec.ofInt (IntKind.bits .u64) s22.1 &&& ~~~ BitVec.ofInt (IntKind.bits .u64) (i32_101 x28)).toNat))],(l32_145 (oX false false 1 (.ref 12 0 ((s22.2.1++([x28]:(List Int))).length))) (oX true true 1 (.int .u64 (zv (BitVec.ofInt (IntKind.bits .u64) s22.1 &&& ~~~ BitVec.ofInt (IntKind.bits .u64) (i32_101 x28)).toNat))) (oX true true 1 (.int .u64 s22.1)) .dead p0 x20)++[mapI .u64 eI x49.2,o32_121,.row false false true true 1 [vI x28],oR true 1 eI (s22.2.1++([x28]:(List Int)))],60⟩) ?_
       refine rgd ?_
       refine wp_wk (wk_gcM (live:=[1,2,3,6,8,9]) (keep:=[12]) 9 .u64 eI x49.2 (fun f a=>rfl) kr (st':=⟨s32_148,(l32_145 (oX false false 1 (.ref 11 0 ((s22.2.1++([x28]:(List Int))).length))) (oX true true 1 (.int .u64 (zv (BitVec.ofInt (IntKind.bits .u64) s22.1 &&& ~~~ BitVec.ofInt (IntKind.bits .u64) (i32_101 x28)).toNat))) (oX true true 1 (.int .u64 s22.1)) .dead p0 x20)++[mapI .u64 eI x49.2,o32_121,oR true 1 eI (s22.2.1++([x28]:(List Int)))],60⟩) kr) ?_
       refine wp_exit ?_
       refine ⟨⟨[(0,.yld 10),(3,.int .u64 s25.1),(5,.int .u64 s25.1),(6,vB true),(11,.yld 10),(12,.int .u64 s25.1),(13,vI x28),(14,vB false)],(l32_145 (oX false false 1 (.ref 11 0 ((s22.2.1++([x28]:(List Int))).length))) (oX true true 1 (.int .u64 (zv (BitVec.ofInt (IntKind.bits .u64) s22.1 &&& ~~~ BitVec.ofInt (IntKind.bits .u64) (i32_101 x28)).toNat))) (oX true true 1 (.int .u64 s22.1)) .dead p0 x20)++[mapI .u64 eI x49.2,o32_120,oR true 1 eI (s22.2.1++([x28]:(List Int)))],16⟩,by as_aux_lemma=>kernel_rfl,?_⟩
       refine sz 1 5 (reg_end rfl (wcT ?_))
       refine wp_wk (wk_gcM (live:=[]) (keep:=[11]) 9 .u64 eI x49.2 (fun f a=>rfl) kr (st':=⟨[],(l32_145 (oX false false 1 (.ref 11 0 ((s22.2.1++([x28]:(List Int))).length))) (oX true true 1 (.int .u64 (zv (BitVec.ofInt (IntKind.bits .u64) s22.1 &&& ~~~ BitVec.ofInt (IntKind.bits .u64) (i32_101 x28)).toNat))) (oX true true 1 (.int .u64 s22.1)) .dead p0 x20)++[mapI .u64 eI x49.2,o32_120,oR true 1 eI (s22.2.1++([x28]:(List Int)))],16⟩) kr) ?_
       refine wp_ret ?_
       cases h
       exact ⟨kr,rfl⟩
      refine wcF (wp_skip ?_)
      refine ⟨⟨[(0,.yld 10),(3,.int .u64 s25.1),(5,.int .u64 s25.1),(6,vB true),(11,.yld 10),(12,.int .u64 s25.1),(13,vI x28),(14,vB true)],(l32_145 (oX false false 1 (.ref 7 0 s22.2.1.length)) (oX true true 1 (.int .u64 s22.1)) (oX true true 1 (.int .u64 s22.1)) (oR true 1 eI s22.2.1) p0 x20)++[mapI .u64 eI x49.2,o32_119],16⟩,by as_aux_lemma=>kernel_rfl,?_⟩
      refine sz 1 5 (reg_end rfl (wcF (wp_skip ?_)))
      refine wp_wk (wk_gcM (live:=[0,3]) (keep:=[]) 9 .u64 eI x49.2 (fun f a=>rfl) kr (st':=⟨[(0,.yld 10),(3,.int .u64 s25.1)],(l32_145 (oX false false 1 (.ref 7 0 s22.2.1.length)) (oX true true 1 (.int .u64 s22.1)) (oX true true 1 (.int .u64 s22.1)) (oR true 1 eI s22.2.1) p0 x20)++[mapI .u64 eI x49.2,o32_119],16⟩) kr) ?_
      refine rgN (S:=⟨[(0,.yld 10),(3,.int .u64 (zv (BitVec.ofInt (IntKind.bits .u64) s25.1 &&& BitVec.ofInt (IntKind.bits .u64) (zv (s25.1 - 1))).toNat)),(7,.int .u64 s25.1),(8,.int .u64 s25.1),(9,.int .u64 (zv (s25.1 - 1))),(10,.int .u64 (zv (BitVec.ofInt (IntKind.bits .u64) s25.1 &&& BitVec.ofInt (IntKind.bits .u64) (zv (s25.1 - 1))).toNat))],(l32_145 (oX false false 1 (.ref 7 0 s22.2.1.length)) (oX true true 1 (.int .u64 s22.1)) (oX true true 1 (.int .u64 s22.1)) (oR true 1 eI s22.2.1) p0 x20)++[mapI .u64 eI x49.2,o32_119],16⟩) ?_
      cases h
      exact ⟨_,rfl,(wk_gcM (live:=[0,3]) (keep:=[]) 9 .u64 eI x49.2 (fun f a=>rfl) kr kr)⟩
     refine sy 9 18 (rgd (wcF (wp_skip ?_)))
     refine ⟨⟨[(0,.yld 10),(3,.int .u64 s25.1),(5,.int .u64 s25.1),(6,vB true),(11,.yld 10),(12,.int .u64 s25.1),(13,vI x28),(14,vB true)],(l32_145 (oX false false 1 (.ref 7 0 s22.2.1.length)) (oX true true 1 (.int .u64 s22.1)) (oX true true 1 (.int .u64 s22.1)) (oR true 1 eI s22.2.1) p0 x20)++[mapI .u64 eI s25.2,o32_119],16⟩,by as_aux_lemma=>kernel_rfl,?_⟩
     refine sz 1 5 (reg_end rfl (wcF (wp_skip ?_)))
     refine wp_wk (wk_gcM (live:=[0,3]) (keep:=[]) 9 .u64 eI s25.2 (fun f a=>rfl) kr (st':=⟨[(0,.yld 10),(3,.int .u64 s25.1)],(l32_145 (oX false false 1 (.ref 7 0 s22.2.1.length)) (oX true true 1 (.int .u64 s22.1)) (oX true true 1 (.int .u64 s22.1)) (oR true 1 eI s22.2.1) p0 x20)++[mapI .u64 eI s25.2,o32_119],16⟩) kr) ?_
     refine rgN (S:=⟨[(0,.yld 10),(3,.int .u64 (zv (BitVec.ofInt (IntKind.bits .u64) s25.1 &&& BitVec.ofInt (IntKind.bits .u64) (zv (s25.1 - 1))).toNat)),(7,.int .u64 s25.1),(8,.int .u64 s25.1),(9,.int .u64 (zv (s25.1 - 1))),(10,.int .u64 (zv (BitVec.ofInt (IntKind.bits .u64) s25.1 &&& BitVec.ofInt (IntKind.bits .u64) (zv (s25.1 - 1))).toNat))],(l32_145 (oX false false 1 (.ref 7 0 s22.2.1.length)) (oX true true 1 (.int .u64 s22.1)) (oX true true 1 (.int .u64 s22.1)) (oR true 1 eI s22.2.1) p0 x20)++[mapI .u64 eI s25.2,o32_119],16⟩) ?_
     cases h
     exact ⟨_,rfl,(wk_gcM (live:=[0,3]) (keep:=[]) 9 .u64 eI s25.2 (fun f a=>rfl) kr kr)⟩
    refine wcF ?_
    refine wp_wk (wk_gcM (live:=[]) (keep:=[]) 9 .u64 eI s25.2 (fun f a=>rfl) kr (st':=⟨[],(l32_145 (oX false false 1 (.ref 7 0 s22.2.1.length)) (oX true true 1 (.int .u64 s22.1)) (oX true true 1 (.int .u64 s22.1)) (oR true 1 eI s22.2.1) p0 x20)++[mapI .u64 eI s25.2,o32_119],16⟩) kr) ?_
    refine wp_exit ?_
    cases h
    exact ⟨kr,rfl⟩
   intro x53 h out hx
   subst hx
   rcases x53 with x54 | x55
   ·dsimp only at h ⊢
    refine ⟨.go (.exit 1) ⟨s32_148++[e32_139],(l32_145 (oX false false 1 (.ref 11 0 x54.2.2.length)) (oX true true 1 (.int .u64 x54.1)) (oX true true 1 (.int .u64 s22.1)) .dead p0 x20)++[mapI .u64 eI x54.2.1,.dead,oR true 1 eI x54.2.2],60⟩,by as_aux_lemma=>kernel_rfl,?_⟩
    cases h
    exact ⟨_,rfl,(wk_gcM (live:=[1,2,3,6,8,9]) (keep:=[0,1,2,3,4,5,11,8,9]) 9 .u64 eI x54.2.1 (fun f a=>rfl) kr kr)⟩
   ·dsimp only at h ⊢
    refine ⟨.go .normal ⟨s32_148++[e32_139],(l32_145 (oX false false 1 (.ref 7 0 s22.2.1.length)) (oX true true 1 (.int .u64 s22.1)) (oX true true 1 (.int .u64 s22.1)) (oR true 1 eI s22.2.1) p0 x20)++[mapI .u64 eI x55,.dead],60⟩,by as_aux_lemma=>kernel_rfl,?_⟩
    refine wg [2,3] [1,2,7] ?_
    refine wp_exit ?_
    cases h
    exact ⟨kr,rfl⟩
  refine wcF (wg [2,3] [1,2,6] ?_)
  refine wp_exit ?_
  cases h
  exact ⟨kr,rfl⟩
 intro x57 h out hx
 subst hx
 refine wp_seq (rga hfol (sy 5 5 (rgd (wg [2,3,4] [0,1,2] ?_))))
 cases h
 exact wp_ret (show fnOut _ _ _ _=_ from by kernel_rfl)
end Go.Ab
