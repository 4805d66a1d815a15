/- What functions compute. No conditions. -/
import Derived.Test.YtjhfdojgaoapcaaDoorProg
import Derived.Test.YtjhfdojgaoapcaaDoorW10
import Derived.KernelRfl
import Derived.Test.YtjhfdojgaoapcaaDoorW11
import Derived.Test.YtjhfdojgaoapcaaDoorW14
import Derived.Test.YtjhfdojgaoapcaaDoorW12
import Derived.Test.YtjhfdojgaoapcaaDoorW13
import Derived.Test.YtjhfdojgaoapcaaDoorEng7
import Derived.IntWalk
import Derived.Test.YtjhfdojgaoapcaaDoorRows
import Derived.Test.YtjhfdojgaoapcaaDoorEng6
import Derived.WalkKit
import Derived.ProofKit
import Derived.LaidMore
import Derived.Lib.LaidTab
import Derived.Stop.LaidErr
import Derived.Stop.Joined
import Derived.OpenShut
set_option linter.all false
namespace Go.Ab
open Go Go.Proofs
set_option maxRecDepth 100000
set_option maxHeartbeats 4000000
theorem g_ref02_Same_ok (p0:(List Int)) (p1:(List Int)) (x:Bool) (h:g_ref02_Same p0 p1=some x):CallOk Tryd.prog 26 [z1 p0,z1 p1] (.ret (vB x) []):=by
 refine fn_ok [] Tryd.func26 rfl (by decide +kernel) rfl ?_
 unfold g_ref02_Same at h
 refine wp_eqB (base':=0) (st':=⟨[(0,z1 p0),(1,z1 p1)],[],26⟩) kr kr ?_
 refine sq (wp_seq (wp_seq (reg_in (sz 1 1 ?_))))
 refine lenL (enc:=eI) (l:=p0) (fl:=true) kr gE ?_
 refine sz 1 3 ?_
 refine lenL (enc:=eI) (l:=p1) (fl:=true) kr gE ?_
 refine sz 1 5 (reg_end rfl ?_)
 refine wbz h (fun q2 h=>?_) (fun q2 h=>?_)
 ·refine wp_seq (wg [] [] (rn ?_))
  refine wgc [4] [] ⟨[(4,vB false)],[],26⟩ ?_
  cases h
  exact wp_ret (show fnOut _ _ _ _=_ from by kernel_rfl)
 refine wp_skip (wp_seq (wp_seq (wg [0,1] [] (rn (wp_block ?_)))))
 refine wwh h (fun s3=>⟨[(0,z1 p0),(1,z1 p1),(5,vI s3)],[],26⟩) (fun x out=>out=match x with | .inl v=>.go (.ret) ⟨[(4,vB false)],[],26⟩ | .inr v=>.go (.exit 0) ⟨[],[],26⟩) (wk_gc (live:=[0,1,5]) (keep:=[]) kr) ?_ ?_
 ·intro s3 o h
  unfold g_ref02_Same_b0 at h
  refine wp_seq (wp_seq (reg_in (sz 2 2 ?_)))
  refine lenL (enc:=eI) (l:=p0) (fl:=true) kr gE ?_
  refine sz 1 4 (reg_end rfl ?_)
  refine wb [14] h (fun q5 h=>?_) (fun q5 h=>?_)
  ·refine wcT (wp_skip (wp_seq (wp_block (wp_seq (rga hfol (sy 2 2 ?_))))))
   refine bind_elim h (fun a6 q7 h=>?_)
   refine idxL' (enc:=eI) (l:=p0) (n:=s3) (fl:=true) (w:=1) (a:=a6) kr rfl gE q7 ?_
   refine sy 3 6 ?_
   refine bind_elim h (fun a8 q9 h=>?_)
   refine idxL' (enc:=eI) (l:=p1) (n:=s3) (fl:=true) (w:=1) (a:=a8) kr rfl gE q9 ?_
   refine sy 2 9 (rgd ?_)
   refine wbz h (fun q11 h=>?_) (fun q11 h=>?_)
   ·refine wp_seq ?_
    refine wgc [] [] ⟨[],[],26⟩ ?_
    refine rn (wg [4] [] ?_)
    refine wp_ret ?_
    cases h
    exact ⟨kr,rfl⟩
   refine wp_skip ?_
   refine wgc [0,1,5] [] ⟨[(0,z1 p0),(1,z1 p1),(5,vI s3)],[],26⟩ ?_
   refine rn ?_
   cases h
   exact ⟨_,rfl,(wk_gc (live:=[0,1,5]) (keep:=[]) kr)⟩
  refine wcF (wg [] [] ?_)
  refine wp_exit ?_
  cases h
  exact ⟨kr,rfl⟩
 intro x12 h out hx
 subst hx
 rcases x12 with x13 | x14
 ·dsimp only at h ⊢
  cases h
  show fnOut _ _ _ _=_
  kernel_rfl
 ·dsimp only at h ⊢
  refine sq (wg [4] [] ?_)
  cases h
  exact wp_ret (show fnOut _ _ _ _=_ from by kernel_rfl)
theorem g_ref08_find_okN:∀(n:Nat) (p0:(List Int)) (p1:Int) (p2:Int) (p3:Int) (x:((List Int) × Bool)),recN g_ref08_find_F n (p0,p1,p2,p3)=some x→CallOk Tryd.prog 70 [eL true (AV.int .u64) p0,.int .u64 p1,vI p2,vI p3] (.ret (.tup [.ref 0 0 x.1.length,vB x.2]) [oR true 1 eI x.1])
 | 0,p0,p1,p2,p3,_,h=>by cases h
 | n+1,p0,p1,p2,p3,x,h=>by
  change g_ref08_find_F (recN g_ref08_find_F n) (p0,p1,p2,p3)=some x at h
  have IH:=g_ref08_find_okN n
  generalize recN g_ref08_find_F n=rc0 at h IH
  refine fn_ok [] Tryd.func70 rfl (by decide +kernel) rfl ?_
  unfold g_ref08_find_F at h
  dsimp only at h
  refine wp_eqB (base':=0) (st':=⟨[(0,eL true (AV.int .u64) p0),(1,.int .u64 p1),(2,vI p2),(3,vI p3)],[],51⟩) kr kr ?_
  refine sq (wp_seq (sq ?_))
  refine wb [14] h (fun q2 h=>?_) (fun q2 h=>?_)
  ·refine wcT (wp_seq (wg [] [] (rn (wg [8,9] [] ?_))))
   refine wp_wk (wk_nil 8 1 true true gE) ?_
   cases h
   exact wp_ret (show fnOut _ _ _ _=_ from by kernel_rfl)
  refine wcF (wp_skip (wp_seq (sq (wp_block ?_))))
  refine wwh h (fun s3=>⟨[(0,eL true (AV.int .u64) p0),(1,.int .u64 p1),(2,vI p2),(3,vI p3),(10,vI s3)],[],51⟩) (fun x out=>out=match x with | .inl v=>.go (.ret) ⟨[(8,.ref 0 0 v.length),(9,vB true)],[oR true 1 eI v],51⟩ | .inr v=>.go (.exit 0) ⟨[],[],51⟩) (wk_gc (live:=[0,1,2,3,10]) (keep:=[]) kr) ?_ ?_
  ·intro s3 o h
   unfold g_ref08_find_b0 at h
   refine wp_seq (wp_seq (reg_in (sz 2 2 ?_)))
   refine lenL (enc:=(AV.int .u64)) (l:=p0) (fl:=true) kr gE ?_
   refine sz 1 4 (reg_end rfl ?_)
   refine wb [18] h (fun q5 h=>?_) (fun q5 h=>?_)
   ·refine wcT (wp_skip (wp_seq (wp_block (wp_seq (wp_seq (reg_in (sz 2 2 ?_)))))))
    refine callW bodyB_46 (g_ref05_In_ok p1 s3) h (fun x6 _ h=>?_)
    refine sz 1 4 ?_
    refine rw_wk (wk_gc (live:=[0,1,2,3,10,24]) (keep:=[]) (st':=⟨[(0,eL true (AV.int .u64) p0),(1,.int .u64 p1),(2,vI p2),(3,vI p3),(10,vI s3),(24,vB x6)],[],51⟩) kr) ?_
    refine rb [24] h (fun q9 h=>?_) (fun q9 h=>?_)
    ·refine sz 6 10 (reg_end rfl (wcT (wg [0,1,2,3,10] [] ?_)))
     refine wp_exit ?_
     refine rn ?_
     cases h
     exact ⟨_,rfl,(wk_gc (live:=[0,1,2,3,10]) (keep:=[]) kr)⟩
    refine sz 2 6 ?_
    refine callW bodyB_56 (g_ref08_Degree_ok p0 s3) h (fun x10 _ h=>?_)
    refine sz 3 10 (reg_end rfl ?_)
    refine wbz h (fun q13 h=>?_) (fun q13 h=>?_)
    ·refine wg [0,1,2,3,10] [] ?_
     refine wp_exit ?_
     refine rn ?_
     cases h
     exact ⟨_,rfl,(wk_gc (live:=[0,1,2,3,10]) (keep:=[]) kr)⟩
    refine wp_skip (wp_seq (wg [0,1,2,3,10] [] (reg_in (sz 2 2 ?_))))
    refine callW bodyB_55 (g_ref08_Eliminate_ok p0 s3) h (fun x14 _ h=>?_)
    refine sz 3 6 ?_
    refine shlR (k:=.u64) (k':=.u64) (a:=1) (b:=IntKind.u64.wrap (s3)) kr gE h (fun h=>?_)
    refine sz 4 11 ?_
    refine callR (as0:=[.ref 0 0 x14.length,.int .u64 (IntKind.u64.wrap (BitVec.ofInt (IntKind.bits .u64) p1 ||| BitVec.ofInt (IntKind.bits .u64) (IntKind.u64.wrap (1*2^min (Int.toNat (IntKind.u64.wrap (s3))) (IntKind.bits .u64)))).toNat),vI (IntKind.i64.wrap (p2 - 1)),vI p3]) (ids:=[0]) kr bodyB_70 (msnap_cons (snap_full (w:=1) (bx:=false) (ro:=false) (enc:=(AV.int .u64)) (l:=x14) (fl:=true) kr) (msnap_cons rfl (msnap_cons rfl (msnap_cons rfl msnap_nil (by rfl)) (by rfl)) (by rfl)) (by rfl)) (fun x16 q17=>IH x14 (IntKind.u64.wrap (BitVec.ofInt (IntKind.bits .u64) p1 ||| BitVec.ofInt (IntKind.bits .u64) (IntKind.u64.wrap (1*2^min (Int.toNat (IntKind.u64.wrap (s3))) (IntKind.bits .u64)))).toNat) (IntKind.i64.wrap (p2 - 1)) p3 x16 q17) gF h (fun x16 q17 h=>?_)
    refine sz 5 17 (reg_end rfl (wp_seq ?_))
    refine wgc [0,1,2,3,10,11,12] [1] ⟨[(0,eL true (AV.int .u64) p0),(1,.int .u64 p1),(2,vI p2),(3,vI p3),(10,vI s3),(11,.ref 0 0 x16.1.length),(12,vB x16.2)],[oR true 1 eI x16.1],51⟩ ?_
    refine rn ?_
    refine wb [12,46] h (fun q19 h=>?_) (fun q19 h=>?_)
    ·refine wcT (wp_seq (wg [10,11] [0] (reg_in (sz 1 1 ?_))))
     refine sgL false [] [] true gE ?_
     refine sz 1 3 ?_
     refine appR (enc:=eI) (l:=([s3]:(List Int))) (m:=x16.1) (w:=1) (bytes:=8) (ob:=1) (nr:=true) (fl:=true) (nr':=true) (fl':=true) (b:=.ref 0 0 x16.1.length) (rds:=[0]) false kr kr (elems_ref (ro:=false) kr) rfl gE kr h (fun h=>?_)
     refine sz 2 6 (reg_end rfl (wg [8,9] [2] ?_))
     refine wp_ret ?_
     cases h
     exact ⟨kr,rfl⟩
    refine wcF (wp_skip (rn ?_))
    cases h
    exact ⟨_,rfl,(wk_gc (live:=[0,1,2,3,10]) (keep:=[]) kr)⟩
   refine wcF (wg [] [] ?_)
   refine wp_exit ?_
   cases h
   exact ⟨kr,rfl⟩
  intro x20 h out hx
  subst hx
  rcases x20 with x21 | x22
  ·dsimp only at h ⊢
   cases h
   show fnOut _ _ _ _=_
   kernel_rfl
  ·dsimp only at h ⊢
   refine sq (wg [8,9] [] ?_)
   refine wp_wk (wk_nil 8 1 true true gE) ?_
   cases h
   exact wp_ret (show fnOut _ _ _ _=_ from by kernel_rfl)
theorem g_ref08_find_ok (p0:(List Int)) (p1:Int) (p2:Int) (p3:Int) (x:((List Int) × Bool)) (h:g_ref08_find p0 p1 p2 p3=some x):CallOk Tryd.prog 70 [eL true (AV.int .u64) p0,.int .u64 p1,vI p2,vI p3] (.ret (.tup [.ref 0 0 x.1.length,vB x.2]) [oR true 1 eI x.1]):=g_ref08_find_okN fuel p0 p1 p2 p3 x h
theorem g_ref08_Best_ok (p0:(List Int)) (x:((List Int) × Int)) (h:g_ref08_Best p0=some x):CallOk Tryd.prog 32 [eL true (AV.int .u64) p0] (.ret (.tup [.ref 0 0 x.1.length,vI x.2]) [oR true 1 eI x.1]):=by
 refine fn_ok [] Tryd.func32 rfl (by decide +kernel) rfl ?_
 unfold g_ref08_Best at h
 refine wp_eqB (base':=0) (st':=⟨[(0,eL true (AV.int .u64) p0)],[],24⟩) kr kr ?_
 refine sq (wp_seq (sq (wp_block ?_)))
 refine wwh h (fun s1=>⟨[(0,eL true (AV.int .u64) p0),(4,vI s1)],[],24⟩) (fun x out=>out=match x with | .inl v=>.go (.ret) ⟨[(2,.ref 0 0 v.2.length),(3,vI v.1)],[oR true 1 eI v.2],24⟩ | .inr v=>.go (.exit 0) ⟨[],[],24⟩) (wk_gc (live:=[0,4]) (keep:=[]) kr) ?_ ?_
 ·intro s1 o h
  unfold g_ref08_Best_b0 at h
  refine wp_seq (wp_seq (reg_in (sz 2 2 ?_)))
  refine lenL (enc:=(AV.int .u64)) (l:=p0) (fl:=true) kr gE ?_
  refine sz 1 4 (reg_end rfl ?_)
  refine wb [10] h (fun q3 h=>?_) (fun q3 h=>?_)
  ·refine wcT (wp_skip (wp_seq (wp_block (wp_seq (reg_in (sz 2 2 ?_))))))
   refine lenL (enc:=(AV.int .u64)) (l:=p0) (fl:=true) kr gE ?_
   refine sz 1 4 ?_
   refine callW bodyB_70 (g_ref08_find_ok p0 0 (zn p0) s1) h (fun x4 _ h=>?_)
   refine sz 5 10 (reg_end rfl (wp_seq ?_))
   refine wgc [0,4,5,6] [0] ⟨[(0,eL true (AV.int .u64) p0),(4,vI s1),(5,.ref 0 0 x4.1.length),(6,vB x4.2)],[oR true 1 eI x4.1],24⟩ ?_
   refine rn ?_
   refine wb [6,21] h (fun q7 h=>?_) (fun q7 h=>?_)
   ·refine wcT (sq (wg [2,3] [0] ?_))
    refine wp_ret ?_
    cases h
    exact ⟨kr,rfl⟩
   refine wcF (wp_skip (rn ?_))
   cases h
   exact ⟨_,rfl,(wk_gc (live:=[0,4]) (keep:=[]) kr)⟩
  refine wcF (wg [] [] ?_)
  refine wp_exit ?_
  cases h
  exact ⟨kr,rfl⟩
 intro x8 h out hx
 subst hx
 rcases x8 with x9 | x10
 ·dsimp only at h ⊢
  cases h
  show fnOut _ _ _ _=_
  kernel_rfl
 ·dsimp only at h ⊢
  refine sq (wg [2,3] [] ?_)
  refine wp_wk (wk_nil 2 1 true true gE) ?_
  cases h
  exact wp_ret (show fnOut _ _ _ _=_ from by kernel_rfl)
noncomputable abbrev e58_184 (x5:((List Int) × (List Int) × (List Int))):Nat×AV:=(16,.agg [eL true (AV.int .u64) x5.1,eL true (AV.int .u64) x5.2.1,eL true (AV.int .u64) x5.2.2])
theorem g_law08_OrderBests_ok (p0:(List Int)) (p1:Tharuspexref08_Draft) (x:Bool) (h:g_law08_OrderBests p0 p1=some x):CallOk Tryd.prog 5 [eL true (AV.int .u64) p0,.agg [.int .u8 p1.N,eL true (fun x:(Int × Int)=>AV.agg [.int .u8 x.1,.int .u8 x.2]) p1.E,eL true (AV.int .u8) p1.Order]] (.ret (vB x) []):=by
 refine fn_ok [] Tryd.func5 rfl (by decide +kernel) rfl ?_
 unfold g_law08_OrderBests at h
 refine wp_eqB (base':=0) (st':=⟨[(0,eL true (AV.int .u64) p0),(1,.agg [.int .u8 p1.N,eL true (fun x:(Int × Int)=>AV.agg [.int .u8 x.1,.int .u8 x.2]) p1.E,eL true (AV.int .u8) p1.Order])],[],59⟩) kr kr ?_
 refine wp_seq (reg_in ?_)
 refine sgL false [] [] false gE ?_
 refine sz 1 2 (reg_end rfl (wp_seq (wp_seq (reg_in ?_))))
 refine callW bodyB_11 (g_law08_works_ok ) h (fun x1 _ h=>?_)
 refine sz 1 2 (reg_end rfl ?_)
 refine wb [13] h (fun q4 h=>?_) (fun q4 h=>?_)
 ·refine wcT (wp_seq (wg [] [] (rn ?_)))
  refine wgc [4] [] ⟨[(4,vB false)],[],59⟩ ?_
  cases h
  exact wp_ret (show fnOut _ _ _ _=_ from by kernel_rfl)
 refine wcF (wp_skip (wp_seq (wp_seq (reg_in (sz 2 2 ?_)))))
 refine callW bodyB_12 (g_law08_graphs_ok p0 p1) h (fun x5 _ h=>?_)
 refine sz 1 4 (reg_end rfl (wp_block ?_))
 refine wwh h (fun s7=>⟨[(e58_184 x5),(17,vI s7)],[],59⟩) (fun x out=>out=match x with | .inl v=>.go (.ret) ⟨[(4,vB false)],[],59⟩ | .inr v=>.go (.exit 0) ⟨[],[],59⟩) (wk_gc (live:=[16,17]) (keep:=[]) kr) ?_ ?_
 ·intro s7 o h
  unfold g_law08_OrderBests_b0 at h
  refine sq (wp_seq ?_)
  refine wb [18] h (fun q9 h=>?_) (fun q9 h=>?_)
  ·refine wcT (wp_skip (wp_seq (wp_block (wp_seq (reg_in ?_)))))
   refine bind_elim h (fun a10 q11 h=>?_)
   refine idxA (enc:=(eL true (AV.int .u64))) (l:=([x5.1,x5.2.1,x5.2.2]:(List (List Int)))) (n:=s7) (a:=a10) (w:=1) (g:=false) (v:=eL true (AV.int .u64) a10) kr (fun _=>rfl) rfl q11 kr gE ?_
   refine sz 1 2 (reg_end rfl (wp_seq (reg_in (sz 1 1 ?_))))
   refine callW bodyB_31 (g_order_Best_ok a10) h (fun x12 _ h=>?_)
   refine sz 7 9 (reg_end rfl (wp_seq (wp_seq ?_)))
   refine wgc [16,17,6,7,8,9] [0] ⟨[(e58_184 x5),(17,vI s7),(6,eL true (AV.int .u64) a10),(7,.ref 0 0 x12.1.length),(8,vI x12.2.1),(9,vI x12.2.2)],[oR true 1 eI x12.1],59⟩ ?_
   refine reg_in (sz 1 1 ?_)
   refine callW bodyB_13 (g_ref08_Right_ok a10) h (fun x14 _ h=>?_)
   refine sz 1 3 (reg_end rfl ?_)
   refine wb [28] h (fun q17 h=>?_) (fun q17 h=>?_)
   ·refine wcT (wp_seq (wp_seq (reg_in (sz 4 4 (rwg [16,17,8,9,32] [] ?_)))))
    refine rb [32] h (fun q19 h=>?_) (fun q19 h=>?_)
    ·refine sz 7 11 (reg_end rfl (wcT (wp_seq ?_)))
     refine wgc [] [] ⟨[],[],59⟩ ?_
     refine rn (wg [4] [] ?_)
     refine wp_ret ?_
     cases h
     exact ⟨kr,rfl⟩
    refine sz 4 8 ?_
    refine rw_wk (wk_gc (live:=[16,17,9,36]) (keep:=[]) (st':=⟨[(e58_184 x5),(17,vI s7),(9,vI x12.2.2),(36,vB (x12.2.1 != 0))],[],59⟩) kr) ?_
    refine rb [36] h (fun q21 h=>?_) (fun q21 h=>?_)
    ·refine sz 3 11 (reg_end rfl (wcT (wp_seq (wg [] [] (rn (wg [4] [] ?_))))))
     refine wp_ret ?_
     cases h
     exact ⟨kr,rfl⟩
    refine sz 3 11 (reg_end rfl ?_)
    refine wbz h (fun q23 h=>?_) (fun q23 h=>?_)
    ·refine wp_seq (wg [] [] (rn (wg [4] [] ?_)))
     refine wp_ret ?_
     cases h
     exact ⟨kr,rfl⟩
    refine wp_skip (wg [16,17] [] ?_)
    refine wp_exit ?_
    refine rn ?_
    cases h
    exact ⟨_,rfl,(wk_gc (live:=[16,17]) (keep:=[]) kr)⟩
   refine wcF (wp_skip (wp_seq (reg_in (sz 1 1 ?_))))
   refine callW bodyB_32 (g_ref08_Best_ok a10) h (fun x24 _ h=>?_)
   refine sz 5 7 (reg_end rfl (wp_seq ?_))
   refine wgc [16,17,7,8,9,10,11] [0,1] ⟨[(e58_184 x5),(17,vI s7),(7,.ref 0 0 x12.1.length),(8,vI x12.2.1),(9,vI x12.2.2),(10,.ref 1 0 x24.1.length),(11,vI x24.2)],[oR true 1 eI x12.1,oR true 1 eI x24.1],59⟩ ?_
   refine reg_in (sz 3 3 ?_)
   refine rb [46,47] h (fun q27 h=>?_) (fun q27 h=>?_)
   ·refine sz 10 13 (reg_end rfl (wcT (wp_seq (wg [] [] (rn ?_)))))
    refine wgc [4] [] ⟨[(4,vB false)],[],59⟩ ?_
    refine wp_ret ?_
    cases h
    exact ⟨kr,rfl⟩
   refine sz 5 8 (rwg [16,17,7,10,52] [0,1] ?_)
   refine rb [52] h (fun q29 h=>?_) (fun q29 h=>?_)
   ·refine sz 5 13 (reg_end rfl (wcT (wp_seq ?_)))
    refine wgc [] [] ⟨[],[],59⟩ ?_
    refine rn (wg [4] [] ?_)
    refine wp_ret ?_
    cases h
    exact ⟨kr,rfl⟩
   refine sz 2 10 ?_
   refine callR (as0:=[.ref 0 0 x12.1.length,.ref 1 0 x24.1.length]) (ids:=[0,1]) kr bodyB_26 (msnap_cons (snap_full (w:=1) (bx:=false) (ro:=false) (enc:=eI) (l:=x12.1) (fl:=true) kr) (msnap_cons (snap_full (w:=1) (bx:=false) (ro:=false) (enc:=eI) (l:=x24.1) (fl:=true) kr) msnap_nil (by rfl)) (by rfl)) (fun x30 q31=>g_ref02_Same_ok x12.1 x24.1 x30 q31) gF h (fun x30 q31 h=>?_)
   refine sz 2 13 (reg_end rfl ?_)
   refine wbz h (fun q33 h=>?_) (fun q33 h=>?_)
   ·refine wp_seq ?_
    refine wgc [] [] ⟨[],[],59⟩ ?_
    refine rn (wg [4] [] ?_)
    refine wp_ret ?_
    cases h
    exact ⟨kr,rfl⟩
   refine wp_skip ?_
   refine wgc [16,17] [] ⟨[(e58_184 x5),(17,vI s7)],[],59⟩ ?_
   refine rn ?_
   cases h
   exact ⟨_,rfl,(wk_gc (live:=[16,17]) (keep:=[]) kr)⟩
  refine wcF (wg [] [] ?_)
  refine wp_exit ?_
  cases h
  exact ⟨kr,rfl⟩
 intro x34 h out hx
 subst hx
 rcases x34 with x35 | x36
 ·dsimp only at h ⊢
  cases h
  show fnOut _ _ _ _=_
  kernel_rfl
 ·dsimp only at h ⊢
  refine sq (wg [4] [] ?_)
  cases h
  exact wp_ret (show fnOut _ _ _ _=_ from by kernel_rfl)
end Go.Ab
namespace Go.Ab
open Go
theorem whileN_spec {σ ρ:Type} {body:σ→Option (Step σ ρ)} (I:σ→Prop) (m:σ→Nat) (Q:ρ→Prop)
  (step:∀s,I s→(∃s',body s=some (.next s')∧I s'∧m s' < m s)∨(∃r,body s=some (.done r)∧Q r)) :
  ∀(n:Nat) (s:σ),I s→m s < n→∃r,whileN n body s=some r∧Q r
 | 0,s,_,h=>by omega
 | n+1,s,hI,h=>by
  unfold whileN
  rcases step s hI with ⟨s',h1,h2,h3⟩ | ⟨r,h1,h2⟩
  ·rw [h1]
   exact whileN_spec I m Q step n s' h2 (by omega)
  ·rw [h1]
   exact ⟨r,rfl,h2⟩
theorem whileN_ex {σ ρ:Type} {body:σ→Option (Step σ ρ)} (I:σ→Prop) (m:σ→Nat) (Q:ρ→Prop)
  (step:∀s,I s→(∃s',body s=some (.next s')∧I s'∧m s' < m s)∨(∃r,body s=some (.done r)∧Q r)) (s:σ) (hI:I s) (hm:m s < 1152921504606846976):∃r,whileN fuel body s=some r∧Q r :=
 whileN_spec I m Q step fuel s hI hm
theorem w64 {n:Int} (h:-9223372036854775808≤n∧n≤9223372036854775807):IntKind.i64.wrap n=n:=by rw [IntKind.wrap_i64]; omega
theorem lkI_nat {α:Type} {l:List α} {k:Nat} (h:k < l.length):lkI l (k:Int)=some l[k]:=by
 unfold lkI
 rw [if_neg (by omega),Int.toNat_natCast,List.getElem?_eq_getElem h]
theorem tmod_pos {a b:Int} (h:0≤a):Int.tmod a b=a % b:=Int.tmod_eq_emod_of_nonneg h
end Go.Ab
namespace Go.Ab
open Go
theorem one62 {cs:List AV} (h:WT (.int .u64) cs):∃a:Int,cs=[(AV.int .u64) a]∧(Lit.int .u64 a).wf=true:=by
 obtain ⟨n,rfl,w⟩:=h
 exact ⟨n,rfl,w⟩
theorem el62 {x:AV} (h:WT (.int .u64) x.flat ∧ (if false then x=.agg x.flat else x.cell=true)):∃a:Int,x=(AV.int .u64) a∧(Lit.int .u64 a).wf=true:=by
 obtain ⟨a,h1,h2⟩:=one62 h.1
 rw [flat_cell h.2] at h1
 exact ⟨a,(List.cons.inj h1).1,h2⟩
theorem one22 {cs:List AV} (h:WT (.slice true false 1 (.int .u64)) cs):∃a:(List Int),cs=[(eL true (AV.int .u64)) a]∧(a.length≤maxLen∧∀y0∈a,(Lit.int .u64 y0).wf=true):=by
 obtain ⟨xs,rfl,hl,hx⟩:=h
 obtain ⟨l,rfl,hr⟩:=lists_of (enc:=(AV.int .u64)) (R:=fun a=>(Lit.int .u64 a).wf=true) (fun x hm=>el62 (hx x hm))
 exact ⟨l,rfl,by simpa using hl,hr⟩
theorem one5 {cs:List AV} (h:WT (.int .u8) cs):∃a:Int,cs=[(AV.int .u8) a]∧(Lit.int .u8 a).wf=true:=by
 obtain ⟨n,rfl,w⟩:=h
 exact ⟨n,rfl,w⟩
theorem el5 {x:AV} (h:WT (.int .u8) x.flat ∧ (if false then x=.agg x.flat else x.cell=true)):∃a:Int,x=(AV.int .u8) a∧(Lit.int .u8 a).wf=true:=by
 obtain ⟨a,h1,h2⟩:=one5 h.1
 rw [flat_cell h.2] at h1
 exact ⟨a,(List.cons.inj h1).1,h2⟩
theorem rdA113 {cs:List AV} (h:WT (.cat (.int .u8) (.cat (.int .u8) .unit)) cs):∃x:(Int × Int),AV.agg cs=(fun x:(Int × Int)=>AV.agg [.int .u8 x.1,.int .u8 x.2]) x∧((Lit.int .u8 x.1).wf=true∧(Lit.int .u8 x.2).wf=true):=by
 obtain ⟨_,_,rfl,a0,r0⟩:=h
 obtain ⟨v0,e0,w0⟩:=one5 a0
 cases e0
 obtain ⟨_,_,rfl,a1,r1⟩:=r0
 obtain ⟨v1,e1,w1⟩:=one5 a1
 cases e1
 cases r1
 exact ⟨(v0,v1),rfl,⟨w0,w1⟩⟩
theorem el113 {x:AV} (h:WT (.cat (.int .u8) (.cat (.int .u8) .unit)) x.flat ∧ (if true then x=.agg x.flat else x.cell=true)):∃a:(Int × Int),x=(fun x:(Int × Int)=>AV.agg [.int .u8 x.1,.int .u8 x.2]) a∧((Lit.int .u8 a.1).wf=true∧(Lit.int .u8 a.2).wf=true):=by
 obtain ⟨a,h1,h2⟩:=rdA113 h.1
 have h3:x=.agg x.flat := h.2
 exact ⟨a,h3.trans h1,h2⟩
theorem one24 {cs:List AV} (h:WT (.slice true true 2 (.cat (.int .u8) (.cat (.int .u8) .unit))) cs):∃a:(List (Int × Int)),cs=[(eL true (fun x:(Int × Int)=>AV.agg [.int .u8 x.1,.int .u8 x.2])) a]∧(a.length≤maxLen∧∀y0∈a,((Lit.int .u8 y0.1).wf=true∧(Lit.int .u8 y0.2).wf=true)):=by
 obtain ⟨xs,rfl,hl,hx⟩:=h
 obtain ⟨l,rfl,hr⟩:=lists_of (enc:=(fun x:(Int × Int)=>AV.agg [.int .u8 x.1,.int .u8 x.2])) (R:=fun a=>((Lit.int .u8 a.1).wf=true∧(Lit.int .u8 a.2).wf=true)) (fun x hm=>el113 (hx x hm))
 exact ⟨l,rfl,by simpa using hl,hr⟩
theorem one25 {cs:List AV} (h:WT (.slice true false 1 (.int .u8)) cs):∃a:(List Int),cs=[(eL true (AV.int .u8)) a]∧(a.length≤maxLen∧∀y0∈a,(Lit.int .u8 y0).wf=true):=by
 obtain ⟨xs,rfl,hl,hx⟩:=h
 obtain ⟨l,rfl,hr⟩:=lists_of (enc:=(AV.int .u8)) (R:=fun a=>(Lit.int .u8 a).wf=true) (fun x hm=>el5 (hx x hm))
 exact ⟨l,rfl,by simpa using hl,hr⟩
def okTharuspexref08_Draft (x:Tharuspexref08_Draft):Prop:=((Lit.int .u8 x.N).wf=true)∧((x.E.length≤maxLen∧∀y0∈x.E,((Lit.int .u8 y0.1).wf=true∧(Lit.int .u8 y0.2).wf=true)))∧((x.Order.length≤maxLen∧∀y0∈x.Order,(Lit.int .u8 y0).wf=true))
theorem rdTharuspexref08_Draft {cs:List AV} (h:WT (.cat (.int .u8) (.cat (.slice true true 2 (.cat (.int .u8) (.cat (.int .u8) .unit))) (.cat (.slice true false 1 (.int .u8)) .unit))) cs):∃x:Tharuspexref08_Draft,AV.agg cs=eTharuspexref08_Draft x∧okTharuspexref08_Draft x:=by
 obtain ⟨_,_,rfl,a0,r0⟩:=h
 obtain ⟨v0,e0,w0⟩:=one5 a0
 cases e0
 obtain ⟨_,_,rfl,a1,r1⟩:=r0
 obtain ⟨v1,e1,w1⟩:=one24 a1
 cases e1
 obtain ⟨_,_,rfl,a2,r2⟩:=r1
 obtain ⟨v2,e2,w2⟩:=one25 a2
 cases e2
 cases r2
 exact ⟨⟨v0,v1,v2⟩,rfl,⟨w0,w1,w2⟩⟩
end Go.Ab
namespace Go.Ab
open Go
set_option maxRecDepth 100000
set_option maxHeartbeats 400000
def msk:Nat → (Nat → Bool)→Nat
 | 0,_=>0
 | n+1,p=>msk n p ||| (if p n then 2^n else 0)
theorem msk_bit (n:Nat) (p:Nat → Bool) (i:Nat):(msk n p).testBit i=(decide (i < n) && p i):=by
 induction n with
 | zero=>simp [msk]
 | succ n ih =>
  unfold msk
  rw [Nat.testBit_or,ih]
  by_cases h:i=n
  ·subst h
   cases hp:p i <;> simp [hp]
  ·have e:decide (i < n+1)=decide (i < n):=by by_cases h2:i < n <;> simp [h2] <;> omega
   rw [e]
   cases hp:p n
   ·simp
   ·simp only [if_true,Nat.testBit_two_pow]
    have e2:¬ n=i:=fun e=>h e.symm
    simp [e2]
theorem msk_lt (n:Nat) (p:Nat → Bool):msk n p < 2^n:=by
 induction n with
 | zero=>simp [msk]
 | succ n ih =>
  unfold msk
  refine Nat.or_lt_two_pow (Nat.lt_of_lt_of_le ih (Nat.pow_le_pow_right (by omega) (by omega))) ?_
  split
  ·exact Nat.pow_lt_pow_right (by omega) (by omega)
  ·exact Nat.two_pow_pos _
theorem msk_eq {n:Nat} {p:Nat → Bool} {a:Nat} (ha:a < 2^n) (h:∀i,i < n→a.testBit i=p i):a=msk n p:=by
 apply Nat.eq_of_testBit_eq
 intro i
 rw [msk_bit]
 by_cases hi:i < n
 ·simp [hi,h i hi]
 ·rw [Nat.testBit_lt_two_pow (Nat.lt_of_lt_of_le ha (Nat.pow_le_pow_right (by omega) (by omega)))]; simp [hi]
theorem msk_congr {n:Nat} {p q:Nat → Bool} (h:∀i,i < n→p i=q i):msk n p=msk n q :=
 msk_eq (msk_lt n p) fun i hi=>by rw [msk_bit,h i hi]; simp [hi]
theorem msk_inj {n:Nat} {p q:Nat → Bool} (h:msk n p=msk n q):∀i,i < n→p i=q i:=fun i hi=>by
 have:=msk_bit n p i
 rw [h,msk_bit] at this
 simpa [hi] using this.symm
theorem lt1024 {n a:Nat} (hn:n≤10) (ha:a < 2^n):a < 1024:=Nat.lt_of_lt_of_le ha (Nat.pow_le_pow_right (n:=2) (by omega) hn)
theorem lt64 {n a:Nat} (hn:n≤10) (ha:a < 2^n):a < 18446744073709551616:=by have:=lt1024 hn ha; omega
theorem u64_nat {n:Nat} (h:n < 18446744073709551616):IntKind.u64.wrap (n:Int)=(n:Int):=by
 simp [IntKind.wrap,IntKind.bits,IntKind.signed]; omega
theorem bv_nat {a:Nat} (h:a < 18446744073709551616):(BitVec.ofInt (IntKind.bits .u64) (a:Int)).toNat = a:=by
 rw [BitVec.ofInt_natCast,BitVec.toNat_ofNat]
 exact Nat.mod_eq_of_lt h
theorem fdiv_pow {a k:Nat}:Int.fdiv (a:Int) ((2:Int)^k)=((a / 2^k:Nat):Int):=by
 rw [Int.fdiv_eq_ediv_of_nonneg _ (by exact_mod_cast Nat.zero_le (2^k))]
 simp
theorem bv_bit {a j:Nat} (h:a < 18446744073709551616):(BitVec.ofInt (IntKind.bits .u64) (a:Int)).getLsbD j=a.testBit j:=by unfold BitVec.getLsbD; rw [bv_nat h]
theorem u_sh {v:Nat} (hv:v < 64):IntKind.u64.wrap (1*2^min (Int.toNat (v:Int)) (IntKind.bits .u64))=((2^v:Nat):Int):=by
 have hb:IntKind.bits .u64=64:=rfl
 have e0:min (Int.toNat (v:Int)) (IntKind.bits .u64)=v:=by rw [hb,Int.toNat_natCast]; omega
 have hp:2^v < 18446744073709551616:=Nat.pow_lt_pow_right (n:=64) (by omega) hv
 rw [e0,show (1:Int)*2^v=((2^v:Nat):Int) by simp,u64_nat hp]
theorem pow64 {v:Nat} (hv:v < 64):2^v < 18446744073709551616:=Nat.pow_lt_pow_right (n:=64) (by omega) hv
theorem u_diff {n:Nat} {p q:Nat → Bool} {a b:Nat} (hn:n≤64) (ha:a < 2^n) (hb:b < 18446744073709551616) (hp:∀i,i < n→a.testBit i=p i) (hq:∀i,i < n→b.testBit i=q i) :
  IntKind.u64.wrap (BitVec.ofInt (IntKind.bits .u64) (a:Int) &&& ~~~ BitVec.ofInt (IntKind.bits .u64) (b:Int)).toNat = ((msk n fun i=>p i && !q i:Nat):Int):=by
 have ha':a < 18446744073709551616:=Nat.lt_of_lt_of_le ha (Nat.pow_le_pow_right (n:=2) (by omega) hn)
 have h1:(BitVec.ofInt (IntKind.bits .u64) (a:Int) &&& ~~~ BitVec.ofInt (IntKind.bits .u64) (b:Int)).toNat < 18446744073709551616:=BitVec.isLt _
 rw [u64_nat h1]
 congr 1
 refine msk_eq ?_ fun i hi=>?_
 ·refine Nat.lt_of_le_of_lt ?_ ha
  rw [BitVec.toNat_and,bv_nat ha']
  exact Nat.and_le_left
 ·have:i < 64:=by omega
  have e:(BitVec.ofInt (IntKind.bits .u64) (a:Int) &&& ~~~ BitVec.ofInt (IntKind.bits .u64) (b:Int)).toNat.testBit i=(BitVec.ofInt (IntKind.bits .u64) (a:Int) &&& ~~~ BitVec.ofInt (IntKind.bits .u64) (b:Int)).getLsbD i:=rfl
  rw [e,BitVec.getLsbD_and,BitVec.getLsbD_not,bv_bit ha',bv_bit hb,hp i hi,hq i hi]
  have h64:i < IntKind.bits .u64:=this
  simp [h64]
theorem u_or {n:Nat} {p q:Nat → Bool} {a b:Nat} (hn:n≤64) (ha:a < 2^n) (hb:b < 2^n) (hp:∀i,i < n→a.testBit i=p i) (hq:∀i,i < n→b.testBit i=q i) :
  IntKind.u64.wrap (BitVec.ofInt (IntKind.bits .u64) (a:Int) ||| BitVec.ofInt (IntKind.bits .u64) (b:Int)).toNat = ((msk n fun i=>p i || q i:Nat):Int):=by
 have h64:2^n≤2^64:=Nat.pow_le_pow_right (n:=2) (by omega) hn
 have ha':a < 18446744073709551616:=Nat.lt_of_lt_of_le ha h64
 have hb':b < 18446744073709551616:=Nat.lt_of_lt_of_le hb h64
 rw [BitVec.toNat_or,bv_nat ha',bv_nat hb',u64_nat (Nat.or_lt_two_pow (n:=64) ha' hb')]
 congr 1
 exact msk_eq (Nat.or_lt_two_pow ha hb) fun i hi=>by rw [Nat.testBit_or,hp i hi,hq i hi]
theorem bit_pow (v i:Nat):(2^v).testBit i=decide (v=i):=Nat.testBit_two_pow
theorem bitS {n:Nat} {p:Nat → Bool}:∀i,i < n→(msk n p).testBit i=p i:=fun i hi=>by rw [msk_bit]; simp [hi]
theorem u_del {n v:Nat} {p:Nat → Bool} (hn:n≤10) (hv:v < 64):IntKind.u64.wrap (BitVec.ofInt (IntKind.bits .u64) ((msk n p:Nat):Int) &&& ~~~ BitVec.ofInt (IntKind.bits .u64) (IntKind.u64.wrap (1*2^min (Int.toNat (v:Int)) (IntKind.bits .u64)))).toNat = ((msk n fun i=>p i && !decide (v=i):Nat):Int):=by
 rw [u_sh hv]
 exact u_diff (by omega) (msk_lt n p) (pow64 hv) bitS fun i _=>bit_pow v i
theorem u_ins {n v:Nat} {p:Nat → Bool} (hn:n≤10) (hv:v < n):IntKind.u64.wrap (BitVec.ofInt (IntKind.bits .u64) ((msk n p:Nat):Int) ||| BitVec.ofInt (IntKind.bits .u64) (IntKind.u64.wrap (1*2^min (Int.toNat (v:Int)) (IntKind.bits .u64)))).toNat = ((msk n fun i=>p i || decide (v=i):Nat):Int):=by
 rw [u_sh (by omega)]
 exact u_or (by omega) (msk_lt n p) (Nat.pow_lt_pow_right (by omega) hv) bitS fun i _=>bit_pow v i
theorem u_bit {a k:Nat} (ha:a < 18446744073709551616) (hk:k < 64) :
  IntKind.u64.wrap (BitVec.ofInt (IntKind.bits .u64) (Int.fdiv (a:Int) (2^min (Int.toNat (k:Int)) (IntKind.bits .u64))) &&& BitVec.ofInt (IntKind.bits .u64) 1).toNat = ((a.testBit k).toNat : Int):=by
 have hb:IntKind.bits .u64=64:=rfl
 have e0:min (Int.toNat (k:Int)) (IntKind.bits .u64)=k:=by rw [hb,Int.toNat_natCast]; omega
 rw [e0,fdiv_pow]
 have h1:a / 2^k < 18446744073709551616:=Nat.lt_of_le_of_lt (Nat.div_le_self _ _) ha
 have e1:(BitVec.ofInt (IntKind.bits .u64) ((a / 2^k:Nat):Int) &&& BitVec.ofInt (IntKind.bits .u64) 1).toNat = (a / 2^k) % 2:=by
  rw [BitVec.toNat_and,bv_nat h1,show (BitVec.ofInt (IntKind.bits .u64) 1).toNat = 1 from rfl,Nat.and_one_is_mod]
 rw [e1,u64_nat (by omega)]
 have e2:a.testBit k=((a / 2^k) % 2==1):=by rw [Nat.testBit_eq_decide_div_mod_eq]; rfl
 rw [e2]
 rcases Nat.mod_two_eq_zero_or_one (a / 2^k) with h | h <;> rw [h] <;> rfl
theorem msk_all (n:Nat):msk n (fun _=>true)=2^n - 1:=(msk_eq (by have:=Nat.two_pow_pos n; omega) fun i hi=>by rw [Nat.testBit_two_pow_sub_one]; simp [hi]).symm
theorem u_all {n:Nat} (hn:n≤10):IntKind.u64.wrap ((IntKind.u64.wrap (1*2^min (Int.toNat (n:Int)) (IntKind.bits .u64))) - 1)=((msk n fun _=>true:Nat):Int):=by
 rw [u_sh (by omega),msk_all]
 have h1:=pow64 (v:=n) (by omega)
 have h2:=Nat.two_pow_pos n
 rw [show ((2^n:Nat):Int) - 1=((2^n - 1:Nat):Int) by omega,u64_nat (by omega)]
def cnt:Nat → (Nat → Bool)→Nat
 | 0,_=>0
 | n+1,p=>cnt n p+(p n).toNat
def tzN:Nat → (Nat → Bool)→Nat
 | 0,_=>0
 | n+1,p=>if p 0 then 0 else tzN n (fun i=>p (i+1))+1
def isS (x:Option Int) (y:Int):Bool:=match x with | some z=>z==y | none=>false
theorem isS_eq {x:Option Int} {y:Int} (h:isS x y=true):x=some y:=by
 cases x with
 | none=>cases h
 | some z=>simp only [isS,beq_iff_eq] at h; rw [h]
theorem all_at {p:Nat → Bool} {n:Nat} (h:(List.range n).all p=true) {k:Nat} (hk:k < n):p k=true:=List.all_eq_true.1 h k (List.mem_range.2 hk)
theorem T_tz:((List.range 1024).all fun R=>Nat.beq R 0 || (isS (g_math_bits_TrailingZeros (R:Int)) (tzN 10 R.testBit:Int)))=true:=by kernel_rfl
theorem T_rest:((List.range 1024).all fun R=>Nat.beq R 0 || (IntKind.u64.wrap (BitVec.ofInt (IntKind.bits .u64) (R:Int) &&& BitVec.ofInt (IntKind.bits .u64) (IntKind.u64.wrap ((R:Int) - 1))).toNat == ((msk 10 fun i=>R.testBit i && !Nat.beq (tzN 10 R.testBit) i:Nat):Int)))=true:=by kernel_rfl
theorem T_cnt:((List.range 1024).all fun R=>isS (g_math_bits_OnesCount (R:Int)) (cnt 10 R.testBit:Int))=true:=by kernel_rfl
theorem cnt_congr {n:Nat} {p q:Nat → Bool} (h:∀i,i < n→p i=q i):cnt n p=cnt n q:=by
 induction n with
 | zero=>rfl
 | succ n ih=>simp only [cnt]; rw [ih fun i hi=>h i (by omega),h n (by omega)]
theorem cnt_ext {n m:Nat} {p:Nat → Bool} (hm:n≤m) (h:∀i,n≤i→i < m→p i=false):cnt m p=cnt n p:=by
 induction m with
 | zero =>
  have:n=0:=by omega
  subst this; rfl
 | succ m ih =>
  by_cases e:n=m+1
  ·subst e; rfl
  ·simp only [cnt]; rw [h m (by omega) (by omega),ih (by omega) fun i h1 h2=>h i h1 (by omega)]; rfl
theorem oc_msk {n:Nat} (hn:n≤10) (p:Nat → Bool):g_math_bits_OnesCount ((msk n p:Nat):Int)=some (cnt n p:Int):=by
 have h:=isS_eq (all_at T_cnt (lt1024 hn (msk_lt n p)))
 rw [h]
 congr 2
 rw [cnt_ext hn fun i h1 h2=>by rw [msk_bit]; simp; omega]
 exact cnt_congr bitS
theorem cnt_le (n:Nat) (p:Nat → Bool):cnt n p≤n:=by
 induction n with
 | zero=>exact Nat.le_refl _
 | succ n ih =>
  simp only [cnt]; have:(p n).toNat ≤ 1:=by cases p n <;> decide
  omega
theorem cnt_mono {n:Nat} {p q:Nat → Bool} (h:∀i,i < n→p i=true→q i=true):cnt n p≤cnt n q:=by
 induction n with
 | zero=>exact Nat.le_refl _
 | succ n ih =>
  simp only [cnt]
  have h1:=ih fun i hi=>h i (by omega)
  have h2:=h n (by omega)
  cases hp:p n with
  | false =>
   have:false.toNat = 0:=rfl
   omega
  | true=>rw [h2 hp]; omega
theorem cnt_zero {n:Nat} {p:Nat → Bool} (h:∀i,i < n→p i=false):cnt n p=0:=by
 induction n with
 | zero=>rfl
 | succ n ih=>simp only [cnt]; rw [ih fun i hi=>h i (by omega),h n (by omega)]; rfl
theorem cnt_pos {n:Nat} {p:Nat → Bool} {i:Nat} (hi:i < n) (h:p i=true):0 < cnt n p:=by
 induction n with
 | zero=>omega
 | succ n ih =>
  simp only [cnt]
  by_cases e:i=n
  ·subst e; rw [h]; show 0 < _+1; omega
  ·have:=ih (by omega); omega
theorem cnt_del {n v:Nat} {p:Nat → Bool} (hv:v < n) (h:p v=true):cnt n (fun i=>p i && !decide (v=i))+1=cnt n p:=by
 induction n with
 | zero=>omega
 | succ n ih =>
  simp only [cnt]
  by_cases e:v=n
  ·subst e
   rw [cnt_congr (n:=v) (q:=p) fun i hi=>by simp; intro _; omega,h]
   simp
  ·have:=ih (by omega)
   have e2:(p n && !decide (v=n))=p n:=by simp; intro _; exact e
   rw [e2]; omega
theorem tzN_spec:∀(n:Nat) (p:Nat → Bool),(∃i,i < n∧p i=true)→tzN n p < n∧p (tzN n p)=true∧∀i,i < tzN n p→p i=false
 | 0,p,⟨i,hi,_⟩=>by omega
 | n+1,p,⟨i,hi,h⟩=>by
  unfold tzN
  by_cases h0:p 0=true
  ·rw [if_pos h0]; exact ⟨by omega,h0,fun i hi=>by omega⟩
  ·rw [if_neg h0]
   have hi0:i≠0:=fun e=>h0 (e ▸ h)
   obtain ⟨a,b,c⟩:=tzN_spec n (fun i=>p (i+1)) ⟨i - 1,by omega,by rw [show i - 1+1=i by omega]; exact h⟩
   refine ⟨by omega,b,fun j hj=>?_⟩
   cases j with
   | zero=>simpa using h0
   | succ j=>exact c j (by omega)
theorem tzN_eq {n v:Nat} {p:Nat → Bool} (hv:v < n) (h:p v=true) (hl:∀i,i < v→p i=false):tzN n p=v:=by
 obtain ⟨a,b,c⟩:=tzN_spec n p ⟨v,hv,h⟩
 rcases Nat.lt_trichotomy (tzN n p) v with e | e | e
 ·rw [hl _ e] at b; cases b
 ·exact e
 ·rw [c v e] at h; cases h
theorem rest_msk {n v:Nat} {p:Nat → Bool} (hn:n≤10) (hv:v < n) (h:p v=true) (hl:∀i,i < v→p i=false) :
  (((msk n p:Nat):Int) != 0)=true∧g_math_bits_TrailingZeros ((msk n p:Nat):Int)=some (v:Int) ∧
  IntKind.u64.wrap (BitVec.ofInt (IntKind.bits .u64) ((msk n p:Nat):Int) &&& BitVec.ofInt (IntKind.bits .u64) (IntKind.u64.wrap (((msk n p:Nat):Int) - 1))).toNat = ((msk n fun i=>p i && !decide (v=i):Nat):Int):=by
 have hlt:=msk_lt n p
 have hR:=lt1024 hn hlt
 have hb:(msk n p).testBit v=true:=by rw [msk_bit]; simp [hv,h]
 have h0:msk n p≠0:=fun e=>by rw [e] at hb; simp at hb
 have e0:Nat.beq (msk n p) 0=false:=by
  cases e:msk n p with
  | zero=>exact absurd e h0
  | succ k=>rfl
 have etz:tzN 10 (msk n p).testBit=v:=tzN_eq (by omega) hb fun i hi=>by rw [msk_bit,hl i hi]; simp
 have h1:=all_at T_tz hR
 have h2:=all_at T_rest hR
 simp only [e0,Bool.false_or,etz] at h1 h2
 refine ⟨by simp; omega,isS_eq h1,?_⟩
 have h3:IntKind.u64.wrap (BitVec.ofInt (IntKind.bits .u64) ((msk n p:Nat):Int) &&& BitVec.ofInt (IntKind.bits .u64) (IntKind.u64.wrap (((msk n p:Nat):Int) - 1))).toNat = ((msk 10 fun i=>(msk n p).testBit i && !Nat.beq v i:Nat):Int):=by simpa using h2
 rw [h3]
 congr 1
 apply Nat.eq_of_testBit_eq
 intro j
 rw [msk_bit,msk_bit,msk_bit]
 have e:Nat.beq v j=decide (v=j):=by
  by_cases e:v=j
  ·subst e; simp
  ·rw [decide_eq_false e,Bool.eq_false_iff]; exact fun h=>e (Nat.eq_of_beq_eq_true h)
 rw [e]
 by_cases hj:j < n
 ·simp [hj,show j < 10 by omega]
 ·simp [hj]
end Go.Ab
namespace Go.Ab
open Go
set_option maxRecDepth 100000
set_option maxHeartbeats 400000
abbrev Gr:=Nat → Nat → Bool
def gl (n:Nat) (A:Gr):List Int:=(List.range n).map fun v=>((msk n (A v):Nat):Int)
theorem gl_len (n:Nat) (A:Gr):(gl n A).length=n:=by simp [gl]
theorem gl_get {n:Nat} {A:Gr} {v:Nat} (hv:v < n):(gl n A)[v]?=some ((msk n (A v):Nat):Int):=by simp [gl,hv]
theorem gl_at {n:Nat} {A:Gr} {v:Nat} (hv:v < n):lkI (gl n A) (v:Int)=some ((msk n (A v):Nat):Int):=by
 unfold lkI
 rw [if_neg (by omega),Int.toNat_natCast,gl_get hv]
theorem gl_congr {n:Nat} {A B:Gr} (h:∀u w,u < n→w < n→A u w=B u w):gl n A=gl n B:=by
 apply List.ext_getElem?
 intro v
 by_cases hv:v < n
 ·rw [gl_get hv,gl_get hv,msk_congr fun w hw=>h v w hv hw]
 ·rw [List.getElem?_eq_none (by rw [gl_len]; omega),List.getElem?_eq_none (by rw [gl_len]; omega)]
def upd (A:Gr) (v:Nat) (q:Nat → Bool):Gr:=fun u w=>if u=v then q w else A u w
theorem upd_ne {A:Gr} {v u:Nat} {q:Nat → Bool} (h:¬ u=v):upd A v q u=A u:=funext fun w=>if_neg h
theorem upd_eq {A:Gr} {v:Nat} {q:Nat → Bool}:upd A v q v=q:=funext fun w=>if_pos rfl
theorem gl_set {n:Nat} {A:Gr} {v:Nat} (q:Nat → Bool):(gl n A).set (Int.toNat (v:Int)) ((msk n q:Nat):Int)=gl n (upd A v q):=by
 apply List.ext_getElem?
 intro u
 rw [Int.toNat_natCast,List.getElem?_set,gl_len]
 by_cases hu:u < n
 ·rw [gl_get hu,gl_get hu]
  by_cases e:v=u
  ·subst e; simp [hu,upd_eq]
  ·rw [if_neg e,upd_ne fun h=>e h.symm]
 ·rw [List.getElem?_eq_none (by rw [gl_len]; omega),List.getElem?_eq_none (by rw [gl_len]; omega)]
  simp [hu]
  intro e; omega
structure Good (n:Nat) (A:Gr):Prop where
 sym:∀u w,A u w=A w u
 irr:∀u,A u u=false
 lt:∀u w,A u w=true→u < n
theorem mem_loop {τ ρ σ:Type} {n:Nat} (hn:n≤10) (mkS:Int→τ→σ) {body:σ→Option (Step σ ρ)} (I:Nat → τ→Prop) (Q:ρ→Prop) (p:Nat → Bool)
  (step:∀(x:Nat) (t:τ) (R R':Int),x < n→p x=true→I x t→(R != 0)=true→g_math_bits_TrailingZeros R=some (x:Int) →
   IntKind.u64.wrap (BitVec.ofInt (IntKind.bits .u64) R &&& BitVec.ofInt (IntKind.bits .u64) (IntKind.u64.wrap (R - 1))).toNat = R' →
   (∃t',body (mkS R t)=some (.next (mkS R' t'))∧I (x+1) t')∨(∃r,body (mkS R t)=some (.done r)∧Q r))
  (skip:∀(x:Nat) (t:τ),x < n→p x=false→I x t→I (x+1) t)
  (done:∀t,I n t→∃r,body (mkS 0 t)=some (.done r)∧Q r) (t0:τ) (h0:I 0 t0) :
  ∃r,whileN fuel body (mkS ((msk n p:Nat):Int) t0)=some r∧Q r:=by
 have key:∀(j N k:Nat) (t:τ),k+j=n→j < N→I k t→∃r,whileN N body (mkS ((msk n fun i=>p i && decide (k≤i):Nat):Int) t)=some r∧Q r:=by
  intro j
  induction j using Nat.strongRecOn with
  | _ j ih =>
   intro N k t hk hN hI
   by_cases hx:∃i,k≤i∧i < n∧p i=true
   ·obtain ⟨x,x1,x2,x3,x4⟩:∃x,k≤x∧x < n∧p x=true∧∀i,k≤i→i < x→p i=false:=by
     have hs:=tzN_spec n (fun i=>p i && decide (k≤i)) (by obtain ⟨i,a,b,c⟩:=hx; exact ⟨i,b,by simp [a,c]⟩)
     refine ⟨_,?_,hs.1,?_,fun i a b=>?_⟩
     ·have:=hs.2.1; simp at this; exact this.2
     ·have:=hs.2.1; simp at this; exact this.1
     ·have:=hs.2.2 i b; simpa [a] using this
    have hIx:I x t:=by
     have:∀d,k+d≤x→I (k+d) t:=by
      intro d
      induction d with
      | zero=>intro _; exact hI
      | succ d ihd=>intro h; exact skip (k+d) t (by omega) (x4 _ (by omega) (by omega)) (ihd (by omega))
     have h:=this (x - k) (by omega)
     rwa [show k+(x - k)=x by omega] at h
    obtain ⟨N,rfl⟩:∃M,N=M+1:=⟨N - 1,by omega⟩
    obtain ⟨a1,a2,a3⟩:=rest_msk (n:=n) (v:=x) (p:=fun i=>p i && decide (k≤i)) hn x2 (by simp [x1,x3]) (fun i hi=>by
     by_cases h:k≤i
     ·rw [x4 i h hi]; rfl
     ·simp [h])
    have e:msk n (fun i=>(p i && decide (k≤i)) && !decide (x=i))=msk n fun i=>p i && decide (x+1≤i):=msk_congr fun i hi=>by
     by_cases h:x+1≤i
     ·have h2:¬ x=i:=by omega
      have h3:k≤i:=by omega
      simp [h,h2,h3]
     ·by_cases h2:x=i
      ·subst h2; simp
      ·by_cases h3:k≤i
       ·rw [x4 i h3 (by omega)]; simp
       ·simp [h,h3]
    rw [e] at a3
    rcases step x t _ _ x2 x3 hIx a1 a2 a3 with ⟨t',b1,b2⟩ | ⟨r,b1,b2⟩
    ·simp only [whileN,b1]
     exact ih (n - (x+1)) (by omega) N (x+1) t' (by omega) (by omega) b2
    ·simp only [whileN,b1]
     exact ⟨r,rfl,b2⟩
   ·have hno:∀i,k≤i→i < n→p i=false:=fun i a b=>by
     rw [Bool.eq_false_iff]; exact fun h=>hx ⟨i,a,b,h⟩
    have e:msk n (fun i=>p i && decide (k≤i))=0:=by
     have:msk n (fun _=>false)=0:=(msk_eq (by have:=Nat.two_pow_pos n; omega) fun i _=>by simp).symm
     rw [←this]
     exact msk_congr fun i hi=>by
      by_cases h:k≤i
      ·rw [hno i h hi]; rfl
      ·simp [h]
    have hIn:I n t:=by
     have:∀d,k+d≤n→I (k+d) t:=by
      intro d
      induction d with
      | zero=>intro _; exact hI
      | succ d ihd=>intro h; exact skip (k+d) t (by omega) (hno _ (by omega) (by omega)) (ihd (by omega))
     have h:=this (n - k) (by omega)
     rwa [show k+(n - k)=n by omega] at h
    obtain ⟨N,rfl⟩:∃M,N=M+1:=⟨N - 1,by omega⟩
    rw [e]
    obtain ⟨r,b1,b2⟩:=done t hIn
    refine ⟨r,?_,b2⟩
    show whileN (N+1) body (mkS 0 t)=_
    simp only [whileN,b1]
 have h:=key n fuel 0 t0 (by omega) (by show n < 1152921504606846976; omega) h0
 have e:msk n (fun i=>p i && decide (0≤i))=msk n p:=msk_congr fun i _=>by simp
 rwa [e] at h
def elim (A:Gr) (v:Nat):Gr:=fun u w=>(A u w || (A v u && A v w && !decide (u=w))) && !decide (u=v) && !decide (w=v)
def missA (n:Nat) (A:Gr) (v a:Nat):List (Nat × Nat):=((List.range n).filter fun b=>decide (a < b) && (A v a && A v b && !A a b)).map fun b=>(a,b)
def miss (n:Nat) (A:Gr) (v:Nat):List (Nat × Nat):=(List.range n).flatMap (missA n A v)
def pI (p:Nat × Nat):Int × Int:=((p.1:Int),(p.2:Int))
theorem range_filter_succ (k:Nat) (p:Nat → Bool):(List.range (k+1)).filter p=(List.range k).filter p++if p k then [k] else []:=by
 rw [List.range_succ,List.filter_append]
 congr 1
 cases h:p k <;> simp [h]
theorem filter_len (k:Nat) (p:Nat → Bool):((List.range k).filter p).length≤k:=by
 have:=List.length_filter_le p (List.range k)
 simpa using this
theorem nat_ge (k:Nat):(0:Int)≤(k:Int):=Int.natCast_nonneg k
end Go.Ab
namespace Go.Ab
open Go
set_option maxRecDepth 100000
set_option maxHeartbeats 400000
theorem miss_len (n:Nat) (A:Gr) (v:Nat) (k:Nat):((List.range k).flatMap (missA n A v)).length≤k*n:=by
 induction k with
 | zero=>simp
 | succ k ih =>
  rw [List.range_succ,List.flatMap_append,List.length_append,Nat.succ_mul]
  have:(([k]:List Nat).flatMap (missA n A v)).length≤n:=by
   simp only [List.flatMap_cons,List.flatMap_nil,List.append_nil,missA,List.length_map]
   exact filter_len n _
  omega
end Go.Ab
namespace Go.Ab
open Go
set_option maxRecDepth 100000
set_option maxHeartbeats 400000
theorem i_succ {k:Nat} (h:k < 9223372036854775807):IntKind.i64.wrap ((k:Int)+1)=((k+1:Nat):Int):=by rw [w64 (by omega)]; omega
theorem rng_loop {τ ρ σ:Type} {n k0:Nat} (hk:k0≤n) (hn:n < 1152921504606846976) (mkS:Int→τ→σ) {body:σ→Option (Step σ ρ)} (I:Nat → τ→Prop) (Q:ρ→Prop)
  (step:∀(k:Nat) (t:τ),k0≤k→k < n→I k t→(∃t',body (mkS (k:Int) t)=some (.next (mkS (IntKind.i64.wrap ((k:Int)+1)) t'))∧I (k+1) t')∨(∃r,body (mkS (k:Int) t)=some (.done r)∧Q r))
  (done:∀t,I n t→∃r,body (mkS (n:Int) t)=some (.done r)∧Q r) (t0:τ) (h0:I k0 t0):∃r,whileN fuel body (mkS (k0:Int) t0)=some r∧Q r:=by
 have key:∀(j N k:Nat) (t:τ),k+j=n→k0≤k→j < N→I k t→∃r,whileN N body (mkS (k:Int) t)=some r∧Q r:=by
  intro j
  induction j with
  | zero =>
   intro N k t e hk hN hI
   obtain ⟨N,rfl⟩:∃M,N=M+1:=⟨N - 1,by omega⟩
   have:k=n:=by omega
   subst this
   obtain ⟨r,b1,b2⟩:=done t hI
   simp only [whileN,b1]
   exact ⟨r,rfl,b2⟩
  | succ j ih =>
   intro N k t e hk hN hI
   obtain ⟨N,rfl⟩:∃M,N=M+1:=⟨N - 1,by omega⟩
   rcases step k t hk (by omega) hI with ⟨t',b1,b2⟩ | ⟨r,b1,b2⟩
   ·rw [i_succ (by omega)] at b1
    simp only [whileN,b1]
    exact ih N (k+1) t' (by omega) (by omega) (by omega) b2
   ·simp only [whileN,b1]
    exact ⟨r,rfl,b2⟩
 exact key (n - k0) fuel k0 t0 (by omega) (Nat.le_refl _) (by show n - k0 < 1152921504606846976; omega) h0
theorem rng_run {τ ρ σ:Type} {n k0:Nat} (hk:k0≤n) (hn:n < 1152921504606846976) (mkS:Int→τ→σ) {body:σ→Option (Step σ ρ)} (T:Nat → τ) (r:ρ)
  (step:∀(k:Nat),k0≤k→k < n→body (mkS (k:Int) (T k))=some (.next (mkS (IntKind.i64.wrap ((k:Int)+1)) (T (k+1)))))
  (done:body (mkS (n:Int) (T n))=some (.done r)):whileN fuel body (mkS (k0:Int) (T k0))=some r:=by
 obtain ⟨r',h1,h2⟩:=rng_loop hk hn mkS (body:=body) (fun k t=>t=T k) (fun x=>x=r) (fun k t a b c=>.inl ⟨T (k+1),by rw [c]; exact step k a b,rfl⟩) (fun t h=>⟨r,by rw [h]; exact done,rfl⟩) (T k0) rfl
 rw [h1,h2]
theorem dlt {k n:Nat} (h:k < n):decide ((k:Int) < (n:Int))=true:=decide_eq_true (by omega)
theorem nlt (n:Nat):¬ (decide ((n:Int) < (n:Int))=true):=by simp
theorem in_spec {a v:Nat} (ha:a < 18446744073709551616) (hv:v < 64):g_ref05_In (a:Int) (v:Int)=some (a.testBit v):=by
 unfold g_ref05_In
 rw [u64_nat (show v < 18446744073709551616 by omega),if_pos (nat_ge v),u_bit ha hv]
 cases a.testBit v <;> rfl
theorem in_gl {n v:Nat} {p:Nat → Bool} (hn:n≤10) (hv:v < n):g_ref05_In ((msk n p:Nat):Int) (v:Int)=some (p v):=by
 rw [in_spec (lt64 hn (msk_lt n p)) (by omega),bitS v hv]
def missP (A:Gr) (v a k:Nat):List (Nat × Nat):=((List.range k).filter fun b=>decide (a < b) && (A v a && A v b && !A a b)).map fun b=>(a,b)
theorem missP_succ (A:Gr) (v a k:Nat):missP A v a (k+1)=missP A v a k++if decide (a < k) && (A v a && A v k && !A a k) then [(a,k)] else []:=by
 unfold missP
 rw [range_filter_succ,List.map_append]
 congr 1
 split <;> simp
theorem missP_zero (A:Gr) (v a:Nat):missP A v a (a+1)=[]:=by
 unfold missP
 rw [List.filter_eq_nil_iff.2 (fun b hb=>by
  have:b < a+1:=List.mem_range.1 hb
  simp
  intro h; omega)]
 rfl
theorem missP_len (A:Gr) (v a k:Nat):(missP A v a k).length≤k:=by unfold missP; rw [List.length_map]; exact filter_len k _
theorem refMissing {n:Nat} {A:Gr} {v:Nat} (hn:n≤10) (hv:v < n):g_ref08_Missing (gl n A) (v:Int)=some ((miss n A v).map pI):=by
 have inner:∀(a:Nat) (f0:List (Nat × Nat)) (s2:List (Int × Int)),a < n→f0.length≤100→whileN fuel (g_ref08_Missing_b0 (gl n A) (v:Int) ((a:Int),s2)) (((a+1:Nat):Int),f0.map pI)=some ((f0++missA n A v a).map pI):=fun a f0 s2 ha hf=>by
  have h:=rng_run (n:=n) (k0:=a+1) (by omega) (by omega) (fun i (t:List (Int × Int))=>(i,t)) (body:=g_ref08_Missing_b0 (gl n A) (v:Int) ((a:Int),s2)) (fun k=>(f0++missP A v a k).map pI) ((f0++missA n A v a).map pI)
   (fun k h1 h2=>by
    have hl:((f0++missP A v a k).map pI++([((a:Int),(k:Int))]:List (Int × Int))).length*16≤140737488355328:=by
     have:=missP_len A v a k
     simp only [List.length_append,List.length_map,List.length_cons,List.length_nil]
     omega
    unfold g_ref08_Missing_b0
    dsimp only
    rw [gl_len,if_pos (dlt h2)]
    simp only [gl_at hv,gl_at ha,Option.bind_some,in_gl hn ha,in_gl hn h2,if_pos hl]
    rw [missP_succ,←List.append_assoc,List.map_append (l₁:=f0++missP A v a k)]
    have e:decide (a < k)=true:=by simp; omega
    rw [e]
    cases A v a <;> cases A v k <;> cases A a k <;> simp [pI])
   (by
    unfold g_ref08_Missing_b0
    dsimp only
    rw [gl_len,if_neg (nlt n)]; rfl)
  rw [missP_zero,List.append_nil] at h
  exact h
 unfold g_ref08_Missing
 have h:=rng_run (n:=n) (k0:=0) (by omega) (by omega) (fun i (t:List (Int × Int))=>(i,t)) (body:=g_ref08_Missing_b1 (gl n A) (v:Int)) (fun k=>((List.range k).flatMap (missA n A v)).map pI) ((miss n A v).map pI)
  (fun k _ h2=>by
   have hlen:=miss_len n A v k
   have hnn:k*n≤100:=Nat.le_trans (Nat.mul_le_mul (show k≤10 by omega) hn) (by omega)
   unfold g_ref08_Missing_b1
   dsimp only
   rw [gl_len,if_pos (dlt h2),i_succ (by omega),inner k _ _ h2 (by omega)]
   simp only [Option.bind_some]
   rw [List.range_succ,List.flatMap_append]
   simp)
  (by
   unfold g_ref08_Missing_b1
   dsimp only
   rw [gl_len,if_neg (nlt n)]; rfl)
 simp only [List.range_zero,List.flatMap_nil,List.map_nil] at h
 rw [show ((0:Nat):Int)=0 from rfl] at h
 rw [h]; rfl
def joinL (A:Gr):List (Nat × Nat)→Gr
 | []=>A
 | (a,b)::l=>joinL (fun u w=>A u w || (decide (u=a) && decide (w=b)) || (decide (u=b) && decide (w=a))) l
theorem joinL_snoc (A:Gr):∀(l:List (Nat × Nat)) (a b:Nat),joinL A (l++[(a,b)])=fun u w=>joinL A l u w || (decide (u=a) && decide (w=b)) || (decide (u=b) && decide (w=a))
 | [],a,b=>rfl
 | (c,d)::l,a,b=>by simp only [List.cons_append,joinL]; exact joinL_snoc _ l a b
theorem joinL_iff (A:Gr):∀(l:List (Nat × Nat)) (u w:Nat),joinL A l u w=true↔A u w=true∨(u,w)∈l∨(w,u)∈l
 | [],u,w=>by simp [joinL]
 | (a,b)::l,u,w=>by
  simp only [joinL]
  rw [joinL_iff]
  simp only [Bool.or_eq_true,Bool.and_eq_true,decide_eq_true_eq,List.mem_cons,Prod.mk.injEq]
  grind
theorem refCopy {l:List Int} (h:l.length≤1000):g_ref08_Copy l=some l:=by unfold g_ref08_Copy; rw [if_pos (by omega)]
theorem refJoin {n:Nat} {A:Gr} {l:List (Nat × Nat)} (hn:n≤10) (hl:∀p∈l,p.1 < n∧p.2 < n∧p.1≠p.2) (hlen:l.length≤1000):g_ref08_Join (gl n A) (l.map pI)=some (gl n (joinL A l)):=by
 unfold g_ref08_Join
 rw [refCopy (by rw [gl_len]; omega),Option.bind_some]
 have h:=rng_run (n:=l.length) (k0:=0) (by omega) (by omega) (fun i (t:List Int)=>(i,t)) (body:=g_ref08_Join_b0 (l.map pI)) (fun k=>gl n (joinL A (l.take k))) (gl n (joinL A l))
  (fun k _ h2=>by
   obtain ⟨h3,h4,h5⟩:=hl _ (List.getElem_mem h2)
   have e:=List.take_succ_eq_append_getElem h2
   have ek:lkI (l.map pI) (k:Int)=some (pI l[k]):=by rw [lkI_nat (by simpa using h2)]; simp
   generalize l[k]=p at h3 h4 h5 e ek
   obtain ⟨a,b⟩:=p
   simp only at h3 h4 h5
   unfold g_ref08_Join_b0
   dsimp only
   rw [List.length_map,if_pos (dlt h2),ek,Option.bind_some]
   have ea:(pI (a,b)).1=(a:Int):=rfl
   have eb:(pI (a,b)).2=(b:Int):=rfl
   simp only [ea,eb,gl_at h3,Option.bind_some,u64_nat (show a < 18446744073709551616 by omega),u64_nat (show b < 18446744073709551616 by omega),if_pos (nat_ge a),if_pos (nat_ge b),u_ins hn h4,gl_set,gl_at h4]
   rw [upd_ne (fun h=>h5 h.symm),u_ins hn h3,gl_set]
   congr 3
   refine gl_congr fun u w hu hw=>?_
   rw [e,joinL_snoc]
   simp only [upd]
   grind)
  (by
   unfold g_ref08_Join_b0
   dsimp only
   rw [List.length_map,if_neg (nlt _),List.take_length])
 rw [show ((0:Nat):Int)=0 from rfl,List.take_zero] at h
 rw [show joinL A []=A from rfl] at h
 rw [h]; rfl
theorem refRemove {n:Nat} {A:Gr} {v:Nat} (hn:n≤10) (hv:v < n):g_ref08_Remove (gl n A) (v:Int)=some (gl n fun u w=>A u w && !decide (u=v) && !decide (w=v)):=by
 unfold g_ref08_Remove
 rw [refCopy (by rw [gl_len]; omega),Option.bind_some,gl_at hv,Option.bind_some]
 have e0:(0:Int)=((msk n fun _=>false:Nat):Int):=by
  have:msk n (fun _=>false)=0:=(msk_eq (by have:=Nat.two_pow_pos n; omega) fun i _=>by simp).symm
  rw [this]; rfl
 have h:=rng_run (n:=n) (k0:=0) (by omega) (by omega) (fun i (t:List Int)=>(i,t)) (body:=g_ref08_Remove_b0 (v:Int)) (fun k=>gl n fun u w=>A u w && !decide (u=v) && !(decide (w=v) && decide (u < k))) (gl n fun u w=>A u w && !decide (u=v) && !decide (w=v))
  (fun k _ h2=>by
   unfold g_ref08_Remove_b0
   dsimp only
   rw [gl_len,if_pos (dlt h2),gl_at h2,Option.bind_some,u64_nat (show v < 18446744073709551616 by omega),if_pos (nat_ge v),u_del hn (by omega),gl_set]
   congr 3
   refine gl_congr fun u w hu hw=>?_
   simp only [upd]
   grind)
  (by
   unfold g_ref08_Remove_b0
   dsimp only
   rw [gl_len,if_neg (nlt _)]
   congr 2
   refine gl_congr fun u w hu hw=>?_
   grind)
 rw [show ((0:Nat):Int)=0 from rfl] at h
 rw [e0,gl_set,gl_congr (A:=upd A v fun _=>false) (B:=fun u w=>A u w && !decide (u=v) && !(decide (w=v) && decide (u < 0))) fun u w _ _=>by simp only [upd]; grind]
 rw [←e0,h]; rfl
theorem miss_mem {n:Nat} {A:Gr} {v a b:Nat}:(a,b)∈miss n A v↔a < b∧b < n∧A v a=true∧A v b=true∧A a b=false:=by
 unfold miss missA
 simp only [List.mem_flatMap,List.mem_range,List.mem_map,List.mem_filter,Bool.and_eq_true,decide_eq_true_eq,Prod.mk.injEq,Bool.not_eq_true']
 grind
theorem missAll_len {n:Nat} (hn:n≤10) (A:Gr) (v:Nat):(miss n A v).length≤100 :=
 Nat.le_trans (miss_len n A v n) (Nat.le_trans (Nat.mul_le_mul hn hn) (by omega))
theorem miss_ok {n:Nat} {A:Gr} {v:Nat}:∀p∈miss n A v,p.1 < n∧p.2 < n∧p.1≠p.2:=fun p hp=>by
 obtain ⟨a,b⟩:=p
 have:=miss_mem.1 hp
 simp only
 omega
theorem refEliminate {n:Nat} {A:Gr} {v:Nat} (hn:n≤10) (hG:Good n A) (hv:v < n):g_ref08_Eliminate (gl n A) (v:Int)=some (gl n (elim A v)):=by
 unfold g_ref08_Eliminate
 rw [refMissing hn hv,Option.bind_some,refJoin hn miss_ok (by have:=missAll_len hn A v; omega),Option.bind_some,refRemove hn hv,Option.bind_some]
 congr 1
 refine gl_congr fun u w hu hw=>?_
 have h1:=joinL_iff A (miss n A v) u w
 rw [miss_mem,miss_mem] at h1
 have h2:=hG.sym u w
 have h3:=hG.irr u
 rw [Bool.eq_iff_iff]
 simp only [elim,Bool.and_eq_true,h1,Bool.or_eq_true]
 grind
theorem refDegree {n:Nat} {A:Gr} {v:Nat} (hn:n≤10) (hv:v < n):g_ref08_Degree (gl n A) (v:Int)=some (cnt n (A v):Int):=by
 unfold g_ref08_Degree
 have h:=rng_run (n:=n) (k0:=0) (by omega) (by omega) (fun i (t:Int)=>(t,i)) (body:=g_ref08_Degree_b0 (gl n A) (v:Int)) (fun k=>(cnt k (A v):Int)) (cnt n (A v):Int)
  (fun k _ h2=>by
   unfold g_ref08_Degree_b0
   dsimp only
   have hc:=cnt_le k (A v)
   rw [gl_len,if_pos (dlt h2),gl_at hv,Option.bind_some,in_gl hn h2,Option.bind_some]
   simp only [cnt]
   cases A v k
   ·simp
   ·rw [if_pos rfl,i_succ (by omega)]; rfl)
  (by
   unfold g_ref08_Degree_b0
   dsimp only
   rw [gl_len,if_neg (nlt _)])
 rw [show ((0:Nat):Int)=0 from rfl] at h
 simp only [cnt] at h
 rw [show ((0:Nat):Int)=0 from rfl] at h
 rw [h]; rfl
end Go.Ab
namespace Go.Ab
open Go
set_option maxRecDepth 100000
set_option maxHeartbeats 400000
def nI (l:List Nat):List Int:=l.map fun (k:Nat)=>(k:Int)
theorem nI_len (l:List Nat):(nI l).length=l.length:=by simp [nI]
theorem nI_at {l:List Nat} {k:Nat} (h:k < l.length):lkI (nI l) (k:Int)=some (l[k]:Int):=by rw [lkI_nat (by rwa [nI_len])]; simp [nI]
theorem imax (a b:Nat):(if (a:Int) > (b:Int) then (a:Int) else (b:Int))=((max b a:Nat):Int):=by split <;> omega
end Go.Ab
namespace Go.Ab
open Go
set_option maxRecDepth 100000
set_option maxHeartbeats 400000
def u64s (a:List Nat):Prop:=∀x∈a,x < 18446744073709551616
def okV (a:List Nat) (v:Nat):Prop:=(a.getD v 0) / 2^a.length=0∧(a.getD v 0).testBit v=false∧∀w,w < a.length→(a.getD v 0).testBit w=(a.getD w 0).testBit v
def okG (a:List Nat):Prop:=1≤a.length∧a.length≤10∧∀v,v < a.length→okV a v
theorem nI_getD {a:List Nat} {v:Nat} (h:v < a.length):lkI (nI a) (v:Int)=some ((a.getD v 0:Nat):Int):=by
 rw [nI_at h]; simp [h]
theorem u64s_at {a:List Nat} (h:u64s a) {v:Nat} (hv:v < a.length):a.getD v 0 < 18446744073709551616:=by
 have:a.getD v 0=a[v]:=by simp [hv]
 rw [this]; exact h _ (List.getElem_mem hv)
theorem bne_bit (x y:Bool):((x.toNat : Int) != (y.toNat : Int))=(x != y):=by cases x <;> cases y <;> rfl
theorem beq_bit (x:Bool):((x.toNat : Int)==1)=x:=by cases x <;> rfl
theorem fdiv_n {a n:Nat} (hn:n≤10):Int.fdiv (a:Int) (2^min (Int.toNat (n:Int)) (IntKind.bits .u64))=((a / 2^n:Nat):Int):=by
 have hb:IntKind.bits .u64=64:=rfl
 rw [hb,Int.toNat_natCast,Nat.min_eq_left (by omega),fdiv_pow]
theorem nz_ne {q:Nat} (h:¬ q=0):((q:Int) != 0)=true:=by simp; omega
theorem check_row {a:List Nat} (ha:u64s a) (hn:a.length≤10) {v:Nat} (hv:v < a.length) :
  ∃r,whileN fuel (g_order_Check_b0 (nI a) (v:Int) ((a.getD v 0:Nat):Int)) 0=some r∧((∃u,r=Sum.inl u∧¬ ∀w,w < a.length→(a.getD v 0).testBit w=(a.getD w 0).testBit v)∨(∃u,r=Sum.inr u∧∀w,w < a.length→(a.getD v 0).testBit w=(a.getD w 0).testBit v)):=by
 exact rng_loop (n:=a.length) (k0:=0) (by omega) (by omega) (fun i (t:Unit)=>i) (body:=g_order_Check_b0 (nI a) (v:Int) ((a.getD v 0:Nat):Int)) (fun k t=>∀w,w < k→(a.getD v 0).testBit w=(a.getD w 0).testBit v) (fun r=>(∃u,r=Sum.inl u∧¬ ∀w,w < a.length→(a.getD v 0).testBit w=(a.getD w 0).testBit v)∨(∃u,r=Sum.inr u∧∀w,w < a.length→(a.getD v 0).testBit w=(a.getD w 0).testBit v))
  (fun k t _ h2 hI=>by
   have hb:g_order_Check_b0 (nI a) (v:Int) ((a.getD v 0:Nat):Int) (k:Int)=if ((a.getD v 0).testBit k != (a.getD k 0).testBit v)=true then some (.done (Sum.inl ())) else some (.next (IntKind.i64.wrap ((k:Int)+1))):=by
    unfold g_order_Check_b0
    rw [nI_len,if_pos (dlt h2),if_pos (nat_ge k),nI_getD h2,Option.bind_some,if_pos (nat_ge v),u_bit (u64s_at ha hv) (by omega),u_bit (u64s_at ha h2) (by omega),bne_bit]
   by_cases c:(a.getD v 0).testBit k=(a.getD k 0).testBit v
   ·refine .inl ⟨(),?_,fun w hw=>?_⟩
    ·rw [hb,if_neg (by simpa using c)]
    ·rcases Nat.lt_succ_iff_lt_or_eq.1 hw with h | h
     ·exact hI w h
     ·rw [h]; exact c
   ·refine .inr ⟨_,by rw [hb,if_pos (by simpa using c)],.inl ⟨(),rfl,fun h=>c (h k h2)⟩⟩)
  (fun t hI=>⟨_,by unfold g_order_Check_b0; rw [nI_len,if_neg (nlt _)],.inr ⟨(),rfl,hI⟩⟩) () (fun w hw=>by omega)
theorem check_spec {a:List Nat} (ha:u64s a):(g_order_Check (nI a)=some 0∧okG a)∨(g_order_Check (nI a)=some 80∧¬ okG a):=by
 unfold g_order_Check
 rw [nI_len]
 by_cases h1:a.length < 1
 ·right
  rw [if_pos (by simp; omega)]
  exact ⟨rfl,fun h=>by have:=h.1; omega⟩
 by_cases h2:a.length > 10
 ·right
  rw [if_neg (by simp; omega),if_pos (by simp; omega)]
  exact ⟨rfl,fun h=>by have:=h.2.1; omega⟩
 rw [if_neg (by simp; omega),if_neg (by simp; omega)]
 obtain ⟨r,e,hr⟩:=rng_loop (n:=a.length) (k0:=0) (by omega) (by omega) (fun i (t:Unit)=>i) (body:=g_order_Check_b1 (nI a)) (fun k t=>∀v,v < k→okV a v) (fun r=>(∃u,r=Sum.inl u∧¬ ∀v,v < a.length→okV a v)∨(∃u,r=Sum.inr u∧∀v,v < a.length→okV a v))
  (fun k t _ h3 hI=>by
   unfold g_order_Check_b1
   rw [nI_len,if_pos (dlt h3),nI_getD h3,Option.bind_some,if_pos (nat_ge _),fdiv_n (by omega)]
   by_cases c1:(a.getD k 0) / 2^a.length=0
   ·rw [c1,if_neg (by simp),if_pos (nat_ge k),u_bit (u64s_at ha h3) (by omega),beq_bit]
    by_cases c2:(a.getD k 0).testBit k=true
    ·refine .inr ⟨_,by rw [if_pos c2],.inl ⟨(),rfl,fun h=>?_⟩⟩
     have:=(h k h3).2.1
     rw [c2] at this; cases this
    ·rw [if_neg c2]
     obtain ⟨r,e,hr⟩:=check_row ha (by omega) h3
     rw [e,Option.bind_some]
     rcases hr with ⟨u,rfl,hr⟩ | ⟨u,rfl,hr⟩
     ·exact .inr ⟨_,rfl,.inl ⟨(),rfl,fun h=>hr (h k h3).2.2⟩⟩
     ·refine .inl ⟨(),rfl,fun w hw=>?_⟩
      rcases Nat.lt_succ_iff_lt_or_eq.1 hw with h | h
      ·exact hI w h
      ·rw [h]; exact ⟨c1,by simpa using c2,hr⟩
   ·refine .inr ⟨_,by rw [if_pos (nz_ne c1)],.inl ⟨(),rfl,fun h=>c1 (h k h3).1⟩⟩)
  (fun t hI=>⟨_,by unfold g_order_Check_b1; rw [nI_len,if_neg (nlt _)],.inr ⟨(),rfl,hI⟩⟩) () (fun w hw=>by omega)
 rw [show ((0:Nat):Int)=0 from rfl] at e
 rw [e,Option.bind_some]
 rcases hr with ⟨u,rfl,hr⟩ | ⟨u,rfl,hr⟩
 ·exact .inr ⟨rfl,fun h=>hr h.2.2⟩
 ·exact .inl ⟨rfl,by omega,by omega,hr⟩
theorem right_row {a:List Nat} (ha:u64s a) (hn:a.length≤10) {v:Nat} (hv:v < a.length) :
  ∃r,whileN fuel (g_ref08_Right_b0 (nI a) ((a.getD v 0:Nat):Int) (v:Int)) 0=some r∧((∃u,r=Sum.inl u∧¬ ∀w,w < a.length→(a.getD v 0).testBit w=(a.getD w 0).testBit v)∨(∃u,r=Sum.inr u∧∀w,w < a.length→(a.getD v 0).testBit w=(a.getD w 0).testBit v)):=by
 exact rng_loop (n:=a.length) (k0:=0) (by omega) (by omega) (fun i (t:Unit)=>i) (body:=g_ref08_Right_b0 (nI a) ((a.getD v 0:Nat):Int) (v:Int)) (fun k t=>∀w,w < k→(a.getD v 0).testBit w=(a.getD w 0).testBit v) (fun r=>(∃u,r=Sum.inl u∧¬ ∀w,w < a.length→(a.getD v 0).testBit w=(a.getD w 0).testBit v)∨(∃u,r=Sum.inr u∧∀w,w < a.length→(a.getD v 0).testBit w=(a.getD w 0).testBit v))
  (fun k t _ h2 hI=>by
   have hb:g_ref08_Right_b0 (nI a) ((a.getD v 0:Nat):Int) (v:Int) (k:Int)=if (!((a.getD v 0).testBit k==(a.getD k 0).testBit v))=true then some (.done (Sum.inl ())) else some (.next (IntKind.i64.wrap ((k:Int)+1))):=by
    unfold g_ref08_Right_b0
    rw [nI_len,if_pos (dlt h2),in_spec (u64s_at ha hv) (by omega),Option.bind_some,nI_getD h2,Option.bind_some,in_spec (u64s_at ha h2) (by omega),Option.bind_some]
   by_cases c:(a.getD v 0).testBit k=(a.getD k 0).testBit v
   ·refine .inl ⟨(),?_,fun w hw=>?_⟩
    ·rw [hb,if_neg (by simpa using c)]
    ·rcases Nat.lt_succ_iff_lt_or_eq.1 hw with h | h
     ·exact hI w h
     ·rw [h]; exact c
   ·refine .inr ⟨_,by rw [hb,if_pos (by simpa using c)],.inl ⟨(),rfl,fun h=>c (h k h2)⟩⟩)
  (fun t hI=>⟨_,by unfold g_ref08_Right_b0; rw [nI_len,if_neg (nlt _)],.inr ⟨(),rfl,hI⟩⟩) () (fun w hw=>by omega)
theorem right_spec {a:List Nat} (ha:u64s a):(g_ref08_Right (nI a)=some true∧okG a)∨(g_ref08_Right (nI a)=some false∧¬ okG a):=by
 unfold g_ref08_Right
 rw [nI_len]
 by_cases h1:a.length < 1
 ·right
  rw [if_pos (by simp; omega)]
  exact ⟨rfl,fun h=>by have:=h.1; omega⟩
 by_cases h2:a.length > 10
 ·right
  rw [if_neg (by simp; omega),if_pos (by simp; omega)]
  exact ⟨rfl,fun h=>by have:=h.2.1; omega⟩
 rw [if_neg (by simp; omega),if_neg (by simp; omega)]
 obtain ⟨r,e,hr⟩:=rng_loop (n:=a.length) (k0:=0) (by omega) (by omega) (fun i (t:Unit)=>i) (body:=g_ref08_Right_b1 (nI a)) (fun k t=>∀v,v < k→okV a v) (fun r=>(∃u,r=Sum.inl u∧¬ ∀v,v < a.length→okV a v)∨(∃u,r=Sum.inr u∧∀v,v < a.length→okV a v))
  (fun k t _ h3 hI=>by
   unfold g_ref08_Right_b1
   rw [nI_len,if_pos (dlt h3),nI_getD h3,Option.bind_some,u64_nat (show a.length < 18446744073709551616 by omega),if_pos (nat_ge _),fdiv_n (by omega)]
   by_cases c1:(a.getD k 0) / 2^a.length=0
   ·rw [c1,if_neg (by simp),in_spec (u64s_at ha h3) (by omega),Option.bind_some]
    by_cases c2:(a.getD k 0).testBit k=true
    ·refine .inr ⟨_,by rw [if_pos c2],.inl ⟨(),rfl,fun h=>?_⟩⟩
     have:=(h k h3).2.1
     rw [c2] at this; cases this
    ·rw [if_neg c2]
     obtain ⟨r,e,hr⟩:=right_row ha (by omega) h3
     rw [e,Option.bind_some]
     rcases hr with ⟨u,rfl,hr⟩ | ⟨u,rfl,hr⟩
     ·exact .inr ⟨_,rfl,.inl ⟨(),rfl,fun h=>hr (h k h3).2.2⟩⟩
     ·refine .inl ⟨(),rfl,fun w hw=>?_⟩
      rcases Nat.lt_succ_iff_lt_or_eq.1 hw with h | h
      ·exact hI w h
      ·rw [h]; exact ⟨c1,by simpa using c2,hr⟩
   ·refine .inr ⟨_,by rw [if_pos (nz_ne c1)],.inl ⟨(),rfl,fun h=>c1 (h k h3).1⟩⟩)
  (fun t hI=>⟨_,by unfold g_ref08_Right_b1; rw [nI_len,if_neg (nlt _)],.inr ⟨(),rfl,hI⟩⟩) () (fun w hw=>by omega)
 rw [show ((0:Nat):Int)=0 from rfl] at e
 rw [e,Option.bind_some]
 rcases hr with ⟨u,rfl,hr⟩ | ⟨u,rfl,hr⟩
 ·exact .inr ⟨rfl,fun h=>hr h.2.2⟩
 ·exact .inl ⟨rfl,by omega,by omega,hr⟩
theorem okG_gl {a:List Nat} (h:okG a):∃A,Good a.length A∧nI a=gl a.length A:=by
 refine ⟨fun u w=>decide (u < a.length) && (decide (w < a.length) && (a.getD u 0).testBit w),⟨fun u w=>?_,fun u=>?_,fun u w h1=>?_⟩,?_⟩
 ·by_cases h1:u < a.length
  ·by_cases h2:w < a.length
   ·simp only [h1,h2,decide_true,Bool.true_and]
    exact (h.2.2 u h1).2.2 w h2
   ·simp [h2]
  ·simp [h1]
 ·by_cases h1:u < a.length
  ·rw [(h.2.2 u h1).2.1]; simp
  ·simp [h1]
 ·simp at h1; exact h1.1
 ·apply List.ext_getElem?
  intro v
  by_cases hv:v < a.length
  ·rw [gl_get hv]
   have:(nI a)[v]?=some ((a.getD v 0:Nat):Int):=by unfold nI; simp [hv]
   rw [this]
   congr 2
   refine msk_eq ?_ fun i hi=>by simp [hv,hi]
   have h0:=(h.2.2 v hv).1
   have hp:=Nat.two_pow_pos a.length
   rcases Nat.lt_or_ge (a.getD v 0) (2^a.length) with h | h
   ·exact h
   ·have:=Nat.div_pos h hp; omega
  ·rw [List.getElem?_eq_none (by rw [nI_len]; omega),List.getElem?_eq_none (by rw [gl_len]; omega)]
theorem gl_nI (n:Nat) (A:Gr):gl n A=nI ((List.range n).map fun v=>msk n (A v)):=by unfold gl nI; rw [List.map_map]; rfl
theorem gl_u64s {n:Nat} (hn:n≤10) (A:Gr):u64s ((List.range n).map fun v=>msk n (A v)):=fun x hx=>by
 obtain ⟨v,_,rfl⟩:=List.mem_map.1 hx
 exact lt64 hn (msk_lt n _)
theorem good_okG {n:Nat} {A:Gr} (h1:1≤n) (hn:n≤10) (hG:Good n A):okG ((List.range n).map fun v=>msk n (A v)):=by
 have hl:((List.range n).map fun v=>msk n (A v)).length=n:=by simp
 have at':∀v,v < n→((List.range n).map fun v=>msk n (A v)).getD v 0=msk n (A v):=fun v hv=>by simp [hv]
 refine ⟨by omega,by omega,fun v hv=>?_⟩
 rw [hl] at hv
 unfold okV
 rw [hl,at' v hv]
 refine ⟨Nat.div_eq_of_lt (msk_lt n _),by rw [bitS v hv,hG.irr],fun w hw=>?_⟩
 rw [at' w hw,bitS w hw,bitS v hv,hG.sym]
theorem check_gl {n:Nat} {A:Gr} (h1:1≤n) (hn:n≤10) (hG:Good n A):g_order_Check (gl n A)=some 0:=by
 rw [gl_nI]
 rcases check_spec (gl_u64s hn A) with h | h
 ·exact h.1
 ·exact absurd (good_okG h1 hn hG) h.2
end Go.Ab
namespace Go.Ab
open Go
set_option maxRecDepth 100000
set_option maxHeartbeats 400000
theorem wf_u8 {n:Int} (h:(Lit.int .u8 n).wf=true):0≤n∧n≤255:=by
 simpa [Lit.wf,IntKind.min,IntKind.max,IntKind.bits,IntKind.signed] using h
theorem wf_u64 {n:Int} (h:(Lit.int .u64 n).wf=true):0≤n∧n≤18446744073709551615:=by
 simpa [Lit.wf,IntKind.min,IntKind.max,IntKind.bits,IntKind.signed] using h
theorem u64_rng (x:Int):0≤IntKind.u64.wrap x∧IntKind.u64.wrap x < 18446744073709551616:=by
 simp [IntKind.wrap,IntKind.bits,IntKind.signed]; omega
theorem nI_of {l:List Int} (h:∀x∈l,0≤x∧x < 18446744073709551616):∃a,l=nI a∧u64s a∧a.length=l.length:=by
 refine ⟨l.map Int.toNat,?_,fun x hx=>?_,by simp⟩
 ·unfold nI
  rw [List.map_map]
  refine (List.ext_getElem (by simp) fun i h1 h2=>?_)
  have:=h l[i] (List.getElem_mem h1)
  simp; omega
 ·obtain ⟨y,hy,rfl⟩:=List.mem_map.1 hx
  have:=h y hy; omega
theorem join_good {n a b:Nat} {A:Gr} (hG:Good n A) (ha:a < n) (hb:b < n) (hne:a≠b):Good n (joinL A [(a,b)]):=by
 have key:=joinL_iff A [(a,b)]
 refine ⟨fun u w=>?_,fun u=>?_,fun u w h=>?_⟩
 ·rw [Bool.eq_iff_iff,key,key,hG.sym u w]; grind
 ·rw [Bool.eq_false_iff]; intro h
  rw [key,hG.irr] at h
  simp at h
  omega
 ·rw [key] at h
  rcases h with h | h | h
  ·exact hG.lt u w h
  ·simp at h; omega
  ·simp at h; omega
theorem good_empty (n:Nat):Good n (fun _ _=>false):=⟨fun _ _=>rfl,fun _=>rfl,fun _ _ h=>by cases h⟩
theorem gl_zero (n:Nat):List.replicate n (0:Int)=gl n fun _ _=>false:=by
 apply List.ext_getElem?
 intro v
 by_cases hv:v < n
 ·rw [gl_get hv]
  have:msk n (fun _=>false)=0:=(msk_eq (by have:=Nat.two_pow_pos n; omega) fun i _=>by simp).symm
  rw [this]; simp [hv]
 ·rw [List.getElem?_eq_none (by simp; omega),List.getElem?_eq_none (by rw [gl_len]; omega)]
def dN (d:Tharuspexref08_Draft):Nat := 1+(d.N % 7).toNat
theorem dN_eq {d:Tharuspexref08_Draft} (h:okTharuspexref08_Draft d):IntKind.i64.wrap (1+IntKind.i64.wrap (Int.tmod d.N 7))=(dN d:Int)∧1≤dN d∧dN d≤7:=by
 have h0:=wf_u8 h.1
 rw [tmod_pos h0.1]
 unfold dN
 rw [w64 (n:=d.N % 7) (by omega),w64 (by omega)]
 omega
theorem mod_nat {x:Int} {n:Nat} (h:0≤x∧x≤255) (hn:1≤n):∃a:Nat,Int.tmod (IntKind.i64.wrap x) (n:Int)=(a:Int)∧a < n:=by
 rw [w64 (by omega),tmod_pos h.1]
 refine ⟨(x % n).toNat,?_,?_⟩
 ·have:=Int.emod_nonneg x (b:=(n:Int)) (by omega); omega
 ·have h1:=Int.emod_nonneg x (b:=(n:Int)) (by omega)
  have h2:=Int.emod_lt_of_pos x (b:=(n:Int)) (by omega)
  omega
theorem draft_graph {d:Tharuspexref08_Draft} (h:okTharuspexref08_Draft d):∃A,Good (dN d) A∧g_ref08_Draft_Graph d=some (gl (dN d) A):=by
 obtain ⟨e,h1,h7⟩:=dN_eq h
 have hlen:=h.2.1.1
 unfold g_ref08_Draft_Graph
 rw [e,if_pos (by omega),Int.toNat_natCast,gl_zero]
 obtain ⟨r,e1,A,hG,rfl⟩:=rng_loop (n:=min d.E.length 30) (k0:=0) (by omega) (by omega) (fun i (t:List Int)=>(i,t)) (body:=g_ref08_Draft_Graph_b0 d) (fun k t=>∃A,Good (dN d) A∧t=gl (dN d) A) (fun r=>∃A,Good (dN d) A∧r=gl (dN d) A)
  (fun k t _ h2 hI=>by
   obtain ⟨A,hG,rfl⟩:=hI
   have h2':k < d.E.length:=by omega
   have hm:=h.2.1.2 _ (List.getElem_mem h2')
   have ek:=lkI_nat h2'
   generalize d.E[k]=p at hm ek
   unfold g_ref08_Draft_Graph_b0
   dsimp only
   rw [if_pos (dlt h2')]
   by_cases c:(k:Int) < 30
   ·rw [if_pos (by simpa using c),ek,Option.bind_some,e,if_pos (by omega),if_pos (by omega)]
    obtain ⟨a,ea,ha⟩:=mod_nat (n:=dN d) (wf_u8 hm.1) h1
    obtain ⟨b,eb,hb⟩:=mod_nat (n:=dN d) (wf_u8 hm.2) h1
    rw [ea,eb]
    by_cases hab:a=b
    ·subst hab
     exact .inl ⟨_,by rw [if_neg (by simp)],A,hG,rfl⟩
    ·have hj:=refJoin (n:=dN d) (A:=A) (l:=[(a,b)]) (by omega) (fun p hp=>by simp at hp; subst hp; exact ⟨ha,hb,hab⟩) (by simp)
     have e3:([(a,b)]:List (Nat × Nat)).map pI=[((a:Int),(b:Int))]:=rfl
     rw [e3] at hj
     exact .inl ⟨_,by rw [if_pos (by simp; omega),hj]; rfl,_,join_good hG ha hb hab,rfl⟩
   ·exact .inr ⟨_,by rw [if_neg (by simpa using c)],A,hG,rfl⟩)
  (fun t hI=>by
   obtain ⟨A,hG,rfl⟩:=hI
   refine ⟨_,?_,A,hG,rfl⟩
   unfold g_ref08_Draft_Graph_b0
   dsimp only
   by_cases c:d.E.length≤30
   ·rw [Nat.min_eq_left c,if_neg (nlt _)]
   ·rw [Nat.min_eq_right (by omega),if_pos (by simp; omega),if_neg (by simp)])
  (gl (dN d) fun _ _=>false) ⟨_,good_empty _,rfl⟩
 rw [show ((0:Nat):Int)=0 from rfl] at e1
 exact ⟨A,hG,by rw [e1]; rfl⟩
theorem sub_lim {α:Type} (l:List α) (m:Nat):sub l 0 (if (m:Int) < (l.length:Int) then (m:Int) else (l.length:Int))=l.take m:=by
 unfold sub
 simp only [Int.toNat_zero,List.drop_zero,Nat.sub_zero]
 split
 ·rw [Int.toNat_natCast]
 ·rw [Int.toNat_natCast,List.take_length,List.take_of_length_le (by omega)]
def rngU (l:List Int):Prop:=∀x∈l,0≤x∧x < 18446744073709551616
theorem rngU_set {l:List Int} (h:rngU l) (k:Nat) (x:Int):rngU (l.set k (IntKind.u64.wrap x)):=fun y hy=>by
 rcases List.mem_or_eq_of_mem_set hy with h1 | h1
 ·exact h y h1
 ·rw [h1]; exact u64_rng x
theorem few_spec {l:List Int} (h:rngU l):∃x,g_law08_few l=some x∧rngU x∧x.length≤11:=by
 unfold g_law08_few
 by_cases c:(l.length:Int) > 10
 ·rw [if_pos (by simpa using c),if_pos (by omega)]
  refine ⟨_,rfl,fun x hx=>h x ?_,?_⟩
  ·unfold sub at hx; exact List.mem_of_mem_drop (List.mem_of_mem_take hx)
  ·unfold sub; simp; omega
 ·rw [if_neg (by simpa using c),if_pos (by split <;> omega)]
  have:=sub_lim l 7
  rw [show ((7:Nat):Int)=7 from rfl] at this
  rw [this]
  exact ⟨_,rfl,fun x hx=>h x (List.mem_of_mem_take hx),by simp; omega⟩
theorem even_spec {x1:List Int} (h:rngU x1) (hl:x1.length≤11):∃m:Nat,(if 7 < (x1.length:Int) then 7 else (x1.length:Int))=(m:Int)∧m≤7∧∃y,whileN fuel (g_law08_graphs_b1 x1) (0,List.replicate m (0:Int))=some y∧rngU y∧y.length≤7:=by
 obtain ⟨m,em,hm7,hml⟩:∃m:Nat,(if 7 < (x1.length:Int) then 7 else (x1.length:Int))=(m:Int)∧m≤7∧m≤x1.length:=by
  refine ⟨min 7 x1.length,?_,by omega,by omega⟩
  split <;> omega
 refine ⟨m,em,hm7,?_⟩
 have inner:∀(v:Nat) (t:List Int) (s2:List Int),v < m→rngU t→t.length=m→∃y,whileN fuel (g_law08_graphs_b0 x1 ((v:Int),s2)) (0,t)=some y∧rngU y∧y.length=m:=fun v t s2 hv ht htl=>by
  have hh:=rng_loop (n:=m) (k0:=0) (by omega) (by omega) (fun i (t:List Int)=>(i,t)) (body:=g_law08_graphs_b0 x1 ((v:Int),s2)) (fun k t=>rngU t∧t.length=m) (fun r=>rngU r∧r.length=m)
   (fun k t _ h2 hI=>by
    obtain ⟨i1,i2⟩:=hI
    unfold g_law08_graphs_b0
    dsimp only
    rw [em,if_pos (dlt h2)]
    have ev:lkI x1 (v:Int)=some x1[v]:=lkI_nat (by omega)
    have ek:lkI x1 (k:Int)=some x1[k]:=lkI_nat (by omega)
    have et:lkI t (v:Int)=some t[v]:=lkI_nat (by omega)
    rw [ev,ek,et]
    simp only [Option.bind_some,if_pos (nat_ge k),if_pos (nat_ge v)]
    left
    by_cases c1:((v:Int) != (k:Int))=true
    ·simp only [c1,if_true]
     split
     ·exact ⟨_,rfl,rngU_set i1 _ _,by rw [List.length_set]; exact i2⟩
     ·split
      ·exact ⟨_,rfl,rngU_set i1 _ _,by rw [List.length_set]; exact i2⟩
      ·exact ⟨_,rfl,i1,i2⟩
    ·rw [if_neg c1]
     exact ⟨_,rfl,i1,i2⟩)
   (fun t hI=>⟨_,by unfold g_law08_graphs_b0; dsimp only; rw [em,if_neg (nlt _)],hI⟩) t ⟨ht,htl⟩
  exact hh
 have hh:=rng_loop (n:=m) (k0:=0) (by omega) (by omega) (fun i (t:List Int)=>(i,t)) (body:=g_law08_graphs_b1 x1) (fun k t=>rngU t∧t.length=m) (fun r=>rngU r∧r.length=m)
   (fun k t _ h2 hI=>by
    unfold g_law08_graphs_b1
    dsimp only
    rw [em,if_pos (dlt h2)]
    obtain ⟨y,e1,e2⟩:=inner k t t h2 hI.1 hI.2
    rw [e1]
    exact .inl ⟨_,rfl,e2⟩)
   (fun t hI=>⟨_,by unfold g_law08_graphs_b1; dsimp only; rw [em,if_neg (nlt _)],hI⟩) (List.replicate m (0:Int)) ⟨fun x hx=>by
    have:=List.eq_of_mem_replicate hx; omega,by simp⟩
 obtain ⟨y,e1,e2,e3⟩:=hh
 exact ⟨y,e1,e2,by omega⟩
theorem graphs_spec {raw:List Int} {d:Tharuspexref08_Draft} (h:rngU raw) (hd:okTharuspexref08_Draft d) :
  ∃x y A,g_law08_graphs raw d=some (x,y,gl (dN d) A)∧rngU x∧rngU y∧x.length≤11∧y.length≤11∧Good (dN d) A∧g_ref08_Draft_Graph d=some (gl (dN d) A):=by
 obtain ⟨x,e1,hx,hxl⟩:=few_spec h
 obtain ⟨m,em,hm,y,e2,hy,hyl⟩:=even_spec hx hxl
 obtain ⟨A,hG,e3⟩:=draft_graph hd
 refine ⟨x,y,A,?_,hx,hy,hxl,by omega,hG,e3⟩
 unfold g_law08_graphs
 rw [e1,Option.bind_some,em,if_pos (by omega),Int.toNat_natCast,e2,Option.bind_some,e3]; rfl
end Go.Ab
namespace Go.Ab
open Go
set_option maxRecDepth 100000
set_option maxHeartbeats 400000
theorem cnt_all (n:Nat):cnt n (fun _=>true)=n:=by
 induction n with
 | zero=>rfl
 | succ n ih=>simp only [cnt]; rw [ih]; rfl
theorem msk_ne {n:Nat} {L:Nat → Bool} {k:Nat} (h:cnt n L=k+1):(((msk n L:Nat):Int) != 0)=true:=by
 have:msk n L≠0:=fun e=>by
  have:∀i,i < n→L i=false:=fun i hi=>by
   have h2:=bitS (p:=L) i hi
   rw [e] at h2; simpa using h2.symm
  have:=cnt_zero this; omega
 simp; omega
theorem msk_zero {n:Nat} {L:Nat → Bool} (h:cnt n L=0):msk n L=0:=by
 refine (msk_eq (by have:=Nat.two_pow_pos n; omega) fun i hi=>?_).symm
 have:L i=false:=by
  rw [Bool.eq_false_iff]; intro hh
  have:=cnt_pos hi hh; omega
 rw [this]; simp
end Go.Ab
namespace Go.Ab
open Go
set_option maxRecDepth 100000
set_option maxHeartbeats 400000
theorem works_true:g_law08_works=some true:=by kernel_rfl
end Go.Ab
namespace Go.Ab
open Go
set_option maxRecDepth 100000
set_option maxHeartbeats 400000
theorem msk_add {n b:Nat} {L:Nat → Bool} (hn:n≤10) (hb:b < n):IntKind.u64.wrap (BitVec.ofInt (IntKind.bits .u64) ((msk n fun i=>!L i:Nat):Int) ||| BitVec.ofInt (IntKind.bits .u64) (IntKind.u64.wrap (1*2^min (Int.toNat (IntKind.u64.wrap (b:Int))) (IntKind.bits .u64)))).toNat = ((msk n fun i=>!(L i && !decide (b=i)):Nat):Int):=by
 rw [u64_nat (show b < 18446744073709551616 by omega),u_ins hn hb]
 congr 1
 exact msk_congr fun i _=>by simp
theorem msk_none (n:Nat):((msk n fun i=>!(fun _:Nat => true) i:Nat):Int)=0:=by
 have:(msk n fun i=>!(fun _:Nat => true) i)=0:=(msk_eq (by have:=Nat.two_pow_pos n; omega) fun i _=>by simp).symm
 rw [this]; rfl
theorem same_self (l:List Int) (h:l.length≤1000):g_ref02_Same l l=some true:=by
 unfold g_ref02_Same
 rw [if_neg (by simp)]
 have:=rng_run (n:=l.length) (k0:=0) (by omega) (by omega) (fun i (_:Unit)=>i) (body:=g_ref02_Same_b0 l l) (fun _=>()) (Sum.inr ())
  (fun k _ h2=>by
   unfold g_ref02_Same_b0
   rw [if_pos (dlt h2),lkI_nat h2,Option.bind_some,Option.bind_some,if_neg (by simp)])
  (by unfold g_ref02_Same_b0; rw [if_neg (nlt _)])
 rw [show ((0:Nat):Int)=0 from rfl] at this
 rw [this]; rfl
end Go.Ab
namespace Go.Ab
open Go
set_option maxRecDepth 100000
set_option maxHeartbeats 400000
theorem three_graphs {x y:List Int} {n:Nat} {A:Gr} (hn:n≤10) (hx:rngU x) (hy:rngU y) (hxl:x.length≤11) (hyl:y.length≤11):∀k:Nat,k < 3→∃a,lkI ([x,y,gl n A]:List (List Int)) (k:Int)=some (nI a)∧u64s a∧a.length≤11:=fun k hk=>by
 match k,hk with
 | 0,_ =>
  obtain ⟨a,rfl,ha,hl⟩:=nI_of hx
  exact ⟨a,rfl,ha,by omega⟩
 | 1,_ =>
  obtain ⟨a,rfl,ha,hl⟩:=nI_of hy
  exact ⟨a,rfl,ha,by omega⟩
 | 2,_=>exact ⟨_,by rw [←gl_nI]; rfl,gl_u64s (by omega) A,by simp; omega⟩
end Go.Ab
namespace Go.Ab
open Go
set_option maxRecDepth 100000
set_option maxHeartbeats 400000
inductive Via (A:Gr) (R:Nat → Bool):Nat → Nat → Prop
 | one {v u:Nat} (h:A v u=true):Via A R v u
 | step {v x u:Nat} (h:A v x=true) (hx:R x=true) (k:Via A R x u):Via A R v u
theorem Via.trans {A:Gr} {R:Nat → Bool} {u v w:Nat} (h:Via A R u v) (hv:R v=true) (k:Via A R v w):Via A R u w:=by
 induction h with
 | one h=>exact .step h hv k
 | step h hx _ ih=>exact .step h hx (ih hv k)
theorem Via.symm {n:Nat} {A:Gr} {R:Nat → Bool} {u v:Nat} (hG:Good n A) (h:Via A R u v):Via A R v u:=by
 induction h with
 | one h=>exact .one (by rw [hG.sym]; exact h)
 | step h hx _ ih=>exact ih.trans hx (.one (by rw [hG.sym]; exact h))
theorem Via.mono {A:Gr} {R R':Nat → Bool} {u v:Nat} (h:Via A R u v) (hR:∀x,R x=true→(∃y,A x y=true)→R' x=true):Via A R' u v:=by
 induction h with
 | one h=>exact .one h
 | step h hx k ih =>
  refine .step h (hR _ hx ?_) ih
  cases k with
  | one h=>exact ⟨_,h⟩
  | step h _ _=>exact ⟨_,h⟩
theorem Via.lt {n:Nat} {A:Gr} {R:Nat → Bool} {u v:Nat} (hG:Good n A) (h:Via A R u v):u < n∧v < n:=by
 induction h with
 | one h=>exact ⟨hG.lt _ _ h,hG.lt _ _ (by rw [hG.sym]; exact h)⟩
 | step h _ _ ih=>exact ⟨hG.lt _ _ h,ih.2⟩
theorem via_more {A:Gr} {R R':Nat → Bool} {v:Nat} (hR:∀x,R' x=true→R x=true∨x=v) {u w:Nat} (h:Via A R' u w):Via A R u w∨(Via A R u v∧Via A R v w):=by
 induction h with
 | one h=>exact .inl (.one h)
 | step h hx _ ih =>
  rcases hR _ hx with e | e
  ·rcases ih with i | ⟨i,j⟩
   ·exact .inl (.step h e i)
   ·exact .inr ⟨.step h e i,j⟩
  ·subst e
   rcases ih with i | ⟨i,j⟩
   ·exact .inr ⟨.one h,i⟩
   ·exact .inr ⟨.one h,j⟩
open Classical in
noncomputable def Egr (A:Gr) (S:Nat → Bool):Gr:=fun u w=>S u && S w && !decide (u=w) && decide (Via A (fun i=>!S i) u w)
theorem Egr_iff {A:Gr} {S:Nat → Bool} {u w:Nat}:Egr A S u w=true↔S u=true∧S w=true∧u≠w∧Via A (fun i=>!S i) u w:=by
 unfold Egr
 simp only [Bool.and_eq_true,Bool.not_eq_true',decide_eq_false_iff_not,decide_eq_true_eq]
 constructor
 ·rintro ⟨⟨⟨a,b⟩,c⟩,d⟩; exact ⟨a,b,c,d⟩
 ·rintro ⟨a,b,c,d⟩; exact ⟨⟨⟨a,b⟩,c⟩,d⟩
theorem Egr_good {n:Nat} {A:Gr} {S:Nat → Bool} (hG:Good n A):Good n (Egr A S):=by
 refine ⟨fun u w=>?_,fun u=>?_,fun u w h=>?_⟩
 ·rw [Bool.eq_iff_iff,Egr_iff,Egr_iff]
  exact ⟨fun ⟨a,b,c,d⟩=>⟨b,a,fun e=>c e.symm,d.symm hG⟩,fun ⟨a,b,c,d⟩=>⟨b,a,fun e=>c e.symm,d.symm hG⟩⟩
 ·rw [Bool.eq_false_iff]; intro h; exact (Egr_iff.1 h).2.2.1 rfl
 ·exact ((Egr_iff.1 h).2.2.2.lt hG).1
theorem Egr_all {n:Nat} {A:Gr} (hG:Good n A):∀u w,Egr A (fun _=>true) u w=A u w:=fun u w=>by
 rw [Bool.eq_iff_iff,Egr_iff]
 constructor
 ·rintro ⟨_,_,_,h⟩
  cases h with
  | one h=>exact h
  | step h hx _=>cases hx
 ·intro h
  exact ⟨rfl,rfl,(fun e=>by subst e; rw [hG.irr] at h; cases h),.one h⟩
theorem Egr_elim {n:Nat} {A:Gr} {S:Nat → Bool} {v:Nat} (hG:Good n A) (hv:S v=true):∀u w,elim (Egr A S) v u w=Egr A (fun i=>S i && !decide (v=i)) u w:=fun u w=>by
 rw [Bool.eq_iff_iff,Egr_iff]
 unfold elim
 simp only [Bool.and_eq_true,Bool.or_eq_true,Bool.not_eq_true',decide_eq_false_iff_not,Egr_iff]
 have hm:∀x:Nat,(fun i=>!S i) x=true→(∃y,A x y=true)→(fun i=>!(S i && !decide (v=i))) x=true:=fun x h _=>by
  simp only [Bool.not_eq_true'] at h
  simp [h]
 have hv':(fun i=>!(S i && !decide (v=i))) v=true:=by simp
 constructor
 ·rintro ⟨⟨h | ⟨⟨h1,h2⟩,h3⟩,h4⟩,h5⟩
  ·exact ⟨⟨h.1,fun e=>h4 e.symm⟩,⟨h.2.1,fun e=>h5 e.symm⟩,h.2.2.1,h.2.2.2.mono hm⟩
  ·exact ⟨⟨h1.2.1,fun e=>h4 e.symm⟩,⟨h2.2.1,fun e=>h5 e.symm⟩,h3,((h1.2.2.2.symm hG).mono hm).trans hv' (h2.2.2.2.mono hm)⟩
 ·rintro ⟨⟨a1,a2⟩,⟨b1,b2⟩,c,d⟩
  have hr:∀x:Nat,(fun i=>!(S i && !decide (v=i))) x=true→(fun i=>!S i) x=true∨x=v:=fun x h=>by
   by_cases e:v=x
   ·exact .inr e.symm
   ·simp only [Bool.not_eq_true',Bool.and_eq_false_iff,Bool.not_eq_false',decide_eq_true_eq] at h
    rcases h with h | h
    ·left; simp [h]
    ·exact absurd h e
  refine ⟨⟨?_,fun e=>a2 e.symm⟩,fun e=>b2 e.symm⟩
  rcases via_more hr d with h | ⟨h1,h2⟩
  ·exact .inl ⟨a1,b1,c,h⟩
  ·exact .inr ⟨⟨⟨hv,a1,a2,h1.symm hG⟩,⟨hv,b1,b2,h2⟩⟩,c⟩
noncomputable def lateN (n:Nat) (A:Gr) (S:Nat → Bool) (v:Nat):Nat := cnt n (Egr A S v)
theorem Egr_congr {n:Nat} {A:Gr} {S T:Nat → Bool} (hG:Good n A) (h:∀i,i < n→S i=T i):Egr A S=Egr A T:=by
 funext u w
 rw [Bool.eq_iff_iff,Egr_iff,Egr_iff]
 have key:∀(S T:Nat → Bool),(∀i,i < n→S i=T i)→S u=true∧S w=true∧u≠w∧Via A (fun i=>!S i) u w→T u=true∧T w=true∧u≠w∧Via A (fun i=>!T i) u w:=fun S T h=>by
  rintro ⟨a,b,c,d⟩
  obtain ⟨l1,l2⟩:=d.lt hG
  exact ⟨by rw [←h u l1]; exact a,by rw [←h w l2]; exact b,c,d.mono fun x hx ⟨y,hy⟩=>by
   show (!T x)=true
   rw [←h x (hG.lt x y hy)]; exact hx⟩
 exact ⟨key S T h,key T S fun i hi=>(h i hi).symm⟩
theorem late_spec {n:Nat} {A:Gr} {S:Nat → Bool} {v:Nat} (hn:n≤10) (hG:Good n A) (hv:v < n) (hS:S v=true) :
  g_order_late (gl n A) (v:Int) ((msk n fun i=>!S i:Nat):Int)=some (lateN n A S v:Int):=by
 unfold g_order_late
 rw [if_pos (nat_ge v),gl_at hv,Option.bind_some]
 have body:∀(D X:Nat → Bool) (x:Nat),x < n→X x=true→(∀i,i < x→X i=false)→g_order_late_b0 ((msk n fun i=>!S i:Nat):Int) (gl n A) (((msk n D:Nat):Int),((msk n fun i=>D i && (S i && !decide (v=i)):Nat):Int),((msk n X:Nat):Int)) =
   some (.next (((msk n fun i=>D i || decide (x=i):Nat):Int),((msk n fun i=>(D i && (S i && !decide (v=i))) || (S x && decide (x=i)):Nat):Int),((msk n fun i=>(X i && !decide (x=i)) || (!S x && (A x i && !(D i || decide (x=i)))):Nat):Int))):=fun D X x hx hX hl=>by
  obtain ⟨a1,a2,a3⟩:=rest_msk hn hx hX hl
  have hb:IntKind.u64.wrap (BitVec.ofInt (IntKind.bits .u64) (Int.fdiv ((msk n fun i=>!S i:Nat):Int) (2^min (Int.toNat (x:Int)) (IntKind.bits .u64))) &&& BitVec.ofInt (IntKind.bits .u64) 1).toNat = ((!S x).toNat : Int):=by
   rw [u_bit (lt64 hn (msk_lt n _)) (by omega),bitS x hx]
  unfold g_order_late_b0
  dsimp only
  rw [if_pos a1,a2,Option.bind_some,if_pos (nat_ge x),if_pos (nat_ge x),hb,u_ins hn hx,u_ins hn hx,a3,gl_at hx]
  cases hs:S x with
  | true =>
   rw [if_pos (by rfl),if_pos (nat_ge x)]
   simp only [Bool.true_and,Bool.not_true,Bool.false_and,Bool.or_false]
  | false =>
   rw [if_neg (by decide),Option.bind_some]
   rw [u_diff (n:=n) (p:=A x) (q:=fun i=>D i || decide (x=i)) (by omega) (msk_lt n _) (lt64 hn (msk_lt n _)) bitS bitS]
   rw [u_or (n:=n) (p:=fun i=>X i && !decide (x=i)) (q:=fun i=>A x i && !(D i || decide (x=i))) (by omega) (msk_lt n _) (msk_lt n _) bitS bitS]
   simp only [Bool.false_and,Bool.or_false,Bool.not_false,Bool.true_and]
 obtain ⟨r,h1,h2⟩:=whileN_ex (body:=g_order_late_b0 ((msk n fun i=>!S i:Nat):Int) (gl n A))
  (fun s=>∃D X:Nat → Bool,s=(((msk n D:Nat):Int),((msk n fun i=>D i && (S i && !decide (v=i)):Nat):Int),((msk n X:Nat):Int))∧D v=true∧(∀i,X i=true→D i=false)∧(∀i,X i=true→Via A (fun i=>!S i) v i)∧(∀i,D i=true→i≠v→Via A (fun i=>!S i) v i)∧(∀y i,D y=true→(y=v∨S y=false)→A y i=true→D i=true∨X i=true))
  (fun s=>cnt n fun i=>!(s.1.toNat.testBit i)) (fun r=>r=((msk n (Egr A S v):Nat):Int))
  (fun s hI=>by
   obtain ⟨D,X,rfl,d1,d2,d3,d4,d5⟩:=hI
   by_cases hX:∃i,i < n∧X i=true
   ·left
    obtain ⟨t1,t2,t3⟩:=tzN_spec n X hX
    generalize tzN n X=x at t1 t2 t3
    have hDx:=d2 x t2
    have hvx:=d3 x t2
    refine ⟨_,body D X x t1 t2 t3,⟨fun i=>D i || decide (x=i),fun i=>(X i && !decide (x=i)) || (!S x && (A x i && !(D i || decide (x=i)))),?_,by simp [d1],fun i hi=>?_,fun i hi=>?_,fun i hi hne=>?_,fun y i hy hyv hA=>?_⟩,?_⟩
    ·congr 1
     congr 1
     refine congrArg _ (msk_congr fun i _=>?_)
     have hxv:x≠v:=fun e=>by subst e; rw [d1] at hDx; cases hDx
     grind
    ·simp only [Bool.or_eq_true,Bool.and_eq_true,Bool.not_eq_true',decide_eq_false_iff_not,Bool.or_eq_false_iff] at hi
     rw [Bool.or_eq_false_iff,decide_eq_false_iff_not]
     rcases hi with hi | hi
     ·exact ⟨d2 i hi.1,hi.2⟩
     ·exact hi.2.2
    ·simp only [Bool.or_eq_true,Bool.and_eq_true,Bool.not_eq_true',decide_eq_false_iff_not,Bool.or_eq_false_iff] at hi
     rcases hi with hi | hi
     ·exact d3 i hi.1
     ·exact hvx.trans (by simp [hi.1]) (.one hi.2.1)
    ·simp only [Bool.or_eq_true,decide_eq_true_eq] at hi
     rcases hi with hi | hi
     ·exact d4 i hi hne
     ·subst hi; exact hvx
    ·simp only [Bool.or_eq_true,decide_eq_true_eq] at hy
     simp only [Bool.or_eq_true,Bool.and_eq_true,Bool.not_eq_true',decide_eq_false_iff_not,decide_eq_true_eq,Bool.or_eq_false_iff]
     rcases hy with hy | hy
     ·rcases d5 y i hy hyv hA with h | h
      ·exact .inl (.inl h)
      ·by_cases e:x=i
       ·exact .inl (.inr e)
       ·exact .inr (.inl ⟨h,e⟩)
     ·subst hy
      have hSx:S x=false:=by
       rcases hyv with e | e
       ·subst e; rw [d1] at hDx; cases hDx
       ·exact e
      by_cases e:x=i
      ·exact .inl (.inr e)
      ·cases hD:D i with
       | true=>exact .inl (.inl rfl)
       | false=>exact .inr (.inr ⟨hSx,hA,rfl,e⟩)
    ·simp only [Int.toNat_natCast]
     have e1:(cnt n fun i=>!(msk n fun i=>D i || decide (x=i)).testBit i)=cnt n fun i=>(!D i) && !decide (x=i):=cnt_congr fun i hi=>by rw [bitS i hi]; simp
     have e2:(cnt n fun i=>!(msk n D).testBit i)=cnt n fun i=>!D i:=cnt_congr fun i hi=>by rw [bitS i hi]
     rw [e1,e2]
     have:=cnt_del (n:=n) (p:=fun i=>!D i) t1 (by simp [hDx])
     omega
   ·right
    have hno:∀i,i < n→X i=false:=fun i hi=>by rw [Bool.eq_false_iff]; exact fun h=>hX ⟨i,hi,h⟩
    have e0:msk n X=0:=(msk_eq (by have:=Nat.two_pow_pos n; omega) fun i hi=>by rw [hno i hi]; simp).symm
    refine ⟨((msk n fun i=>D i && (S i && !decide (v=i)):Nat):Int),by unfold g_order_late_b0; dsimp only; rw [e0]; rfl,?_⟩
    refine congrArg _ (msk_congr fun i hi=>?_)
    have seen:∀y z,Via A (fun i=>!S i) y z→D y=true→(y=v∨S y=false)→D z=true:=fun y z h=>by
     induction h with
     | one h =>
      intro hy hyv
      rcases d5 _ _ hy hyv h with h2 | h2
      ·exact h2
      ·rw [hno _ (hG.lt _ _ (by rw [hG.sym]; exact h))] at h2; cases h2
     | @step _ x _ h hx k ih =>
      intro hy hyv
      have hx':S x=false:=by simpa using hx
      rcases d5 _ _ hy hyv h with h2 | h2
      ·exact ih h2 (.inr hx')
      ·rw [hno _ (hG.lt _ _ (by rw [hG.sym]; exact h))] at h2; cases h2
    rw [Bool.eq_iff_iff,Egr_iff]
    simp only [Bool.and_eq_true,Bool.not_eq_true',decide_eq_false_iff_not]
    constructor
    ·rintro ⟨a,b,c⟩
     exact ⟨hS,b,c,d4 i a fun e=>c e.symm⟩
    ·rintro ⟨_,b,c,d⟩
     exact ⟨seen v i d d1 (.inl rfl),b,c⟩)
  (IntKind.u64.wrap (1*2^min (Int.toNat (v:Int)) (IntKind.bits .u64)),0,((msk n (A v):Nat):Int))
  ⟨fun i=>decide (v=i),A v,(by
   rw [u_sh (by omega)]
   have e1:2^v=msk n fun i=>decide (v=i):=msk_eq (Nat.pow_lt_pow_right (by omega) hv) fun i _=>bit_pow v i
   have e2:(msk n fun i=>decide (v=i) && (S i && !decide (v=i)))=0:=(msk_eq (by have:=Nat.two_pow_pos n; omega) fun i _=>by simp; intro e _; exact e).symm
   rw [e1,e2]; rfl),by simp,
   (fun i hi=>by rw [decide_eq_false_iff_not]; intro e; subst e; rw [hG.irr] at hi; cases hi),(fun i hi=>.one hi),
   (fun i hi hne=>by simp only [decide_eq_true_eq] at hi; exact absurd hi.symm hne),
   (fun y i hy hyv hA=>by simp only [decide_eq_true_eq] at hy; subst hy; exact .inr hA)⟩
  (by
   have:=cnt_le n fun i=>!((IntKind.u64.wrap (1*2^min (Int.toNat (v:Int)) (IntKind.bits .u64))).toNat.testBit i)
   dsimp only
   omega)
 rw [h1,Option.bind_some,h2,oc_msk hn]; rfl
end Go.Ab
namespace Go.Ab
open Go
set_option maxRecDepth 100000
set_option maxHeartbeats 400000
def mn (n:Nat) (S:Nat → Bool) (f:Nat → Nat):Nat → Nat
 | 0=>n
 | k+1=>if S k then min (mn n S f k) (f k) else mn n S f k
theorem mn_le {n:Nat} {S:Nat → Bool} {f:Nat → Nat} {w:Nat} (hw:w < n):∀k,mn n S f k≤w↔∃v,v < k∧S v=true∧f v≤w
 | 0=>by
  simp only [mn]; constructor
  ·intro h; omega
  ·rintro ⟨v,hv,_⟩; omega
 | k+1=>by
  have ih:=mn_le (S:=S) (f:=f) hw k
  simp only [mn]
  cases hS:S k with
  | true =>
   rw [if_pos rfl]
   constructor
   ·intro h
    rcases Nat.le_total (mn n S f k) (f k) with c | c
    ·rw [Nat.min_eq_left c] at h
     obtain ⟨v,a,b⟩:=ih.1 h
     exact ⟨v,by omega,b⟩
    ·rw [Nat.min_eq_right c] at h
     exact ⟨k,by omega,hS,h⟩
   ·rintro ⟨v,a,b,c⟩
    rcases Nat.lt_succ_iff_lt_or_eq.1 a with h | h
    ·have:=ih.2 ⟨v,h,b,c⟩; omega
    ·subst h; omega
  | false =>
   rw [if_neg (by decide),ih]
   constructor
   ·rintro ⟨v,a,b⟩; exact ⟨v,by omega,b⟩
   ·rintro ⟨v,a,b,c⟩
    rcases Nat.lt_succ_iff_lt_or_eq.1 a with h | h
    ·exact ⟨v,h,b,c⟩
    ·subst h; rw [hS] at b; cases b
theorem mn_congr {n:Nat} {S T:Nat → Bool} {f g:Nat → Nat}:∀k,(∀i,i < k→S i=T i)→(∀i,i < k→S i=true→f i=g i)→mn n S f k=mn n T g k
 | 0,_,_=>rfl
 | k+1,h1,h2=>by
  simp only [mn]
  rw [mn_congr k (fun i hi=>h1 i (by omega)) (fun i hi=>h2 i (by omega)),←h1 k (by omega)]
  cases hS:S k with
  | true=>rw [h2 k (by omega) hS]
  | false=>rfl
def rem (S:Nat → Bool) (v:Nat):Nat → Bool:=fun i=>S i && !decide (v=i)
noncomputable def wid (n:Nat) (A:Gr):Nat → (Nat → Bool)→Nat
 | 0,_=>0
 | k+1,S=>mn n S (fun v=>max (lateN n A S v) (wid n A k (rem S v))) n
theorem late_congr {n:Nat} {A:Gr} {S T:Nat → Bool} (hG:Good n A) (h:∀i,i < n→S i=T i) (v:Nat):lateN n A S v=lateN n A T v:=by unfold lateN; rw [Egr_congr hG h]
theorem wid_congr {n:Nat} {A:Gr} (hG:Good n A):∀(k:Nat) (S T:Nat → Bool),(∀i,i < n→S i=T i)→wid n A k S=wid n A k T
 | 0,_,_,_=>rfl
 | k+1,S,T,h=>by
  simp only [wid]
  refine mn_congr n h fun v hv _=>?_
  rw [late_congr hG h,wid_congr hG k (rem S v) (rem T v) fun i hi=>by unfold rem; rw [h i hi]]
theorem late_lt {n:Nat} {A:Gr} {S:Nat → Bool} {v:Nat} (hG:Good n A) (hv:v < n):lateN n A S v < n:=by
 unfold lateN
 have h1:cnt n (Egr A S v)≤cnt n (fun i=>true && !decide (v=i)):=cnt_mono fun i hi h=>by
  have:v≠i:=(Egr_iff.1 h).2.2.1
  simp [this]
 have h2:=cnt_del (n:=n) (p:=fun _=>true) hv rfl
 rw [cnt_all] at h2
 omega
theorem cnt_rem {n:Nat} {S:Nat → Bool} {v k:Nat} (hv:v < n) (h:S v=true) (hc:cnt n S=k+1):cnt n (rem S v)=k:=by
 have:=cnt_del (n:=n) hv h
 unfold rem; omega
theorem some_in {n:Nat} {S:Nat → Bool} {k:Nat} (hc:cnt n S=k+1):∃v,v < n∧S v=true:=by
 apply Classical.byContradiction
 intro h
 have:=cnt_zero (n:=n) (p:=S) fun i hi=>by rw [Bool.eq_false_iff]; exact fun hh=>h ⟨i,hi,hh⟩
 omega
theorem wid_lt {n:Nat} {A:Gr} (hG:Good n A) (h1:1≤n):∀(k:Nat) (S:Nat → Bool),cnt n S=k→wid n A k S < n
 | 0,_,_=>by simp only [wid]; omega
 | k+1,S,hc=>by
  obtain ⟨v,hv,hS⟩:=some_in hc
  have h2:=wid_lt hG h1 k (rem S v) (cnt_rem hv hS hc)
  have h3:=late_lt (S:=S) hG hv
  simp only [wid]
  have hm:max (lateN n A S v) (wid n A k (rem S v)) < n:=by omega
  exact Nat.lt_of_le_of_lt ((mn_le (S:=S) (f:=fun v=>max (lateN n A S v) (wid n A k (rem S v))) hm n).2 ⟨v,hv,hS,Nat.le_refl _⟩) hm
theorem wid_le {n:Nat} {A:Gr} {k w:Nat} {S:Nat → Bool} (hw:w < n):wid n A (k+1) S≤w↔∃v,v < n∧S v=true∧lateN n A S v≤w∧wid n A k (rem S v)≤w:=by
 simp only [wid]
 rw [mn_le hw]
 constructor
 ·rintro ⟨v,a,b,c⟩; exact ⟨v,a,b,by omega,by omega⟩
 ·rintro ⟨v,a,b,c,d⟩; exact ⟨v,a,b,by omega⟩
theorem mget_mput (k:Int) (w:Int):∀(l:List (Int × Int)) (n:Int),mget (mput l k w) n=if n==k then some w else mget l n
 | [],n=>by simp only [mput,mget]
 | p::r,n=>by
  unfold mput
  by_cases h:(k==p.1)=true
  ·rw [if_pos h]
   have e:k=p.1:=by simpa using h
   simp only [mget]
   by_cases h2:(n==k)=true
   ·simp [h2]
   ·have h3:(n==p.1)=false:=by rw [←e]; simpa using h2
    simp [h2,h3]
  ·rw [if_neg h]
   simp only [mget,mget_mput k w r n]
   by_cases h2:(n==p.1)=true
   ·have e2:n=p.1:=by simpa using h2
    have h3:(n==k)=false:=by
     rw [Bool.eq_false_iff]; intro h4
     have:n=k:=by simpa using h4
     exact h (by rw [←this,e2]; simp)
    simp [h2,h3]
   ·simp [h2]
def Vm (n:Nat) (A:Gr) (m:List (Int × Int)):Prop:=(∀S w,mget m ((msk n S:Nat):Int)=some w→w=(wid n A (cnt n S) S:Int))∧mget m 0=some 0
theorem vm_put {n:Nat} {A:Gr} {m:List (Int × Int)} (hG:Good n A) (h:Vm n A m) {S:Nat → Bool} {k:Nat} (hc:cnt n S=k+1):Vm n A (mput m ((msk n S:Nat):Int) (wid n A (k+1) S:Int)):=by
 refine ⟨fun T w hw=>?_,?_⟩
 ·rw [mget_mput] at hw
  split at hw
  ·rename_i e
   cases hw
   have e1:msk n T=msk n S:=by
    have:((msk n T:Nat):Int)=((msk n S:Nat):Int):=by simpa using e
    omega
   have e2:=msk_inj e1
   rw [cnt_congr e2,hc,wid_congr hG _ _ _ e2]
  ·exact h.1 T w hw
 ·rw [mget_mput,if_neg,h.2]
  have:=msk_ne hc
  simp at this
  simp; omega
theorem vm_start (n:Nat) (A:Gr):Vm n A (mput [] (0:Int) (0:Int)):=by
 refine ⟨fun S w hw=>?_,rfl⟩
 rw [mget_mput] at hw
 split at hw
 ·rename_i e
  cases hw
  have e1:msk n S=0:=by
   have:((msk n S:Nat):Int)=0:=by simpa using e
   omega
  have:cnt n S=0:=cnt_zero fun i hi=>by
   have h2:=bitS (p:=S) i hi
   rw [e1] at h2; simpa using h2.symm
  rw [this]; rfl
 ·cases hw
theorem gone_msk {n:Nat} {S:Nat → Bool} (hn:n≤10):IntKind.u64.wrap (BitVec.ofInt (IntKind.bits .u64) (IntKind.u64.wrap ((IntKind.u64.wrap (1*2^min (Int.toNat (n:Int)) (IntKind.bits .u64))) - 1)) &&& ~~~ BitVec.ofInt (IntKind.bits .u64) ((msk n S:Nat):Int)).toNat = ((msk n fun i=>!S i:Nat):Int):=by
 rw [u_all hn,u_diff (n:=n) (p:=fun _=>true) (q:=S) (by omega) (msk_lt n _) (lt64 hn (msk_lt n _)) bitS bitS]
 simp
theorem imin (a b:Nat):(if (a:Int) < (b:Int) then (a:Int) else (b:Int))=((min b a:Nat):Int):=by split <;> omega
theorem narrow_spec {n:Nat} {A:Gr} (hn:n≤10) (h1:1≤n) (hG:Good n A):∀(k N:Nat) (S:Nat → Bool) (m:List (Int × Int)),k < N→cnt n S=k→Vm n A m →
  ∃m',recN (g_order_Best_r1 (gl n A)) N (((msk n S:Nat):Int),m)=some ((wid n A k S:Int),m')∧Vm n A m'
 | k,0,S,m,hN,_,_=>by omega
 | k,N+1,S,m,hN,hc,hV=>by
  show ∃m',g_order_Best_r1 (gl n A) (recN (g_order_Best_r1 (gl n A)) N) (((msk n S:Nat):Int),m)=some ((wid n A k S:Int),m')∧Vm n A m'
  have ih:∀(k:Nat) (S:Nat → Bool) (m:List (Int × Int)),k < N→cnt n S=k→Vm n A m→∃m',recN (g_order_Best_r1 (gl n A)) N (((msk n S:Nat):Int),m)=some ((wid n A k S:Int),m')∧Vm n A m':=fun k S m a b c=>narrow_spec hn h1 hG k N S m a b c
  generalize recN (g_order_Best_r1 (gl n A)) N=d at ih
  unfold g_order_Best_r1
  dsimp only
  cases hm:mget m ((msk n S:Nat):Int) with
  | some w =>
   rw [if_pos (by rfl)]
   have:=hV.1 S w hm
   rw [hc] at this
   exact ⟨m,by rw [this]; rfl,hV⟩
  | none =>
   rw [if_neg (by simp)]
   cases k with
   | zero=>rw [msk_zero hc] at hm; rw [show ((0:Nat):Int)=0 from rfl,hV.2] at hm; cases hm
   | succ k =>
    let f:Nat → Nat := fun v=>max (lateN n A S v) (wid n A k (rem S v))
    obtain ⟨r,e1,e2⟩:=mem_loop hn (fun R (t:List (Int × Int) × Int)=>(R,t.1,t.2)) (body:=g_order_Best_b0 (gl n A) (((msk n S:Nat):Int),m) d) (fun j t=>Vm n A t.1∧t.2=(mn n S f j:Int)) (fun r=>Vm n A r.1∧r.2=(mn n S f n:Int)) S
     (fun x t R R' hx hp hI c1 c2 c3=>.inl (by
      obtain ⟨t1,t2⟩:=t
      obtain ⟨i1,i2⟩:=hI
      simp only at i1 i2
      subst i2
      obtain ⟨m',e,hV'⟩:=ih k (rem S x) t1 (by omega) (cnt_rem hx hp hc) i1
      have hl:=late_spec hn hG hx hp
      have hd:IntKind.u64.wrap (BitVec.ofInt (IntKind.bits .u64) ((msk n S:Nat):Int) &&& ~~~ BitVec.ofInt (IntKind.bits .u64) (IntKind.u64.wrap (1*2^min (Int.toNat (x:Int)) (IntKind.bits .u64)))).toNat = ((msk n (rem S x):Nat):Int):=u_del hn (by omega)
      refine ⟨(m',(mn n S f (x+1):Int)),?_,hV',rfl⟩
      unfold g_order_Best_b0
      dsimp only
      rw [if_pos c1,c2,Option.bind_some,gl_len,gone_msk hn,hl,Option.bind_some,if_pos (nat_ge x),hd,e,Option.bind_some,c3]
      simp only [imax,imin,mn,hp,if_true,f]))
     (fun x t hx hp hI=>⟨hI.1,by rw [hI.2]; simp only [mn]; rw [hp]; rfl⟩)
     (fun t hI=>⟨_,by unfold g_order_Best_b0; dsimp only; rw [if_neg (by simp)],hI⟩)
     (m,((gl n A).length:Int)) ⟨hV,by rw [gl_len]; rfl⟩
    dsimp only at e1
    rw [e1,Option.bind_some]
    refine ⟨mput r.1 ((msk n S:Nat):Int) r.2,by rw [e2.2]; rfl,?_⟩
    rw [e2.2]
    exact vm_put hG e2.1 hc
open Classical in
noncomputable def bord (n:Nat) (A:Gr) (w:Nat):Nat → (Nat → Bool)→List Nat
 | 0,_=>[]
 | k+1,S=>match (List.range n).find? fun v=>S v && decide (lateN n A S v≤w) && decide (wid n A k (rem S v)≤w) with
  | none=>[]
  | some v=>v::bord n A w k (rem S v)
theorem find_range {n:Nat} {p:Nat → Bool}:((List.range n).find? p=none∧∀i,i < n→p i=false)∨∃v,(List.range n).find? p=some v∧v < n∧p v=true∧∀i,i < v→p i=false:=by
 cases h:(List.range n).find? p with
 | none =>
  left
  refine ⟨rfl,fun i hi=>?_⟩
  have:=List.find?_eq_none.1 h i (List.mem_range.2 hi)
  simpa using this
 | some v =>
  right
  rw [List.find?_range_eq_some] at h
  exact ⟨v,rfl,List.mem_range.1 h.2.1,h.1,fun i hi=>by simpa using h.2.2 i hi⟩
theorem r31:g_order_Best_r3=g_order_Best_r1:=rfl
theorem nI_snoc (o:List Nat) (v:Nat):nI o++([(v:Int)]:List Int)=nI (o++[v]):=by simp [nI]
theorem place {n:Nat} {A:Gr} (hn:n≤10) (h1:1≤n) (hG:Good n A) {k w:Nat} {S:Nat → Bool} {o:List Nat} {m mx:List (Int × Int)} (hc:cnt n S=k+1) (hV:Vm n A m) (ho:o.length≤100) :
  (∃v m',whileN fuel (g_order_Best_b4 (gl n A) (((msk n S:Nat):Int),nI o,m) ((w:Int),mx)) (((msk n S:Nat):Int),m)=some (Sum.inl (((msk n (rem S v):Nat):Int),m',nI (o++[v])))∧Vm n A m'∧v < n∧S v=true∧lateN n A S v≤w∧wid n A k (rem S v)≤w∧∀i,i < v→S i=true→¬ (lateN n A S i≤w∧wid n A k (rem S i)≤w)) ∨
  (∃m',whileN fuel (g_order_Best_b4 (gl n A) (((msk n S:Nat):Int),nI o,m) ((w:Int),mx)) (((msk n S:Nat):Int),m)=some (Sum.inr m')∧∀i,i < n→S i=true→¬ (lateN n A S i≤w∧wid n A k (rem S i)≤w)):=by
 obtain ⟨r,e1,e2⟩:=mem_loop hn (fun R (t:List (Int × Int))=>(R,t)) (body:=g_order_Best_b4 (gl n A) (((msk n S:Nat):Int),nI o,m) ((w:Int),mx)) (fun j t=>Vm n A t∧∀i,i < j→S i=true→¬ (lateN n A S i≤w∧wid n A k (rem S i)≤w))
  (fun r=>(∃v m',r=Sum.inl (((msk n (rem S v):Nat):Int),m',nI (o++[v]))∧Vm n A m'∧v < n∧S v=true∧lateN n A S v≤w∧wid n A k (rem S v)≤w∧∀i,i < v→S i=true→¬ (lateN n A S i≤w∧wid n A k (rem S i)≤w))∨(∃m',r=Sum.inr m'∧∀i,i < n→S i=true→¬ (lateN n A S i≤w∧wid n A k (rem S i)≤w))) S
  (fun x t R R' hx hp hI c1 c2 c3=>by
   obtain ⟨i1,i2⟩:=hI
   have hl:=late_spec hn hG hx hp
   have hd:IntKind.u64.wrap (BitVec.ofInt (IntKind.bits .u64) ((msk n S:Nat):Int) &&& ~~~ BitVec.ofInt (IntKind.bits .u64) (IntKind.u64.wrap (1*2^min (Int.toNat (x:Int)) (IntKind.bits .u64)))).toNat = ((msk n (rem S x):Nat):Int):=u_del hn (by omega)
   obtain ⟨m',e,hV'⟩:=narrow_spec hn h1 hG k fuel (rem S x) t (by have:=cnt_le n S; show k < 1152921504606846976; omega) (cnt_rem hx hp hc) i1
   have more:¬ (lateN n A S x≤w∧wid n A k (rem S x)≤w)→∀i,i < x+1→S i=true→¬ (lateN n A S i≤w∧wid n A k (rem S i)≤w):=fun h i hi hS=>by
    rcases Nat.lt_succ_iff_lt_or_eq.1 hi with h2 | h2
    ·exact i2 i h2 hS
    ·rw [h2]; exact h
   by_cases l1:lateN n A S x≤w
   ·have d1:decide ((lateN n A S x:Int)≤(w:Int))=true:=by simpa using l1
    by_cases l2:wid n A k (rem S x)≤w
    ·right
     have d2:decide ((wid n A k (rem S x):Int)≤(w:Int))=true:=by simpa using l2
     have hlen:(nI o++([(x:Int)]:List Int)).length*8≤140737488355328:=by rw [List.length_append,nI_len]; simp; omega
     refine ⟨_,?_,.inl ⟨x,m',rfl,hV',hx,hp,l1,l2,i2⟩⟩
     unfold g_order_Best_b4
     dsimp only
     rw [if_pos c1,c2,Option.bind_some,gl_len,gone_msk hn,hl,Option.bind_some,if_pos d1,if_pos (nat_ge x),hd,r31,e,Option.bind_some,if_pos d2,if_pos hlen,if_pos (nat_ge x),nI_snoc]
    ·left
     have d2:¬ decide ((wid n A k (rem S x):Int)≤(w:Int))=true:=by simpa using l2
     refine ⟨m',?_,hV',more fun h=>l2 h.2⟩
     unfold g_order_Best_b4
     dsimp only
     rw [if_pos c1,c2,Option.bind_some,gl_len,gone_msk hn,hl,Option.bind_some,if_pos d1,if_pos (nat_ge x),hd,r31,e,Option.bind_some,if_neg d2,c3]
   ·left
    have d1:¬ decide ((lateN n A S x:Int)≤(w:Int))=true:=by simpa using l1
    refine ⟨t,?_,i1,more fun h=>l1 h.1⟩
    unfold g_order_Best_b4
    dsimp only
    rw [if_pos c1,c2,Option.bind_some,gl_len,gone_msk hn,hl,Option.bind_some,if_neg d1,c3])
  (fun x t hx hp hI=>⟨hI.1,fun i hi hS=>by
   rcases Nat.lt_succ_iff_lt_or_eq.1 hi with h2 | h2
   ·exact hI.2 i h2 hS
   ·subst h2; rw [hp] at hS; cases hS⟩)
  (fun t hI=>⟨_,by unfold g_order_Best_b4; dsimp only; rw [if_neg (by simp)],.inr ⟨t,rfl,hI.2⟩⟩)
  m ⟨hV,fun i hi=>by omega⟩
 rcases e2 with ⟨v,m',rfl,h⟩ | ⟨m',rfl,h⟩
 ·exact .inl ⟨v,m',e1,h⟩
 ·exact .inr ⟨m',e1,h⟩
theorem bord_step {n:Nat} {A:Gr} {w k v:Nat} {S:Nat → Bool} (hv:v < n) (hS:S v=true) (h1:lateN n A S v≤w) (h2:wid n A k (rem S v)≤w) (h3:∀i,i < v→S i=true→¬ (lateN n A S i≤w∧wid n A k (rem S i)≤w)) :
  bord n A w (k+1) S=v::bord n A w k (rem S v):=by
 simp only [bord]
 rcases find_range (n:=n) (p:=fun v=>S v && decide (lateN n A S v≤w) && decide (wid n A k (rem S v)≤w)) with ⟨_,h⟩ | ⟨u,e,u1,u2,u3⟩
 ·have:=h v hv
  simp [hS,h1,h2] at this
 ·rw [e]
  have huv:u=v:=by
   rcases Nat.lt_trichotomy u v with c | c | c
   ·simp only [Bool.and_eq_true,decide_eq_true_eq] at u2
    exact absurd ⟨u2.1.2,u2.2⟩ (h3 u c u2.1.1)
   ·exact c
   ·have:=u3 v c
    simp [hS,h1,h2] at this
  rw [huv]
theorem places {n:Nat} {A:Gr} (hn:n≤10) (h1:1≤n) (hG:Good n A) {w:Nat} (hw:w < n) {mx:List (Int × Int)}:∀(k N:Nat) (S:Nat → Bool) (o:List Nat) (m:List (Int × Int)),k < N→cnt n S=k→Vm n A m→o.length+k≤100→wid n A k S≤w →
  whileN N (g_order_Best_b5 (gl n A) ((w:Int),mx)) (((msk n S:Nat):Int),nI o,m)=some (nI (o++bord n A w k S))
 | 0,N,S,o,m,hN,hc,hV,hl,hwid=>by
  obtain ⟨N,rfl⟩:∃M,N=M+1:=⟨N - 1,by omega⟩
  rw [msk_zero hc]
  simp [whileN,g_order_Best_b5,bord]
 | k+1,N,S,o,m,hN,hc,hV,hl,hwid=>by
  obtain ⟨N,rfl⟩:∃M,N=M+1:=⟨N - 1,by omega⟩
  rcases place hn h1 hG (w:=w) (mx:=mx) hc hV (o:=o) (by omega) with ⟨v,m',e,hV',hv,hS,l1,l2,l3⟩ | ⟨m',_,hno⟩
  ·have hb:g_order_Best_b5 (gl n A) ((w:Int),mx) (((msk n S:Nat):Int),nI o,m)=some (.next (((msk n (rem S v):Nat):Int),nI (o++[v]),m')):=by
    unfold g_order_Best_b5
    dsimp only
    rw [if_pos (msk_ne hc),e,Option.bind_some]
   simp only [whileN,hb]
   rw [places hn h1 hG hw k N (rem S v) (o++[v]) m' (by omega) (cnt_rem hv hS hc) hV' (by simp; omega) l2,bord_step hv hS l1 l2 l3]
   simp
  ·obtain ⟨v,a,b,c,d⟩:=(wid_le hw).1 hwid
   exact absurd ⟨c,d⟩ (hno v a b)
theorem Best_spec {n:Nat} {A:Gr} (h1:1≤n) (hn:n≤10) (hG:Good n A):g_order_Best (gl n A)=some (nI (bord n A (wid n A n fun _=>true) n fun _=>true),(wid n A n (fun _=>true):Int),0):=by
 unfold g_order_Best
 rw [check_gl h1 hn hG,Option.bind_some,if_neg (by decide),gl_len,if_pos (nat_ge n),u_all hn]
 obtain ⟨m',e,hV⟩:=narrow_spec hn h1 hG n fuel (fun _=>true) _ (by show n < 1152921504606846976; omega) (cnt_all n) (vm_start n A)
 rw [e,Option.bind_some]
 have h:=places hn h1 hG (w:=wid n A n fun _=>true) (wid_lt hG h1 n _ (cnt_all n)) (mx:=m') n fuel (fun _=>true) [] m' (by show n < 1152921504606846976; omega) (cnt_all n) hV (by simp; omega) (Nat.le_refl _)
 rw [show nI []=[] from rfl] at h
 rw [h]; rfl
theorem gl_egr {n:Nat} {A:Gr} (hG:Good n A):gl n A=gl n (Egr A fun _=>true):=gl_congr fun u w _ _=>(Egr_all hG u w).symm
theorem gl_egr_elim {n:Nat} {A:Gr} {S:Nat → Bool} {v:Nat} (hG:Good n A) (hv:S v=true):gl n (elim (Egr A S) v)=gl n (Egr A (rem S v)):=gl_congr fun u w _ _=>Egr_elim hG hv u w
theorem find_spec {n:Nat} {A:Gr} {w:Nat} (hn:n≤10) (hG:Good n A) (hw:w < n):∀(k N:Nat) (S:Nat → Bool),k < N→cnt n S=k →
  recN g_ref08_find_F N (gl n (Egr A S),((msk n fun i=>!S i:Nat):Int),(k:Int),(w:Int))=some (if wid n A k S≤w then (nI (bord n A w k S),true) else ([],false))
 | k,0,S,hN,_=>by omega
 | 0,N+1,S,hN,hc=>by
  show g_ref08_find_F _ _=_
  unfold g_ref08_find_F
  simp [wid,bord,nI]
 | k+1,N+1,S,hN,hc=>by
  show g_ref08_find_F (recN g_ref08_find_F N) _=_
  have ih:∀(S:Nat → Bool),cnt n S=k→recN g_ref08_find_F N (gl n (Egr A S),((msk n fun i=>!S i:Nat):Int),(k:Int),(w:Int))=some (if wid n A k S≤w then (nI (bord n A w k S),true) else ([],false)):=fun S hc=>find_spec hn hG hw k N S (by omega) hc
  generalize recN g_ref08_find_F N=d at ih
  unfold g_ref08_find_F
  dsimp only
  have hk0:¬ ((((k+1:Nat):Int)==0)=true):=by simp; omega
  rw [if_neg hk0]
  have hk10:k+1≤n:=by have:=cnt_le n S; omega
  have blen:(bord n A w k S).length≤100→True:=fun _=>trivial
  have bl:∀(k:Nat) (S:Nat → Bool),(bord n A w k S).length≤k:=fun k=>by
   induction k with
   | zero=>intro S; simp [bord]
   | succ k ih =>
    intro S
    simp only [bord]
    split
    ·simp
    ·rename_i v _
     rw [List.length_cons]; have:=ih (rem S v); omega
  obtain ⟨r,e1,e2⟩:=rng_loop (n:=n) (k0:=0) (by omega) (by omega) (fun i (_:Unit)=>i) (body:=g_ref08_find_b0 (gl n (Egr A S)) ((msk n fun i=>!S i:Nat):Int) (w:Int) d ((k+1:Nat):Int)) (fun j _=>∀i,i < j→S i=true→¬ (lateN n A S i≤w∧wid n A k (rem S i)≤w))
   (fun r=>(∃v,r=Sum.inl (nI (v::bord n A w k (rem S v)))∧v < n∧S v=true∧lateN n A S v≤w∧wid n A k (rem S v)≤w∧∀i,i < v→S i=true→¬ (lateN n A S i≤w∧wid n A k (rem S i)≤w))∨(∃u,r=Sum.inr u∧∀i,i < n→S i=true→¬ (lateN n A S i≤w∧wid n A k (rem S i)≤w)))
   (fun j t _ hj hI=>by
    have more:¬ (S j=true∧lateN n A S j≤w∧wid n A k (rem S j)≤w)→∀i,i < j+1→S i=true→¬ (lateN n A S i≤w∧wid n A k (rem S i)≤w):=fun h i hi hS hh=>by
     rcases Nat.lt_succ_iff_lt_or_eq.1 hi with h2 | h2
     ·exact hI i h2 hS hh
     ·subst h2; exact h ⟨hS,hh.1,hh.2⟩
    have hdeg:g_ref08_Degree (gl n (Egr A S)) (j:Int)=some (lateN n A S j:Int):=refDegree hn hj
    cases hS:S j with
    | false =>
     left
     refine ⟨(),?_,more (by rw [hS]; simp)⟩
     unfold g_ref08_find_b0
     rw [gl_len,if_pos (dlt hj),in_gl hn hj,Option.bind_some,hS]
     rfl
    | true =>
     by_cases l1:lateN n A S j≤w
     ·have ev:((msk n fun i=>!(S i && !decide (j=i)):Nat):Int)=((msk n fun i=>!rem S j i:Nat):Int):=rfl
      have hrec:=ih (rem S j) (cnt_rem hj hS hc)
      have d1:¬ decide ((lateN n A S j:Int) > (w:Int))=true:=by simp; omega
      have base:g_ref08_find_b0 (gl n (Egr A S)) ((msk n fun i=>!S i:Nat):Int) (w:Int) d ((k+1:Nat):Int) (j:Int)=(d (gl n (Egr A (rem S j)),((msk n fun i=>!rem S j i:Nat):Int),(k:Int),(w:Int))).bind fun x16=>if x16.2=true then if (([(j:Int)]:(List Int))++x16.1).length*8≤140737488355328 then some (.done (Sum.inl (([(j:Int)]:(List Int))++x16.1))) else none else some (.next (IntKind.i64.wrap ((j:Int)+1))):=by
       have e1:((k+1:Nat):Int) - 1=(k:Int):=by omega
       unfold g_ref08_find_b0
       rw [gl_len,if_pos (dlt hj),in_gl hn hj,Option.bind_some,hS,if_neg (by decide),hdeg,Option.bind_some,if_neg d1,refEliminate hn (Egr_good hG) hj,Option.bind_some,gl_egr_elim hG hS,msk_add hn hj,u64_nat (show j < 18446744073709551616 by omega),if_pos (nat_ge j),e1,w64 (by omega),ev]
      rw [base,hrec,Option.bind_some]
      by_cases l2:wid n A k (rem S j)≤w
      ·right
       rw [if_pos l2,if_pos rfl]
       have:=bl k (rem S j)
       refine ⟨_,by rw [if_pos (by rw [List.length_append,nI_len]; simp; omega)],.inl ⟨j,by simp [nI],hj,hS,l1,l2,hI⟩⟩
      ·left
       rw [if_neg l2]
       exact ⟨(),by rw [if_neg (by decide)],more fun h=>l2 h.2.2⟩
     ·left
      have d1:decide ((lateN n A S j:Int) > (w:Int))=true:=by simp; omega
      refine ⟨(),?_,more fun h=>l1 h.2.1⟩
      unfold g_ref08_find_b0
      rw [gl_len,if_pos (dlt hj),in_gl hn hj,Option.bind_some,hS,if_neg (by decide),hdeg,Option.bind_some,if_pos d1])
   (fun t hI=>⟨_,by unfold g_ref08_find_b0; rw [gl_len,if_neg (nlt n)],.inr ⟨(),rfl,hI⟩⟩) () (fun i hi=>by omega)
  rw [show ((0:Nat):Int)=0 from rfl] at e1
  rw [e1,Option.bind_some]
  rcases e2 with ⟨v,rfl,hv,hS,l1,l2,l3⟩ | ⟨u,rfl,h⟩
  ·rw [if_pos ((wid_le hw).2 ⟨v,hv,hS,l1,l2⟩),bord_step hv hS l1 l2 l3]
  ·rw [if_neg fun hh=>by
    obtain ⟨v,a,b,c,e⟩:=(wid_le hw).1 hh
    exact h v a b ⟨c,e⟩]
theorem refBest {n:Nat} {A:Gr} (h1:1≤n) (hn:n≤10) (hG:Good n A):g_ref08_Best (gl n A)=some (nI (bord n A (wid n A n fun _=>true) n fun _=>true),(wid n A n (fun _=>true):Int)):=by
 have hlt:=wid_lt hG h1 n _ (cnt_all n)
 have hf:∀w,w < n→g_ref08_find (gl n A) 0 (n:Int) (w:Int)=some (if wid n A n (fun _=>true)≤w then (nI (bord n A w n fun _=>true),true) else ([],false)):=fun w hw=>by
  have h:=find_spec hn hG hw n fuel (fun _=>true) (by show n < 1152921504606846976; omega) (cnt_all n)
  rw [←gl_egr hG,msk_none] at h
  exact h
 unfold g_ref08_Best
 obtain ⟨r,e1,e2⟩:=rng_loop (n:=n) (k0:=0) (by omega) (by omega) (fun i (_:Unit)=>i) (body:=g_ref08_Best_b0 (gl n A)) (fun j _=>j≤wid n A n fun _=>true) (fun r=>r=Sum.inl ((wid n A n (fun _=>true):Int),nI (bord n A (wid n A n fun _=>true) n fun _=>true)))
  (fun j t _ hj hI=>by
   have base:g_ref08_Best_b0 (gl n A) (j:Int)=if wid n A n (fun _=>true)≤j then some (.done (Sum.inl ((j:Int),nI (bord n A j n fun _=>true)))) else some (.next (IntKind.i64.wrap ((j:Int)+1))):=by
    unfold g_ref08_Best_b0
    rw [gl_len,if_pos (dlt hj),hf j hj,Option.bind_some]
    by_cases c:wid n A n (fun _=>true)≤j
    ·rw [if_pos c,if_pos c,if_pos rfl]
    ·rw [if_neg c,if_neg c,if_neg (by decide)]
   rw [base]
   by_cases c:wid n A n (fun _=>true)≤j
   ·right
    have:j=wid n A n fun _=>true:=by omega
    exact ⟨_,by rw [if_pos c],by rw [←this]⟩
   ·left
    exact ⟨(),by rw [if_neg c],by omega⟩)
  (fun t hI=>by omega) () (by omega)
 rw [show ((0:Nat):Int)=0 from rfl] at e1
 rw [e1,e2]; rfl
end Go.Ab
namespace Go.Ab
open Go
set_option maxRecDepth 100000
set_option maxHeartbeats 400000
theorem Best_err {g:List Int} (h:g_order_Check g=some 80):g_order_Best g=some ([],0,80):=by unfold g_order_Best; rw [h,Option.bind_some,if_pos (by decide)]
theorem bord_len {n:Nat} {A:Gr} {w:Nat}:∀(k:Nat) (S:Nat → Bool),(bord n A w k S).length≤k
 | 0,S=>by simp [bord]
 | k+1,S=>by
  simp only [bord]
  split
  ·simp
  ·rename_i v _
   have:=bord_len (n:=n) (A:=A) (w:=w) k (rem S v)
   rw [List.length_cons]; omega
theorem bests_true (p0:List Int) (p1:Tharuspexref08_Draft) (h0:p0.length≤maxLen∧∀y0∈p0,(Lit.int .u64 y0).wf=true) (h1:okTharuspexref08_Draft p1) :
  g_law08_OrderBests p0 p1=some true:=by
 obtain ⟨x,y,A,e1,hx,hy,hxl,hyl,hG,_⟩:=graphs_spec (raw:=p0) (d:=p1) (fun v hv=>by have:=wf_u64 (h0.2 v hv); omega) h1
 obtain ⟨_,d1,d7⟩:=dN_eq h1
 unfold g_law08_OrderBests
 rw [works_true,Option.bind_some,if_neg (by decide),e1,Option.bind_some]
 have hgs:=three_graphs (n:=dN p1) (A:=A) (by omega) hx hy hxl hyl
 obtain ⟨r,e2,u,rfl⟩:=rng_loop (n:=3) (k0:=0) (by omega) (by omega) (fun i (_:Unit)=>i) (body:=g_law08_OrderBests_b0 (x,y,gl (dN p1) A)) (fun _ _=>True) (fun r=>∃u,r=Sum.inr u)
  (fun k t _ h2 _=>.inl ⟨(),by
   obtain ⟨a,ek,ha,hl⟩:=hgs k h2
   unfold g_law08_OrderBests_b0
   dsimp only
   rw [if_pos (by simp; omega),ek,Option.bind_some]
   rcases right_spec ha with ⟨r1,r2⟩ | ⟨r1,r2⟩
   ·obtain ⟨B,hB,eB⟩:=okG_gl r2
    rw [eB] at r1 ⊢
    have b1:=r2.1
    have b2:=r2.2.1
    have hbl:=bord_len (n:=a.length) (A:=B) (w:=wid a.length B a.length fun _=>true) a.length (fun _=>true)
    simp only [Best_spec b1 b2 hB,r1,Option.bind_some,refBest b1 b2 hB,same_self (nI (bord a.length B (wid a.length B a.length fun _=>true) a.length fun _=>true)) (by rw [nI_len]; omega)]
    simp
   ·rcases check_spec ha with ⟨_,c2⟩ | ⟨c1,_⟩
    ·exact absurd c2 r2
    ·simp only [Best_err c1,r1,Option.bind_some]
     rfl,trivial⟩)
  (fun t _=>⟨_,by unfold g_law08_OrderBests_b0; rw [if_neg (by decide)],(),rfl⟩) () trivial
 rw [show ((0:Nat):Int)=0 from rfl] at e2
 rw [e2]; rfl
#print axioms bests_true
end Go.Ab
namespace Go.Ab
open Go Go.Proofs Go.Proofs.YtjhfdojgaoapcaaDoor
open Go.ChangeShapes Go.WideShapes Go.ChangeAt Go.RowKit
abbrev dr_laid:List (String × DataW Unit):=[("math/bits.deBruijn32tab",Rows.laid_math_bits_deBruijn32tab),("math/bits.deBruijn64tab",Rows.laid_math_bits_deBruijn64tab)]
theorem dr_own:ownKnob Tryd.prog.godebug=none:=by kernel_rfl
theorem dr_g0:Tryd.prog.globalNamed "math/bits.deBruijn32tab" = some 0:=by kernel_rfl
theorem dr_g1:Tryd.prog.globalNamed "math/bits.deBruijn64tab" = some 1:=by kernel_rfl
theorem dr_met (os:Os) (args:Array Value):laidMetH Tryd.prog dr_laid ((World.doorLaid Tryd.prog 19 os).forCall (fun _ _=>0) ⟨#[],args,[]⟩).memory :=
 laidMetH_of_parts3 (fuel:=8) (laidMet_of_run' 8 (by kernel_rfl) (by kernel_rfl)) (by kernel_rfl) (by kernel_rfl)
theorem dr_glob {W:World} (h:laidMetH Tryd.prog dr_laid W):Go.Ab.GlobIn W:=by
 rw [MakeChecks.laidMetH_plain _ _ _ (by kernel_rfl)] at h
 have h0:=Lib.tabIs_of_head (k:=.u8) (zs:=Go.Ab.tab0) (t:=135) (e:=5) (n:=32) dr_g0 (by kernel_rfl) (by kernel_rfl) (by kernel_rfl) (by kernel_rfl) (by kernel_rfl) h
 have h1:=Lib.tabIs_of_head (k:=.u8) (zs:=Go.Ab.tab1) (t:=136) (e:=5) (n:=64) dr_g1 (by kernel_rfl) (by kernel_rfl) (by kernel_rfl) (by kernel_rfl) (by kernel_rfl) h.tail
 intro g xs hg i v hv
 match g,hg with
 | 0,hg =>
  cases hg
  have hi:i < Go.Ab.tab0.length:=by have:=(List.getElem?_eq_some_iff.1 hv).1; simpa using this
  have:=h0.cell dr_g0 i hi
  rw [this]
  rw [List.getElem?_map] at hv
  simpa [List.getD,hi] using hv
 | 1,hg =>
  cases hg
  have hi:i < Go.Ab.tab1.length:=by have:=(List.getElem?_eq_some_iff.1 hv).1; simpa using this
  have:=h1.cell dr_g1 i hi
  rw [this]
  rw [List.getElem?_map] at hv
  simpa [List.getD,hi] using hv
 | n+2,hg=>cases hg
end Go.Ab
