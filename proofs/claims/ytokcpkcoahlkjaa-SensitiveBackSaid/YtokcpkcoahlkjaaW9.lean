/- What functions compute. No conditions. -/
import Derived.Test.YtokcpkcoahlkjaaProg
import Derived.Test.YtokcpkcoahlkjaaW8
import Derived.KernelRfl
set_option linter.all false
namespace Go.Ab
open Go Go.Proofs
set_option maxRecDepth 100000
set_option maxHeartbeats 4000000
theorem g_net_CheckEvidence_ok (p0:Tapi_Net) (p1:(List Int)) (x:Int) (h:g_net_CheckEvidence p0 p1=some x):CallOk Try.prog 71 [.agg [vI p0.Grain,eL false eTapi_Node p0.Nodes],z1 p1] (.ret (vI x) []):=by
 refine fn_ok [] Try.func71 rfl (by decide +kernel) rfl ?_
 unfold g_net_CheckEvidence at h
 refine wp_eqB (base':=0) (st':=⟨[(0,.agg [vI p0.Grain,eL false eTapi_Node p0.Nodes]),(1,z1 p1)],[],43⟩) kr kr ?_
 refine wp_seq (reg_in ?_)
 refine sgL false [] [] false gE ?_
 refine sz 1 2 (reg_end rfl (wp_seq (reg_in (sz 1 1 ?_))))
 refine callW bodyB_96 (g_net_read_ok p0) h (fun x1 _ h=>?_)
 refine sz 3 5 ?_
 refine sgL false [] [] false gE ?_
 refine sz 2 8 (reg_end rfl (wp_seq (wp_seq (wg [1,5,6] [1] (rn ?_)))))
 refine wb [15] h (fun q4 h=>?_) (fun q4 h=>?_)
 ·refine wcT (sq ?_)
  refine wgc [4] [] ⟨[(4,vI x1.2)],[],43⟩ ?_
  cases h
  exact wp_ret (show fnOut _ _ _ _=_ from by kernel_rfl)
 refine wcF (wp_skip (wp_seq (wp_seq (reg_in (sz 1 1 ?_)))))
 refine lenL (enc:=eI) (l:=p1) (fl:=true) kr gE ?_
 refine sz 3 5 ?_
 refine lenL (enc:=eTapi_Node) (l:=x1.1.Net.Nodes) (fl:=false) kr gE ?_
 refine sz 1 7 (reg_end rfl ?_)
 refine wbz h (fun q6 h=>?_) (fun q6 h=>?_)
 ·refine wp_seq ?_
  refine wgc [] [] ⟨[],[],43⟩ ?_
  refine rn (wg [4] [] ?_)
  cases h
  exact wp_ret (show fnOut _ _ _ _=_ from by kernel_rfl)
 refine wp_skip (wp_seq (wp_seq ?_))
 refine wgc [1,5] [0] ⟨[(1,z1 p1),(5,.ptr 0 0 0)],[oX true false 5 (.agg [vI x1.1.Net.Grain,eL false eTapi_Node x1.1.Net.Nodes,z1 x1.1.cards,eL true (AV.int .u64) x1.1.sets,z1 x1.1.order])],43⟩ ?_
 refine reg_in (sz 1 1 ?_)
 refine lenL (enc:=eI) (l:=p1) (fl:=true) kr gE ?_
 refine sz 1 3 (reg_end rfl (wp_block ?_))
 refine wwh h (fun s7=>⟨[(5,.ptr 0 0 0),(24,z1 p1),(25,vI (zn p1)),(26,vI s7)],[oX true false 5 (.agg [vI x1.1.Net.Grain,eL false eTapi_Node x1.1.Net.Nodes,z1 x1.1.cards,eL true (AV.int .u64) x1.1.sets,z1 x1.1.order])],43⟩) (fun x out=>out=match x with | .inl v=>.go (.ret) ⟨[(4,vI 2)],[],43⟩ | .inr v=>.go (.exit 0) ⟨[],[],43⟩) (wk_gc (live:=[5,24,25,26]) (keep:=[0]) kr) ?_ ?_
 ·intro s7 o h
  unfold g_net_CheckEvidence_b0 at h
  refine sq (wp_seq ?_)
  refine wb [27] h (fun q9 h=>?_) (fun q9 h=>?_)
  ·refine wcT (wp_skip (wp_seq (wp_block (wp_seq (reg_in (sz 1 1 ?_))))))
   refine bind_elim h (fun a10 q11 h=>?_)
   refine idxL' (enc:=eI) (l:=p1) (n:=s7) (fl:=true) (w:=1) (a:=a10) kr rfl gE q11 ?_
   refine sz 3 5 (reg_end rfl (wp_seq (reg_in (sz 3 3 ?_))))
   refine rw_wk (wk_gc (live:=[5,24,25,26,7,8,33]) (keep:=[0]) (st':=⟨[(5,.ptr 0 0 0),(24,z1 p1),(25,vI (zn p1)),(26,vI s7),(7,vI s7),(8,vI a10),(33,vB (decide (a10 < (-1))))],[oX true false 5 (.agg [vI x1.1.Net.Grain,eL false eTapi_Node x1.1.Net.Nodes,z1 x1.1.cards,eL true (AV.int .u64) x1.1.sets,z1 x1.1.order])],43⟩) kr) ?_
   refine rb [33] h (fun q13 h=>?_) (fun q13 h=>?_)
   ·refine sz 8 11 (reg_end rfl (wcT (wp_seq (wg [] [] (rn (wg [4] [] ?_))))))
    refine wp_ret ?_
    cases h
    exact ⟨kr,rfl⟩
   refine sz 4 7 ?_
   refine bind_elim h (fun a14 q15 h=>?_)
   refine idxL' (enc:=eI) (l:=x1.1.cards) (n:=s7) (fl:=true) (w:=1) (a:=a14) kr rfl gE q15 ?_
   refine sz 3 11 (reg_end rfl ?_)
   refine wbz h (fun q17 h=>?_) (fun q17 h=>?_)
   ·refine wp_seq (wg [] [] (rn (wg [4] [] ?_)))
    refine wp_ret ?_
    cases h
    exact ⟨kr,rfl⟩
   refine wp_skip (wg [5,24,25,26] [0] (rn ?_))
   cases h
   exact ⟨_,rfl,(wk_gc (live:=[5,24,25,26]) (keep:=[0]) kr)⟩
  refine wcF (wg [] [] ?_)
  refine wp_exit ?_
  cases h
  exact ⟨kr,rfl⟩
 intro x18 h out hx
 subst hx
 rcases x18 with x19 | x20
 ·dsimp only at h ⊢
  cases h
  show fnOut _ _ _ _=_
  kernel_rfl
 ·dsimp only at h ⊢
  refine sq (wg [4] [] ?_)
  cases h
  exact wp_ret (show fnOut _ _ _ _=_ from by kernel_rfl)
noncomputable abbrev s35_2 (p0:Tapi_Net) (p3:Tapi_Shift):List AObj:=[oX true false 2 (.agg [vI p0.Grain,eL false eTapi_Node p0.Nodes]),oX true true 4 (.agg [vI p3.Node,vI p3.Row,vI p3.From,vI p3.To])]
noncomputable abbrev s35_14 (p3:Tapi_Shift) (a31:Tapi_Node):List AObj:=[oX true true 4 (.agg [vI p3.Node,vI p3.Row,vI p3.From,vI p3.To]),oX true false 3 (.agg [vI a31.Card,z1 a31.Parents,z2 a31.Rows])]
theorem g_sensitive_check_ok (p0:Tapi_Net) (p1:(List Int)) (p2:Int) (p3:Tapi_Shift) (p4:(List Int)) (x:Int) (h:g_sensitive_check p0 p1 p2 p3 p4=some x):CallOk Try.prog 35 [.agg [vI p0.Grain,eL false eTapi_Node p0.Nodes],z1 p1,vI p2,.agg [vI p3.Node,vI p3.Row,vI p3.From,vI p3.To],z1 p4] (.ret (vI x) []):=by
 refine fn_ok [] Try.func35 rfl (by decide +kernel) rfl ?_
 unfold g_sensitive_check at h
 refine wp_eqB (base':=0) (st':=⟨[(0,.agg [vI p0.Grain,eL false eTapi_Node p0.Nodes]),(1,z1 p1),(2,vI p2),(3,.agg [vI p3.Node,vI p3.Row,vI p3.From,vI p3.To]),(4,z1 p4)],[],112⟩) kr kr ?_
 refine wp_seq (reg_in ?_)
 refine sgL false [] [] false gE ?_
 refine sz 2 3 (reg_end rfl (wp_seq (wp_seq (reg_in (sz 1 1 ?_)))))
 refine callW bodyB_70 (g_net_Check_ok p0) h (fun x1 _ h=>?_)
 refine sz 1 3 (reg_end rfl (wp_seq (wg [1,2,4,5,8,11] [0,1] (rn ?_))))
 refine wb [19] h (fun q4 h=>?_) (fun q4 h=>?_)
 ·refine wcT (wp_seq ?_)
  refine wgc [11] [] ⟨[(11,vI x1)],[],112⟩ ?_
  refine rn (wg [10] [] ?_)
  cases h
  exact wp_ret (show fnOut _ _ _ _=_ from by kernel_rfl)
 refine wcF (wp_skip (wp_seq (wp_seq (reg_in (sz 2 2 ?_)))))
 refine callW bodyB_71 (g_net_CheckEvidence_ok p0 p1) h (fun x5 _ h=>?_)
 refine sz 1 4 (reg_end rfl (wp_seq ?_))
 refine wgc [2,4,5,8,12] [0,1] ⟨[(2,vI p2),(4,z1 p4),(5,.ptr 0 0 0),(8,.ptr 1 0 0),(12,vI x5)],(s35_2 p0 p3),112⟩ ?_
 refine rn ?_
 refine wb [25] h (fun q8 h=>?_) (fun q8 h=>?_)
 ·refine wcT (wp_seq (wg [12] [] (rn (wg [10] [] ?_))))
  cases h
  exact wp_ret (show fnOut _ _ _ _=_ from by kernel_rfl)
 refine wcF (wp_skip (wp_seq (wp_seq (reg_in (sz 3 3 (rwg [2,4,5,8,29] [0,1] ?_))))))
 refine rb [29] h (fun q10 h=>?_) (fun q10 h=>?_)
 ·refine sz 6 9 (reg_end rfl (wcT (wp_seq ?_)))
  refine wgc [] [] ⟨[],[],112⟩ ?_
  refine rn (wg [10] [] ?_)
  cases h
  exact wp_ret (show fnOut _ _ _ _=_ from by kernel_rfl)
 refine sz 3 6 ?_
 refine lenL (enc:=eTapi_Node) (l:=p0.Nodes) (fl:=false) kr gE ?_
 refine sz 2 9 (reg_end rfl ?_)
 refine wbz h (fun q12 h=>?_) (fun q12 h=>?_)
 ·refine wp_seq ?_
  refine wgc [] [] ⟨[],[],112⟩ ?_
  refine rn (wg [10] [] ?_)
  cases h
  exact wp_ret (show fnOut _ _ _ _=_ from by kernel_rfl)
 refine wp_skip (wp_seq (wp_seq ?_))
 refine wgc [2,4,5,8] [0,1] ⟨[(2,vI p2),(4,z1 p4),(5,.ptr 0 0 0),(8,.ptr 1 0 0)],(s35_2 p0 p3),112⟩ ?_
 refine reg_in (sz 1 1 ?_)
 refine lenL (enc:=eI) (l:=p4) (fl:=true) kr gE ?_
 refine sz 1 3 (reg_end rfl (wp_block ?_))
 refine wwh h (fun s13=>⟨[(2,vI p2),(5,.ptr 0 0 0),(8,.ptr 1 0 0),(36,z1 p4),(37,vI (zn p4)),(38,vI s13)],(s35_2 p0 p3),112⟩) (fun x out=>out=match x with | .inl v=>.go (.ret) ⟨[(10,vI 2)],[],112⟩ | .inr v=>.go (.exit 0) ⟨[(5,.ptr 0 0 0),(8,.ptr 1 0 0)],(s35_2 p0 p3),112⟩) (wk_gc (live:=[2,5,8,36,37,38]) (keep:=[0,1]) kr) ?_ ?_
 ·intro s13 o h
  unfold g_sensitive_check_b0 at h
  refine sq (wp_seq ?_)
  refine wb [39] h (fun q15 h=>?_) (fun q15 h=>?_)
  ·refine wcT (wp_skip (wp_seq (wp_block (wp_seq (reg_in ?_)))))
   refine bind_elim h (fun a16 q17 h=>?_)
   refine idxL' (enc:=eI) (l:=p4) (n:=s13) (fl:=true) (w:=1) (a:=a16) kr rfl gE q17 ?_
   refine sz 2 3 (reg_end rfl (wp_seq (reg_in (sz 3 3 ?_))))
   refine rw_wk (wk_gc (live:=[2,5,8,36,37,38,14,44]) (keep:=[0,1]) (st':=⟨[(2,vI p2),(5,.ptr 0 0 0),(8,.ptr 1 0 0),(36,z1 p4),(37,vI (zn p4)),(38,vI s13),(14,vI a16),(44,vB (decide (a16 < 0)))],(s35_2 p0 p3),112⟩) kr) ?_
   refine rb [44] h (fun q19 h=>?_) (fun q19 h=>?_)
   ·refine sz 9 12 (reg_end rfl (wcT (wp_seq (wg [] [] (rn (wg [10] [] ?_))))))
    refine wp_ret ?_
    cases h
    exact ⟨kr,rfl⟩
   refine sz 4 7 ?_
   refine bind_elim h (fun a20 q21 h=>?_)
   refine idxL' (enc:=eTapi_Node) (l:=p0.Nodes) (n:=p2) (fl:=false) (w:=3) (a:=a20) kr rfl gE q21 ?_
   refine sz 4 12 (reg_end rfl ?_)
   refine wbz h (fun q23 h=>?_) (fun q23 h=>?_)
   ·refine wp_seq (wg [] [] (rn ?_))
    refine wgc [10] [] ⟨[(10,vI 2)],[],112⟩ ?_
    refine wp_ret ?_
    cases h
    exact ⟨kr,rfl⟩
   refine wp_skip (wg [2,5,8,36,37,38] [0,1] (rn ?_))
   cases h
   exact ⟨_,rfl,(wk_gc (live:=[2,5,8,36,37,38]) (keep:=[0,1]) kr)⟩
  refine wcF (wg [5,8] [0,1] ?_)
  refine wp_exit ?_
  cases h
  exact ⟨kr,rfl⟩
 intro x24 h out hx
 subst hx
 rcases x24 with x25 | x26
 ·dsimp only at h ⊢
  cases h
  show fnOut _ _ _ _=_
  kernel_rfl
 ·dsimp only at h ⊢
  refine wp_seq (wp_seq (reg_in (sz 4 4 ?_)))
  refine rb [57,58] h (fun q28 h=>?_) (fun q28 h=>?_)
  ·refine sz 7 11 (reg_end rfl (wcT (wp_seq (wg [] [] (rn ?_)))))
   refine wgc [10] [] ⟨[(10,vI 2)],[],112⟩ ?_
   cases h
   exact wp_ret (show fnOut _ _ _ _=_ from by kernel_rfl)
  refine sz 4 8 ?_
  refine lenL (enc:=eTapi_Node) (l:=p0.Nodes) (fl:=false) kr gE ?_
  refine sz 2 11 (reg_end rfl ?_)
  refine wbz h (fun q30 h=>?_) (fun q30 h=>?_)
  ·refine wp_seq (wg [] [] (rn ?_))
   refine wgc [10] [] ⟨[(10,vI 2)],[],112⟩ ?_
   cases h
   exact wp_ret (show fnOut _ _ _ _=_ from by kernel_rfl)
  refine wp_skip (wp_seq ?_)
  refine wgc [5,8] [0,1] ⟨[(5,.ptr 0 0 0),(8,.ptr 1 0 0)],(s35_2 p0 p3),112⟩ ?_
  refine reg_in (sz 4 4 ?_)
  refine bind_elim h (fun a31 q32 h=>?_)
  refine idxL' (enc:=eTapi_Node) (l:=p0.Nodes) (n:=p3.Node) (fl:=false) (w:=3) (a:=a31) kr rfl gE q32 ?_
  refine sz 1 6 ?_
  refine sgL false [] [] false gE ?_
  refine sz 1 8 (reg_end rfl (wp_seq (wp_seq (wg [8,15] [1,2] (reg_in (sz 4 4 ?_))))))
  refine rb [74,75] h (fun q34 h=>?_) (fun q34 h=>?_)
  ·refine sz 7 11 (reg_end rfl (wcT (wp_seq ?_)))
   refine wgc [] [] ⟨[],[],112⟩ ?_
   refine rn (wg [10] [] ?_)
   cases h
   exact wp_ret (show fnOut _ _ _ _=_ from by kernel_rfl)
  refine sz 4 8 ?_
  refine lenL (enc:=z1) (l:=a31.Rows) (fl:=false) kr gE ?_
  refine sz 2 11 (reg_end rfl ?_)
  refine wbz h (fun q36 h=>?_) (fun q36 h=>?_)
  ·refine wp_seq ?_
   refine wgc [] [] ⟨[],[],112⟩ ?_
   refine rn (wg [10] [] ?_)
   cases h
   exact wp_ret (show fnOut _ _ _ _=_ from by kernel_rfl)
  refine wp_skip (wp_seq (wp_seq ?_))
  refine wgc [8,15] [0,1] ⟨[(8,.ptr 0 0 0),(15,.ptr 1 0 0)],(s35_14 p3 a31),112⟩ ?_
  refine reg_in (sz 4 4 ?_)
  refine rb [85,86] h (fun q38 h=>?_) (fun q38 h=>?_)
  ·refine sz 25 29 (reg_end rfl (wcT (wp_seq ?_)))
   refine wgc [] [] ⟨[],[],112⟩ ?_
   refine rn (wg [10] [] ?_)
   cases h
   exact wp_ret (show fnOut _ _ _ _=_ from by kernel_rfl)
  refine sz 7 11 (rwg [8,15,93] [0,1] ?_)
  refine rb [93] h (fun q40 h=>?_) (fun q40 h=>?_)
  ·refine sz 18 29 (reg_end rfl (wcT (wp_seq ?_)))
   refine wgc [] [] ⟨[],[],112⟩ ?_
   refine rn (wg [10] [] ?_)
   cases h
   exact wp_ret (show fnOut _ _ _ _=_ from by kernel_rfl)
  refine sz 5 16 ?_
  refine rw_wk (wk_gc (live:=[8,15,98]) (keep:=[0,1]) (st':=⟨[(8,.ptr 0 0 0),(15,.ptr 1 0 0),(98,vB (decide (p3.To < 0)))],(s35_14 p3 a31),112⟩) kr) ?_
  refine rb [98] h (fun q42 h=>?_) (fun q42 h=>?_)
  ·refine sz 13 29 (reg_end rfl (wcT (wp_seq (wg [] [] (rn ?_)))))
   refine wgc [10] [] ⟨[(10,vI 2)],[],112⟩ ?_
   cases h
   exact wp_ret (show fnOut _ _ _ _=_ from by kernel_rfl)
  refine sz 7 23 (rwg [8,105] [0] ?_)
  refine rb [105] h (fun q44 h=>?_) (fun q44 h=>?_)
  ·refine sz 6 29 (reg_end rfl (wcT (wp_seq ?_)))
   refine wgc [] [] ⟨[],[],112⟩ ?_
   refine rn (wg [10] [] ?_)
   cases h
   exact wp_ret (show fnOut _ _ _ _=_ from by kernel_rfl)
  refine sz 6 29 (reg_end rfl ?_)
  refine wbz h (fun q46 h=>?_) (fun q46 h=>?_)
  ·refine wp_seq ?_
   refine wgc [] [] ⟨[],[],112⟩ ?_
   refine rn (wg [10] [] ?_)
   cases h
   exact wp_ret (show fnOut _ _ _ _=_ from by kernel_rfl)
  refine wp_skip (wp_seq ?_)
  refine wgc [] [] ⟨[],[],112⟩ ?_
  refine rn (wg [10] [] ?_)
  cases h
  exact wp_ret (show fnOut _ _ _ _=_ from by kernel_rfl)
noncomputable abbrev s74_2 (p0:Tapi_Net) (p2:Tapi_Shift):List AObj:=[oX true false 2 (.agg [vI p0.Grain,eL false eTapi_Node p0.Nodes]),oX true true 4 (.agg [vI p2.Node,vI p2.Row,vI p2.From,vI p2.To]),oX true true 2 (.agg [vI p2.Node,vI p2.Row])]
noncomputable abbrev s74_5 (p0:Tapi_Net) (p2:Tapi_Shift) (a4:Tapi_Node):List AObj:=[oX true false 2 (.agg [vI p0.Grain,eL false eTapi_Node p0.Nodes]),oX true true 4 (.agg [vI p2.Node,vI p2.Row,vI p2.From,vI p2.To]),oX true true 2 (.agg [vI p2.Node,vI p2.Row]),oX true false 3 (.agg [vI a4.Card,z1 a4.Parents,z2 a4.Rows])]
theorem g_sensitive_weigh_ok (p0:Tapi_Net) (p1:(List Int)) (p2:Tapi_Shift) (x:(Int × Int)) (h:g_sensitive_weigh p0 p1 p2=some x):CallOk Try.prog 74 [.agg [vI p0.Grain,eL false eTapi_Node p0.Nodes],z1 p1,.agg [vI p2.Node,vI p2.Row,vI p2.From,vI p2.To]] (.ret (.tup [vI x.1,vI x.2]) []):=by
 refine fn_ok [] Try.func74 rfl (by decide +kernel) rfl ?_
 unfold g_sensitive_weigh at h
 refine wp_eqB (base':=0) (st':=⟨[(0,.agg [vI p0.Grain,eL false eTapi_Node p0.Nodes]),(1,z1 p1),(2,.agg [vI p2.Node,vI p2.Row,vI p2.From,vI p2.To])],[],91⟩) kr kr ?_
 refine wp_seq (reg_in ?_)
 refine sgL false [] [] false gE ?_
 refine sz 3 4 (reg_end rfl (sq (wp_seq (wg [1,3,5,8] [0,1,2] (rn (wp_seq (wp_seq (reg_in (sz 2 2 ?_)))))))))
 refine lenL (enc:=eTapi_Node) (l:=p0.Nodes) (fl:=false) kr gE ?_
 refine sz 1 4 (reg_end rfl (wp_block ?_))
 refine wwh h (fun s1=>⟨[(1,z1 p1),(3,.ptr 0 0 0),(5,.ptr 1 0 0),(8,.ptr 2 0 0),(9,vI s1.1),(10,vI s1.2.1),(11,vI s1.2.2.1),(24,eL false eTapi_Node p0.Nodes),(25,vI (zn p0.Nodes)),(26,vI s1.2.2.2)],(s74_2 p0 p2),91⟩) (fun v out=>out=.go (.exit 0) ⟨[(9,vI v.1),(10,vI v.2.1),(11,vI v.2.2)],[],91⟩) (wk_gc (live:=[1,3,5,8,9,10,11,24,25,26]) (keep:=[0,1,2]) kr) ?_ ?_
 ·intro s1 o h
  unfold g_sensitive_weigh_b1 at h
  refine sq (wp_seq ?_)
  refine wb [27] h (fun q3 h=>?_) (fun q3 h=>?_)
  ·refine wcT (wp_skip (wp_seq (wp_block (wp_seq (reg_in (sz 1 1 ?_))))))
   refine bind_elim h (fun a4 q5 h=>?_)
   refine idxL' (enc:=eTapi_Node) (l:=p0.Nodes) (n:=s1.2.2.2) (fl:=false) (w:=3) (a:=a4) kr rfl gE q5 ?_
   refine sz 1 3 ?_
   refine sgL false [] [] false gE ?_
   refine sz 2 6 (reg_end rfl (sq (wp_seq (wp_seq (reg_in (sz 2 2 ?_))))))
   refine lenL (enc:=eI) (l:=a4.Parents) (fl:=true) kr gE ?_
   refine sz 1 4 (reg_end rfl (wp_block ?_))
   refine wwh h (fun s6=>⟨[(1,z1 p1),(3,.ptr 0 0 0),(5,.ptr 1 0 0),(8,.ptr 2 0 0),(9,vI s1.1),(10,vI s1.2.1),(11,vI s1.2.2.1),(12,vI s1.2.2.2),(13,.ptr 3 0 0),(14,vI s6.1),(24,eL false eTapi_Node p0.Nodes),(25,vI (zn p0.Nodes)),(26,vI s1.2.2.2),(32,z1 a4.Parents),(33,vI (zn a4.Parents)),(34,vI s6.2)],(s74_5 p0 p2 a4),91⟩) (fun v out=>out=.go (.exit 2) ⟨[(1,z1 p1),(3,.ptr 0 0 0),(5,.ptr 1 0 0),(8,.ptr 2 0 0),(9,vI s1.1),(10,vI s1.2.1),(11,vI s1.2.2.1),(12,vI s1.2.2.2),(13,.ptr 3 0 0),(14,vI v),(24,eL false eTapi_Node p0.Nodes),(25,vI (zn p0.Nodes)),(26,vI s1.2.2.2)],(s74_5 p0 p2 a4),91⟩) (wk_gc (live:=[1,3,5,8,9,10,11,12,13,14,24,25,26,32,33,34]) (keep:=[0,1,2,3]) kr) ?_ ?_
   ·intro s6 o h
    unfold g_sensitive_weigh_b0 at h
    refine sq (wp_seq ?_)
    refine wb [35] h (fun q8 h=>?_) (fun q8 h=>?_)
    ·refine wcT (wp_skip (wp_seq (wp_block (wp_seq (reg_in ?_)))))
     refine bind_elim h (fun a9 q10 h=>?_)
     refine idxL' (enc:=eI) (l:=a4.Parents) (n:=s6.2) (fl:=true) (w:=1) (a:=a9) kr rfl gE q10 ?_
     refine sz 2 3 (reg_end rfl (rga hfol (sy 4 4 ?_)))
     refine bind_elim h (fun a11 q12 h=>?_)
     refine idxL' (enc:=eTapi_Node) (l:=p0.Nodes) (n:=a9) (fl:=false) (w:=3) (a:=a11) kr rfl gE q12 ?_
     refine sy 5 10 ?_
     refine bind_elim h (fun a13 q14 h=>?_)
     refine idxL' (enc:=eI) (l:=p1) (n:=a9) (fl:=true) (w:=1) (a:=a13) kr rfl gE q14 ?_
     refine sy 3 14 (rgd ?_)
     refine wgc [1,3,5,8,9,10,11,12,13,14,24,25,26,32,33,34] [0,1,2,3] ⟨[(1,z1 p1),(3,.ptr 0 0 0),(5,.ptr 1 0 0),(8,.ptr 2 0 0),(9,vI s1.1),(10,vI s1.2.1),(11,vI s1.2.2.1),(12,vI s1.2.2.2),(13,.ptr 3 0 0),(14,vI (zw ((zw (s6.1*a11.Card))+a13))),(24,eL false eTapi_Node p0.Nodes),(25,vI (zn p0.Nodes)),(26,vI s1.2.2.2),(32,z1 a4.Parents),(33,vI (zn a4.Parents)),(34,vI s6.2)],(s74_5 p0 p2 a4),91⟩ ?_
     refine rn ?_
     cases h
     exact ⟨_,rfl,(wk_gc (live:=[1,3,5,8,9,10,11,12,13,14,24,25,26,32,33,34]) (keep:=[0,1,2,3]) kr)⟩
    refine wcF (wg [1,3,5,8,9,10,11,12,13,14,24,25,26] [0,1,2,3] ?_)
    refine wp_exit ?_
    cases h
    exact ⟨kr,rfl⟩
   intro x16 h out hx
   subst hx
   refine wp_seq (rga hfol (sy 3 3 ?_))
   refine bind_elim h (fun a17 q18 h=>?_)
   refine idxL' (enc:=z1) (l:=a4.Rows) (n:=x16) (fl:=false) (w:=1) (a:=a17) kr rfl gE q18 ?_
   refine sy 3 7 ?_
   refine bind_elim h (fun a19 q20 h=>?_)
   refine idxL' (enc:=eI) (l:=p1) (n:=s1.2.2.2) (fl:=true) (w:=1) (a:=a19) kr rfl gE q20 ?_
   refine sy 1 9 ?_
   refine bind_elim h (fun a21 q22 h=>?_)
   refine idxL' (enc:=eI) (l:=a17) (n:=a19) (fl:=true) (w:=1) (a:=a21) kr rfl gE q22 ?_
   refine sy 2 12 (rgd (wp_seq (wp_seq ?_)))
   refine wgc [1,3,5,8,9,10,11,12,14,24,25,26,17] [0,1,2] ⟨[(1,z1 p1),(3,.ptr 0 0 0),(5,.ptr 1 0 0),(8,.ptr 2 0 0),(9,vI s1.1),(10,vI s1.2.1),(11,vI s1.2.2.1),(12,vI s1.2.2.2),(14,vI x16),(24,eL false eTapi_Node p0.Nodes),(25,vI (zn p0.Nodes)),(26,vI s1.2.2.2),(17,vI a21)],(s74_2 p0 p2),91⟩ ?_
   refine rn ?_
   refine wbz h (fun q24 h=>?_) (fun q24 h=>?_)
   ·refine wp_seq (wg [1,3,5,8,9,10,11,24,25,26,17] [0,1,2] (rn (wg [1,3,5,8,9,10,11,24,25,26] [0,1,2] ?_)))
    refine wp_exit ?_
    refine rn ?_
    cases h
    exact ⟨_,rfl,(wk_gc (live:=[1,3,5,8,9,10,11,24,25,26]) (keep:=[0,1,2]) kr)⟩
   refine wp_skip (wp_seq (wg [1,3,5,8,9,11,12,24,25,26,17] [0,1,2] (rn (wp_seq (reg_in (sz 2 2 ?_))))))
   refine idxL' (enc:=eI) (l:=p1) (n:=s1.2.2.2) (fl:=true) (w:=1) (a:=a19) kr rfl gE q20 ?_
   refine sz 1 4 (reg_end rfl (wp_block (wp_seq ?_)))
   refine wgc [1,3,5,8,9,11,24,25,26,10,75] [0,1,2] ⟨[(1,z1 p1),(3,.ptr 0 0 0),(5,.ptr 1 0 0),(8,.ptr 2 0 0),(9,vI s1.1),(11,vI s1.2.2.1),(24,eL false eTapi_Node p0.Nodes),(25,vI (zn p0.Nodes)),(26,vI s1.2.2.2),(10,vI a21),(75,vI a19)],(s74_2 p0 p2),91⟩ ?_
   refine rn ?_
   refine wb [79,76] h (fun q26 h=>?_) (fun q26 h=>?_)
   ·refine wcT (wg [1,3,5,8,9,24,25,26,10] [0,1,2] (rn (rn ?_)))
    cases h
    exact ⟨_,rfl,(wk_gc (live:=[1,3,5,8,9,10,11,24,25,26]) (keep:=[0,1,2]) kr)⟩
   refine wcF (sq ?_)
   refine wbz h (fun q28 h=>?_) (fun q28 h=>?_)
   ·refine wg [1,3,5,8,9,24,25,26,10] [0,1,2] (rn (rn ?_))
    cases h
    exact ⟨_,rfl,(wk_gc (live:=[1,3,5,8,9,10,11,24,25,26]) (keep:=[0,1,2]) kr)⟩
   refine wp_skip (wg [1,3,5,8,9,11,24,25,26,10] [0,1,2] (rn ?_))
   cases h
   exact ⟨_,rfl,(wk_gc (live:=[1,3,5,8,9,10,11,24,25,26]) (keep:=[0,1,2]) kr)⟩
  refine wcF (wg [9,10,11] [] ?_)
  refine wp_exit ?_
  cases h
  exact ⟨kr,rfl⟩
 intro x30 h out hx
 subst hx
 refine sq (wg [6,7] [] ?_)
 cases h
 exact wp_ret (show fnOut _ _ _ _=_ from by kernel_rfl)
noncomputable abbrev s36_10 (p0:Tapi_Net) (p2:Int) (p3:Tapi_Shift) (a1:Tapi_Node) (p1:(List Int)):List AObj:=[oX true false 2 (.agg [vI p0.Grain,eL false eTapi_Node p0.Nodes]),oX true true 1 (vI p2),oX true true 4 (.agg [vI p3.Node,vI p3.Row,vI p3.From,vI p3.To]),oX false false 1 (.ref 4 0 ((List.replicate (zt a1.Card) ((0,0,0,0):(Int × Int × Int × Int))).length)),oR true 4 (fun x=>AV.agg [vI x.1,vI x.2.1,vI x.2.2.1,vI x.2.2.2]) (List.replicate (zt a1.Card) ((0,0,0,0):(Int × Int × Int × Int))),oX true true 1 (vI 0),oX true true 1 (vI 0),oX false false 1 (.fn (.func 97) [] [.ptr 8 0 0,.ptr 9 0 0,.ptr 10 0 0,.ptr 11 0 0,.ptr 7 0 0]),oX false false 1 (.ref 12 0 ((List.replicate (zt (zn p0.Nodes)) (0:Int)).length)),oX false false 1 (.fn (.func 73) [] [.ptr 0 0 0,.ptr 2 0 0,.ptr 3 0 0,.ptr 1 0 0,.ptr 5 0 0,.ptr 6 0 0]),oX true false 2 (.agg [vI p0.Grain,eL false eTapi_Node p0.Nodes]),oX true false 1 (z1 p1),oR true 1 eI (List.replicate (zt (zn p0.Nodes)) (0:Int))]
noncomputable abbrev s36_39 (p0:Tapi_Net) (p2:Int) (p3:Tapi_Shift) (s18:(Int × (List (Int × Int × Int × Int)) × Int × Int × (List Int))) (p1:(List Int)):List AObj:=[oX true false 2 (.agg [vI p0.Grain,eL false eTapi_Node p0.Nodes]),oX true true 1 (vI p2),oX true true 4 (.agg [vI p3.Node,vI p3.Row,vI p3.From,vI p3.To]),oX false false 1 (.ref 4 0 s18.2.1.length),oR true 4 (fun x=>AV.agg [vI x.1,vI x.2.1,vI x.2.2.1,vI x.2.2.2]) s18.2.1,oX true true 1 (vI s18.2.2.1),oX true true 1 (vI s18.2.2.2.1),oX false false 1 (.fn (.func 97) [] [.ptr 8 0 0,.ptr 9 0 0,.ptr 10 0 0,.ptr 11 0 0,.ptr 7 0 0]),oX false false 1 (.ref 12 0 s18.2.2.2.2.length),oX false false 1 (.fn (.func 73) [] [.ptr 0 0 0,.ptr 2 0 0,.ptr 3 0 0,.ptr 1 0 0,.ptr 5 0 0,.ptr 6 0 0]),oX true false 2 (.agg [vI p0.Grain,eL false eTapi_Node p0.Nodes]),oX true false 1 (z1 p1),oR true 1 eI s18.2.2.2.2]
noncomputable abbrev s36_44 (p0:Tapi_Net) (p2:Int) (p3:Tapi_Shift) (s3:(Int × (List (Int × Int × Int × Int)) × Int × Int × (List Int))) (p1:(List Int)):List AObj:=[oX true false 2 (.agg [vI p0.Grain,eL false eTapi_Node p0.Nodes]),oX true true 1 (vI p2),oX true true 4 (.agg [vI p3.Node,vI p3.Row,vI p3.From,vI p3.To]),oX false false 1 (.ref 4 0 s3.2.1.length),oR true 4 (fun x=>AV.agg [vI x.1,vI x.2.1,vI x.2.2.1,vI x.2.2.2]) s3.2.1,oX true true 1 (vI s3.2.2.1),oX true true 1 (vI s3.2.2.2.1),oX false false 1 (.fn (.func 97) [] [.ptr 8 0 0,.ptr 9 0 0,.ptr 10 0 0,.ptr 11 0 0,.ptr 7 0 0]),oX false false 1 (.ref 12 0 s3.2.2.2.2.length),oX false false 1 (.fn (.func 73) [] [.ptr 0 0 0,.ptr 2 0 0,.ptr 3 0 0,.ptr 1 0 0,.ptr 5 0 0,.ptr 6 0 0]),oX true false 2 (.agg [vI p0.Grain,eL false eTapi_Node p0.Nodes]),oX true false 1 (z1 p1),oR true 1 eI s3.2.2.2.2]
noncomputable abbrev s36_61 (s3:(Int × (List (Int × Int × Int × Int)) × Int × Int × (List Int))) (a16:Tapi_Node) (s18:(Int × (List (Int × Int × Int × Int)) × Int × Int × (List Int))):List (Nat × AV):=[(0,vI s3.1),(1,.ptr 8 0 0),(4,.ptr 11 0 0),(5,.ptr 7 0 0),(20,vI a16.Card),(21,vI s18.1)]
noncomputable abbrev s36_62 (p0:Tapi_Net) (p2:Int) (p3:Tapi_Shift) (s18:(Int × (List (Int × Int × Int × Int)) × Int × Int × (List Int))) (s3:(Int × (List (Int × Int × Int × Int)) × Int × Int × (List Int))) (p1:(List Int)):List AObj:=[oX true false 2 (.agg [vI p0.Grain,eL false eTapi_Node p0.Nodes]),oX true true 1 (vI p2),oX true true 4 (.agg [vI p3.Node,vI p3.Row,vI p3.From,vI p3.To]),oX false false 1 (.ref 4 0 s18.2.1.length),oR true 4 (fun x=>AV.agg [vI x.1,vI x.2.1,vI x.2.2.1,vI x.2.2.2]) s18.2.1,oX true true 1 (vI s18.2.2.1),oX true true 1 (vI s18.2.2.2.1),oX false false 1 (.fn (.func 97) [] [.ptr 8 0 0,.ptr 9 0 0,.ptr 10 0 0,.ptr 11 0 0,.ptr 7 0 0]),oX false false 1 (.ref 12 0 ((List.set s18.2.2.2.2 (zt s3.1) s18.1).length)),oX false false 1 (.fn (.func 73) [] [.ptr 0 0 0,.ptr 2 0 0,.ptr 3 0 0,.ptr 1 0 0,.ptr 5 0 0,.ptr 6 0 0]),oX true false 2 (.agg [vI p0.Grain,eL false eTapi_Node p0.Nodes]),oX true false 1 (z1 p1),oR true 1 eI (List.set s18.2.2.2.2 (zt s3.1) s18.1)]
noncomputable abbrev s36_63 (p0:Tapi_Net) (p2:Int) (p3:Tapi_Shift) (x36:((List (Int × Int × Int × Int)) × Int × Int × (List Int))) (p1:(List Int)):List AObj:=[oX true false 2 (.agg [vI p0.Grain,eL false eTapi_Node p0.Nodes]),oX true true 1 (vI p2),oX true true 4 (.agg [vI p3.Node,vI p3.Row,vI p3.From,vI p3.To]),oX false false 1 (.ref 4 0 x36.1.length),oR true 4 (fun x=>AV.agg [vI x.1,vI x.2.1,vI x.2.2.1,vI x.2.2.2]) x36.1,oX true true 1 (vI x36.2.1),oX true true 1 (vI x36.2.2.1),oX false false 1 (.fn (.func 97) [] [.ptr 8 0 0,.ptr 9 0 0,.ptr 10 0 0,.ptr 11 0 0,.ptr 7 0 0]),oX false false 1 (.ref 12 0 x36.2.2.2.length),oX false false 1 (.fn (.func 73) [] [.ptr 0 0 0,.ptr 2 0 0,.ptr 3 0 0,.ptr 1 0 0,.ptr 5 0 0,.ptr 6 0 0]),oX true false 2 (.agg [vI p0.Grain,eL false eTapi_Node p0.Nodes]),oX true false 1 (z1 p1),oR true 1 eI x36.2.2.2]
noncomputable abbrev s36_93 (x37:((List (Int × Int × Int × Int)) × Int × Int × (List Int))) (s39:(Int × (List (Int × Int × Int × Int)))):List (Nat × AV):=[(9,.ptr 0 0 0),(10,.ptr 1 0 0),(11,.ptr 2 0 0),(25,vI (zn x37.1)),(26,vI s39.1)]
noncomputable abbrev s36_96 (s39:(Int × (List (Int × Int × Int × Int)))) (x37:((List (Int × Int × Int × Int)) × Int × Int × (List Int))):List AObj:=[oX false false 1 (.ref 3 0 s39.2.length),oX true true 1 (vI x37.2.1),oX true true 1 (vI x37.2.2.1),oR true 4 (fun x=>AV.agg [vI x.1,vI x.2.1,vI x.2.2.1,vI x.2.2.2]) s39.2]
noncomputable abbrev s36_104 (x37:((List (Int × Int × Int × Int)) × Int × Int × (List Int))) (s39:(Int × (List (Int × Int × Int × Int)))):List (Nat × AV):=(s36_93 x37 s39)++[(27,vB true),(28,vI s39.1),(12,vI s39.1),(29,.ref 3 0 s39.2.length),(30,vI s39.1),(31,.ref 3 0 s39.2.length),(32,vI s39.1),(33,vI x37.2.1),(34,vI x37.2.2.1),(35,.ptr 3 (zt s39.1) 0),(36,.ptr 3 (zt s39.1) 2),(37,.ptr 3 (zt s39.1) 0)]
noncomputable abbrev s36_105 (s39:(Int × (List (Int × Int × Int × Int)))) (x37:((List (Int × Int × Int × Int)) × Int × Int × (List Int))) (a42:(Int × Int × Int × Int)):List AObj:=[oX false false 1 (.ref 3 0 s39.2.length),oX true true 1 (vI x37.2.1),oX true true 1 (vI x37.2.2.1),oR true 4 (fun x=>AV.agg [vI x.1,vI x.2.1,vI x.2.2.1,vI x.2.2.2]) (List.set s39.2 (zt s39.1) (a42.1,a42.2.1,x37.2.1,a42.2.2.2))]
noncomputable abbrev s36_108 (x37:((List (Int × Int × Int × Int)) × Int × Int × (List Int))) (s39:(Int × (List (Int × Int × Int × Int)))):List (Nat × AV):=(s36_93 x37 s39)++[(27,vB true),(28,vI s39.1),(12,vI s39.1),(29,.ref 3 0 s39.2.length),(30,vI s39.1),(31,.ref 3 0 s39.2.length),(32,vI s39.1),(33,vI x37.2.1),(34,vI x37.2.2.1),(35,.ptr 3 (zt s39.1) 0),(36,.ptr 3 (zt s39.1) 2)]
noncomputable abbrev s36_113 (p0:Tapi_Net) (p2:Int) (p3:Tapi_Shift) (x37:((List (Int × Int × Int × Int)) × Int × Int × (List Int))) (p1:(List Int)):List AObj:=[oX true false 2 (.agg [vI p0.Grain,eL false eTapi_Node p0.Nodes]),oX true true 1 (vI p2),oX true true 4 (.agg [vI p3.Node,vI p3.Row,vI p3.From,vI p3.To]),oX false false 1 (.ref 4 0 x37.1.length),oR true 4 (fun x=>AV.agg [vI x.1,vI x.2.1,vI x.2.2.1,vI x.2.2.2]) x37.1,oX true true 1 (vI x37.2.1),oX true true 1 (vI x37.2.2.1),oX false false 1 (.fn (.func 97) [] [.ptr 8 0 0,.ptr 9 0 0,.ptr 10 0 0,.ptr 11 0 0,.ptr 7 0 0]),oX false false 1 (.ref 12 0 x37.2.2.2.length),oX false false 1 (.fn (.func 73) [] [.ptr 0 0 0,.ptr 2 0 0,.ptr 3 0 0,.ptr 1 0 0,.ptr 5 0 0,.ptr 6 0 0]),oX true false 2 (.agg [vI p0.Grain,eL false eTapi_Node p0.Nodes]),oX true false 1 (z1 p1),oR true 1 eI x37.2.2.2]
theorem g_sensitive_lines_ok (p0:Tapi_Net) (p1:(List Int)) (p2:Int) (p3:Tapi_Shift) (x:(List (Int × Int × Int × Int))) (h:g_sensitive_lines p0 p1 p2 p3=some x):CallOk Try.prog 36 [.agg [vI p0.Grain,eL false eTapi_Node p0.Nodes],z1 p1,vI p2,.agg [vI p3.Node,vI p3.Row,vI p3.From,vI p3.To]] (.ret (.ref 0 0 x.length) [oR true 4 (fun x=>AV.agg [vI x.1,vI x.2.1,vI x.2.2.1,vI x.2.2.2]) x]):=by
 refine fn_ok [] Try.func36 rfl (by decide +kernel) rfl ?_
 unfold g_sensitive_lines at h
 refine wp_eqB (base':=0) (st':=⟨[(0,.agg [vI p0.Grain,eL false eTapi_Node p0.Nodes]),(1,z1 p1),(2,vI p2),(3,.agg [vI p3.Node,vI p3.Row,vI p3.From,vI p3.To])],[],41⟩) kr kr ?_
 refine wp_seq (reg_in ?_)
 refine sgL false [] [] false gE ?_
 refine sz 3 4 (reg_end rfl (wp_seq (reg_in (sz 3 3 ?_))))
 refine bind_elim h (fun a1 q2 h=>?_)
 refine idxL' (enc:=eTapi_Node) (l:=p0.Nodes) (n:=p2) (fl:=false) (w:=3) (a:=a1) kr rfl gE q2 ?_
 refine sz 2 6 ?_
 refine mkL (enc:=(fun x=>AV.agg [vI x.1,vI x.2.1,vI x.2.2.1,vI x.2.2.2])) (z:=((0,0,0,0):(Int × Int × Int × Int))) (z0:=.agg [vI 0,vI 0,vI 0,vI 0]) (n:=a1.Card) (m:=a1.Card) (w:=4) (bytes:=32) [] true kr rfl gE kr h (fun h=>?_)
 refine sgL false [] [] false gE ?_
 refine sz 1 9 (reg_end rfl (wp_seq ?_))
 refine wgc [1,4,6,7,9] [0,1,2,4,3] ⟨[(1,z1 p1),(4,.ptr 0 0 0),(6,.ptr 1 0 0),(7,.ptr 2 0 0),(9,.ptr 3 0 0)],[oX true false 2 (.agg [vI p0.Grain,eL false eTapi_Node p0.Nodes]),oX true true 1 (vI p2),oX true true 4 (.agg [vI p3.Node,vI p3.Row,vI p3.From,vI p3.To]),oX false false 1 (.ref 4 0 ((List.replicate (zt a1.Card) ((0,0,0,0):(Int × Int × Int × Int))).length)),oR true 4 (fun x=>AV.agg [vI x.1,vI x.2.1,vI x.2.2.1,vI x.2.2.2]) (List.replicate (zt a1.Card) ((0,0,0,0):(Int × Int × Int × Int)))],41⟩ ?_
 refine rn (wp_seq (reg_in (sz 3 3 ?_)))
 refine inlR (f:=72) (fn:=Try.f72) (as0:=[.agg [vI p0.Grain,eL false eTapi_Node p0.Nodes],z1 p1,.fn (.func 73) [] [.ptr 0 0 0,.ptr 2 0 0,.ptr 3 0 0,.ptr 1 0 0,.ptr 5 0 0,.ptr 6 0 0]]) kr Try.func72 rfl (by decide +kernel) rfl ?_
 refine wp_eqB (base':=7) (st':=⟨[(0,.agg [vI p0.Grain,eL false eTapi_Node p0.Nodes]),(1,z1 p1),(2,.fn (.func 73) [] [.ptr 0 0 0,.ptr 2 0 0,.ptr 3 0 0,.ptr 1 0 0,.ptr 5 0 0,.ptr 6 0 0])],[oX true false 2 (.agg [vI p0.Grain,eL false eTapi_Node p0.Nodes]),oX true true 1 (vI p2),oX true true 4 (.agg [vI p3.Node,vI p3.Row,vI p3.From,vI p3.To]),oX false false 1 (.ref 4 0 ((List.replicate (zt a1.Card) ((0,0,0,0):(Int × Int × Int × Int))).length)),oR true 4 (fun x=>AV.agg [vI x.1,vI x.2.1,vI x.2.2.1,vI x.2.2.2]) (List.replicate (zt a1.Card) ((0,0,0,0):(Int × Int × Int × Int))),oX true true 1 (vI 0),oX true true 1 (vI 0)],15⟩) kr kr ?_
 refine wp_seq (reg_in ?_)
 refine sgL false [] [] false gE ?_
 refine sgL false [] [] false gE ?_
 refine sgL false [] [] false gE ?_
 refine reg_end rfl (wp_seq (reg_in (sz 2 2 ?_)))
 refine lenL (enc:=eTapi_Node) (l:=p0.Nodes) (fl:=false) kr gE ?_
 refine mkL (enc:=eI) (z:=(0:Int)) (z0:=vI 0) (n:=(zn p0.Nodes)) (m:=(zn p0.Nodes)) (w:=1) (bytes:=8) [] true kr rfl gE kr h (fun h=>?_)
 refine sgL false [] [] false gE ?_
 refine sz 1 6 (reg_end rfl (wp_seq (wg [3,4,5,6] [7,8,9,11,10] (reg_in ?_))))
 refine sgL false [] [] false gE ?_
 refine reg_end rfl (sq ?_)
 refine wgc [7] [12,10,9,7,8,11] ⟨[(7,.ptr 7 0 0)],(s36_10 p0 p2 p3 a1 p1),15⟩ ?_
 refine reg_in ?_
 refine sgz 1 1 (S:=⟨[(7,.ptr 7 0 0),(13,.fn (.func 97) [] [.ptr 8 0 0,.ptr 9 0 0,.ptr 10 0 0,.ptr 11 0 0,.ptr 7 0 0])],(s36_10 p0 p2 p3 a1 p1),15⟩) ?_
 refine recR (f:=97) (fn:=Try.f97) (as0:=[vI 0,.ptr 8 0 0,.ptr 9 0 0,.ptr 10 0 0,.ptr 11 0 0,.ptr 7 0 0]) (N:=13) (I:=fun s3=>⟨[(0,vI s3.1),(1,.ptr 8 0 0),(2,.ptr 9 0 0),(3,.ptr 10 0 0),(4,.ptr 11 0 0),(5,.ptr 7 0 0)],(s36_44 p0 p2 p3 s3 p1),46⟩) (E:=fun v=>⟨[],[oX true false 2 (.agg [vI p0.Grain,eL false eTapi_Node p0.Nodes]),oX true true 1 (vI p2),oX true true 4 (.agg [vI p3.Node,vI p3.Row,vI p3.From,vI p3.To]),oX false false 1 (.ref 4 0 v.1.length),oR true 4 (fun x=>AV.agg [vI x.1,vI x.2.1,vI x.2.2.1,vI x.2.2.2]) v.1,oX true true 1 (vI v.2.1),oX true true 1 (vI v.2.2.1),oX false false 1 (.fn (.func 97) [] [.ptr 8 0 0,.ptr 9 0 0,.ptr 10 0 0,.ptr 11 0 0,.ptr 7 0 0]),oX false false 1 (.ref 12 0 v.2.2.2.length),oX false false 1 (.fn (.func 73) [] [.ptr 0 0 0,.ptr 2 0 0,.ptr 3 0 0,.ptr 1 0 0,.ptr 5 0 0,.ptr 6 0 0]),oX true false 2 (.agg [vI p0.Grain,eL false eTapi_Node p0.Nodes]),oX true false 1 (z1 p1),oR true 1 eI v.2.2.2],46⟩) (F:=(g_sensitive_lines_r1 p0 p3 p2 p1)) (0,(List.replicate (zt a1.Card) ((0,0,0,0):(Int × Int × Int × Int))),0,0,(List.replicate (zt (zn p0.Nodes)) (0:Int))) kr Try.func97 rfl (by decide +kernel) rfl kr rfl h ?_ (fun x37 h=>?_)
 ·intro r4 i5 s3 y38 h
  unfold g_sensitive_lines_r1 at h
  refine wp_post ?_
  refine wp_seq (sq ?_)
  refine wbz h (fun q7 h=>?_) (fun q7 h=>?_)
  ·refine wp_seq (wg [1,2] [] (reg_in (sz 2 2 ?_)))
   refine inlR (f:=73) (fn:=Try.f73) (as0:=[.ref 12 0 s3.2.2.2.2.length,.ptr 0 0 0,.ptr 2 0 0,.ptr 3 0 0,.ptr 1 0 0,.ptr 5 0 0,.ptr 6 0 0]) kr Try.func73 rfl (by decide +kernel) rfl ?_
   refine wp_eqB (base':=13) (st':=⟨[(0,.ref 12 0 s3.2.2.2.2.length),(1,.ptr 0 0 0),(2,.ptr 2 0 0),(3,.ptr 3 0 0),(4,.ptr 1 0 0),(5,.ptr 5 0 0),(6,.ptr 6 0 0)],(s36_44 p0 p2 p3 s3 p1),47⟩) kr kr ?_
   refine wp_seq (reg_in (sz 3 3 ?_))
   refine callR (as0:=[.agg [vI p0.Grain,eL false eTapi_Node p0.Nodes],.ref 12 0 s3.2.2.2.2.length,.agg [vI p3.Node,vI p3.Row,vI p3.From,vI p3.To]]) (ids:=[12]) kr bodyB_74 (msnap_cons (snap_agg (msnap_cons rfl (msnap_cons rfl msnap_nil (by rfl)) (by rfl))) (msnap_cons (snap_full (w:=1) (bx:=false) (ro:=false) kr) (msnap_cons (snap_agg (msnap_cons rfl (msnap_cons rfl (msnap_cons rfl (msnap_cons rfl msnap_nil (by rfl)) (by rfl)) (by rfl)) (by rfl))) msnap_nil (by rfl)) (by rfl)) (by rfl)) (fun x8 q9=>g_sensitive_weigh_ok p0 s3.2.2.2.2 p3 x8 q9) gF h (fun x8 q9 h=>?_)
   refine sz 5 9 (reg_end rfl (wp_seq (wg [0,3,4,5,6,8,9] [] (rga hfol (sy 3 3 ?_)))))
   refine bind_elim h (fun a10 q11 h=>?_)
   refine idxR' (enc:=eI) (l:=s3.2.2.2.2) (n:=p2) (w:=1) (ob:=12) (ro:=false) (nr:=true) (fl:=true) (a:=a10) kr kr gE q11 ?_
   refine loadR (enc:=eI) (l:=s3.2.2.2.2) (n:=p2) (w:=1) (ob:=12) (c:=0) (bx:=false) (ro:=false) (nr:=true) (fl:=true) (a:=a10) kr kr q11 gE ?_
   refine bind_elim h (fun a12 q13 h=>?_)
   refine idxR' (enc:=(fun x=>AV.agg [vI x.1,vI x.2.1,vI x.2.2.1,vI x.2.2.2])) (l:=s3.2.1) (n:=a10) (w:=4) (ob:=4) (ro:=false) (nr:=true) (fl:=true) (a:=a12) kr kr gE q13 ?_
   refine sy 1 7 ?_
   refine loadR (enc:=(fun x=>AV.agg [vI x.1,vI x.2.1,vI x.2.2.1,vI x.2.2.2])) (l:=s3.2.1) (n:=a10) (w:=4) (ob:=4) (c:=0) (bx:=false) (ro:=false) (nr:=true) (fl:=true) (a:=a12) kr kr q13 gE ?_
   refine sy 2 10 ?_
   refine idxR' (enc:=(fun x=>AV.agg [vI x.1,vI x.2.1,vI x.2.2.1,vI x.2.2.2])) (l:=s3.2.1) (n:=a10) (w:=4) (ob:=4) (ro:=false) (nr:=true) (fl:=true) (a:=a12) kr kr gE q13 ?_
   refine sy 1 12 ?_
   refine storeR (enc:=(fun x=>AV.agg [vI x.1,vI x.2.1,vI x.2.2.1,vI x.2.2.2])) (l:=s3.2.1) (n:=a10) (ob:=4) (w:=4) (bx:=false) (nr:=true) (fl:=true) (c:=0) (a:=a12) (a':=(zw (a12.1+x8.1),a12.2.1,a12.2.2.1,a12.2.2.2)) (v:=vI (zw (a12.1+x8.1))) false kr kr q13 kr rfl kr gE kr ?_
   refine rknN (n:=s3.2.1.length) (m:=(List.set s3.2.1 (zt a10) (zw (a12.1+x8.1),a12.2.1,a12.2.2.1,a12.2.2.2)).length) (S:=fun n15=>⟨[(0,.ref 12 0 s3.2.2.2.2.length),(3,.ptr 3 0 0),(4,.ptr 1 0 0),(5,.ptr 5 0 0),(6,.ptr 6 0 0),(8,vI x8.1),(9,vI x8.2)]++[(17,.ref 4 0 n15),(18,.ref 12 0 s3.2.2.2.2.length),(19,vI p2),(20,.ptr 12 (zt p2) 0),(21,vI a10),(22,.ptr 4 (zt a10) 0),(23,.ptr 4 (zt a10) 0),(24,vI a12.1),(25,vI x8.1),(26,vI (zw (a12.1+x8.1))),(27,.ptr 4 (zt a10) 0),(28,.ptr 4 (zt a10) 0)],[oX true false 2 (.agg [vI p0.Grain,eL false eTapi_Node p0.Nodes]),oX true true 1 (vI p2),oX true true 4 (.agg [vI p3.Node,vI p3.Row,vI p3.From,vI p3.To]),oX false false 1 (.ref 4 0 n15),oR true 4 (fun x=>AV.agg [vI x.1,vI x.2.1,vI x.2.2.1,vI x.2.2.2]) (List.set s3.2.1 (zt a10) (zw (a12.1+x8.1),a12.2.1,a12.2.2.1,a12.2.2.2)),oX true true 1 (vI s3.2.2.1),oX true true 1 (vI s3.2.2.2.1),oX false false 1 (.fn (.func 97) [] [.ptr 8 0 0,.ptr 9 0 0,.ptr 10 0 0,.ptr 11 0 0,.ptr 7 0 0]),oX false false 1 (.ref 12 0 s3.2.2.2.2.length),oX false false 1 (.fn (.func 73) [] [.ptr 0 0 0,.ptr 2 0 0,.ptr 3 0 0,.ptr 1 0 0,.ptr 5 0 0,.ptr 6 0 0]),oX true false 2 (.agg [vI p0.Grain,eL false eTapi_Node p0.Nodes]),oX true false 1 (z1 p1),oR true 1 eI s3.2.2.2.2],47⟩) (by simp only [List.length_set]) ?_
   refine rgd (wp_seq (wg [0,3,4,5,6,8,9] [] (rga hfol (sy 3 3 ?_))))
   refine idxR' (enc:=eI) (l:=s3.2.2.2.2) (n:=p2) (w:=1) (ob:=12) (ro:=false) (nr:=true) (fl:=true) (a:=a10) kr kr gE q11 ?_
   refine loadR (enc:=eI) (l:=s3.2.2.2.2) (n:=p2) (w:=1) (ob:=12) (c:=0) (bx:=false) (ro:=false) (nr:=true) (fl:=true) (a:=a10) kr kr q11 gE ?_
   refine idxR' (enc:=(fun x=>AV.agg [vI x.1,vI x.2.1,vI x.2.2.1,vI x.2.2.2])) (l:=(List.set s3.2.1 (zt a10) (zw (a12.1+x8.1),a12.2.1,a12.2.2.1,a12.2.2.2))) (n:=a10) (w:=4) (ob:=4) (ro:=false) (nr:=true) (fl:=true) (a:=(zw (a12.1+x8.1),a12.2.1,a12.2.2.1,a12.2.2.2)) kr kr gE (lkI_set (zw (a12.1+x8.1),a12.2.1,a12.2.2.1,a12.2.2.2) q13) ?_
   refine sy 1 7 ?_
   refine loadR (enc:=(fun x=>AV.agg [vI x.1,vI x.2.1,vI x.2.2.1,vI x.2.2.2])) (l:=(List.set s3.2.1 (zt a10) (zw (a12.1+x8.1),a12.2.1,a12.2.2.1,a12.2.2.2))) (n:=a10) (w:=4) (ob:=4) (c:=1) (bx:=false) (ro:=false) (nr:=true) (fl:=true) (a:=(zw (a12.1+x8.1),a12.2.1,a12.2.2.1,a12.2.2.2)) kr kr (lkI_set (zw (a12.1+x8.1),a12.2.1,a12.2.2.1,a12.2.2.2) q13) gE ?_
   refine sy 2 10 ?_
   refine idxR' (enc:=(fun x=>AV.agg [vI x.1,vI x.2.1,vI x.2.2.1,vI x.2.2.2])) (l:=(List.set s3.2.1 (zt a10) (zw (a12.1+x8.1),a12.2.1,a12.2.2.1,a12.2.2.2))) (n:=a10) (w:=4) (ob:=4) (ro:=false) (nr:=true) (fl:=true) (a:=(zw (a12.1+x8.1),a12.2.1,a12.2.2.1,a12.2.2.2)) kr kr gE (lkI_set (zw (a12.1+x8.1),a12.2.1,a12.2.2.1,a12.2.2.2) q13) ?_
   refine sy 1 12 ?_
   refine storeR (enc:=(fun x=>AV.agg [vI x.1,vI x.2.1,vI x.2.2.1,vI x.2.2.2])) (l:=(List.set s3.2.1 (zt a10) (zw (a12.1+x8.1),a12.2.1,a12.2.2.1,a12.2.2.2))) (n:=a10) (ob:=4) (w:=4) (bx:=false) (nr:=true) (fl:=true) (c:=1) (a:=(zw (a12.1+x8.1),a12.2.1,a12.2.2.1,a12.2.2.2)) (a':=((zw (a12.1+x8.1),a12.2.1,a12.2.2.1,a12.2.2.2).1,zw (((zw (a12.1+x8.1),a12.2.1,a12.2.2.1,a12.2.2.2).2.1)+x8.2),(zw (a12.1+x8.1),a12.2.1,a12.2.2.1,a12.2.2.2).2.2.1,(zw (a12.1+x8.1),a12.2.1,a12.2.2.1,a12.2.2.2).2.2.2)) (v:=vI (zw (((zw (a12.1+x8.1),a12.2.1,a12.2.2.1,a12.2.2.2).2.1)+x8.2))) false kr kr (lkI_set (zw (a12.1+x8.1),a12.2.1,a12.2.2.1,a12.2.2.2) q13) kr rfl kr gE kr ?_
   refine rknN (n:=(List.set s3.2.1 (zt a10) (zw (a12.1+x8.1),a12.2.1,a12.2.2.1,a12.2.2.2)).length) (m:=(List.set (List.set s3.2.1 (zt a10) (zw (a12.1+x8.1),a12.2.1,a12.2.2.1,a12.2.2.2)) (zt a10) ((zw (a12.1+x8.1),a12.2.1,a12.2.2.1,a12.2.2.2).1,zw (((zw (a12.1+x8.1),a12.2.1,a12.2.2.1,a12.2.2.2).2.1)+x8.2),(zw (a12.1+x8.1),a12.2.1,a12.2.2.1,a12.2.2.2).2.2.1,(zw (a12.1+x8.1),a12.2.1,a12.2.2.1,a12.2.2.2).2.2.2)).length) (S:=fun n14=>⟨[(0,.ref 12 0 s3.2.2.2.2.length),(3,.ptr 3 0 0),(4,.ptr 1 0 0),(5,.ptr 5 0 0),(6,.ptr 6 0 0),(8,vI x8.1),(9,vI x8.2)]++[(29,.ref 4 0 n14),(30,.ref 12 0 s3.2.2.2.2.length),(31,vI p2),(32,.ptr 12 (zt p2) 0),(33,vI a10),(34,.ptr 4 (zt a10) 0),(35,.ptr 4 (zt a10) 1),(36,vI ((zw (a12.1+x8.1),a12.2.1,a12.2.2.1,a12.2.2.2).2.1)),(37,vI x8.2),(38,vI (zw (((zw (a12.1+x8.1),a12.2.1,a12.2.2.1,a12.2.2.2).2.1)+x8.2))),(39,.ptr 4 (zt a10) 0),(40,.ptr 4 (zt a10) 1)],[oX true false 2 (.agg [vI p0.Grain,eL false eTapi_Node p0.Nodes]),oX true true 1 (vI p2),oX true true 4 (.agg [vI p3.Node,vI p3.Row,vI p3.From,vI p3.To]),oX false false 1 (.ref 4 0 n14),oR true 4 (fun x=>AV.agg [vI x.1,vI x.2.1,vI x.2.2.1,vI x.2.2.2]) (List.set (List.set s3.2.1 (zt a10) (zw (a12.1+x8.1),a12.2.1,a12.2.2.1,a12.2.2.2)) (zt a10) ((zw (a12.1+x8.1),a12.2.1,a12.2.2.1,a12.2.2.2).1,zw (((zw (a12.1+x8.1),a12.2.1,a12.2.2.1,a12.2.2.2).2.1)+x8.2),(zw (a12.1+x8.1),a12.2.1,a12.2.2.1,a12.2.2.2).2.2.1,(zw (a12.1+x8.1),a12.2.1,a12.2.2.1,a12.2.2.2).2.2.2)),oX true true 1 (vI s3.2.2.1),oX true true 1 (vI s3.2.2.2.1),oX false false 1 (.fn (.func 97) [] [.ptr 8 0 0,.ptr 9 0 0,.ptr 10 0 0,.ptr 11 0 0,.ptr 7 0 0]),oX false false 1 (.ref 12 0 s3.2.2.2.2.length),oX false false 1 (.fn (.func 73) [] [.ptr 0 0 0,.ptr 2 0 0,.ptr 3 0 0,.ptr 1 0 0,.ptr 5 0 0,.ptr 6 0 0]),oX true false 2 (.agg [vI p0.Grain,eL false eTapi_Node p0.Nodes]),oX true false 1 (z1 p1),oR true 1 eI s3.2.2.2.2],47⟩) (by simp only [List.length_set]) ?_
   refine rgd (wp_seq (wg [5,6,8,9] [] (rn (wg [6,9] [] (rn ?_)))))
   refine ⟨⟨[(1,.ptr 8 0 0),(2,.ptr 9 0 0),(12,.fn (.func 73) [] [.ptr 0 0 0,.ptr 2 0 0,.ptr 3 0 0,.ptr 1 0 0,.ptr 5 0 0,.ptr 6 0 0]),(13,.ref 12 0 s3.2.2.2.2.length),(14,.tup [])],[oX true false 2 (.agg [vI p0.Grain,eL false eTapi_Node p0.Nodes]),oX true true 1 (vI p2),oX true true 4 (.agg [vI p3.Node,vI p3.Row,vI p3.From,vI p3.To]),oX false false 1 (.ref 4 0 ((List.set (List.set s3.2.1 (zt a10) (zw (a12.1+x8.1),a12.2.1,a12.2.2.1,a12.2.2.2)) (zt a10) ((zw (a12.1+x8.1),a12.2.1,a12.2.2.1,a12.2.2.2).1,zw (((zw (a12.1+x8.1),a12.2.1,a12.2.2.1,a12.2.2.2).2.1)+x8.2),(zw (a12.1+x8.1),a12.2.1,a12.2.2.1,a12.2.2.2).2.2.1,(zw (a12.1+x8.1),a12.2.1,a12.2.2.1,a12.2.2.2).2.2.2)).length)),oR true 4 (fun x=>AV.agg [vI x.1,vI x.2.1,vI x.2.2.1,vI x.2.2.2]) (List.set (List.set s3.2.1 (zt a10) (zw (a12.1+x8.1),a12.2.1,a12.2.2.1,a12.2.2.2)) (zt a10) ((zw (a12.1+x8.1),a12.2.1,a12.2.2.1,a12.2.2.2).1,zw (((zw (a12.1+x8.1),a12.2.1,a12.2.2.1,a12.2.2.2).2.1)+x8.2),(zw (a12.1+x8.1),a12.2.1,a12.2.2.1,a12.2.2.2).2.2.1,(zw (a12.1+x8.1),a12.2.1,a12.2.2.1,a12.2.2.2).2.2.2)),oX true true 1 (vI (zw (s3.2.2.1+x8.1))),oX true true 1 (vI (zw (s3.2.2.2.1+x8.2))),oX false false 1 (.fn (.func 97) [] [.ptr 8 0 0,.ptr 9 0 0,.ptr 10 0 0,.ptr 11 0 0,.ptr 7 0 0]),oX false false 1 (.ref 12 0 s3.2.2.2.2.length),oX false false 1 (.fn (.func 73) [] [.ptr 0 0 0,.ptr 2 0 0,.ptr 3 0 0,.ptr 1 0 0,.ptr 5 0 0,.ptr 6 0 0]),oX true false 2 (.agg [vI p0.Grain,eL false eTapi_Node p0.Nodes]),oX true false 1 (z1 p1),oR true 1 eI s3.2.2.2.2],46⟩,by as_aux_lemma=>kernel_rfl,?_⟩
   refine reg_end rfl ?_
   refine wgc [] [] ⟨[],[oX true false 2 (.agg [vI p0.Grain,eL false eTapi_Node p0.Nodes]),oX true true 1 (vI p2),oX true true 4 (.agg [vI p3.Node,vI p3.Row,vI p3.From,vI p3.To]),oX false false 1 (.ref 4 0 ((List.set (List.set s3.2.1 (zt a10) (zw (a12.1+x8.1),a12.2.1,a12.2.2.1,a12.2.2.2)) (zt a10) ((zw (a12.1+x8.1),a12.2.1,a12.2.2.1,a12.2.2.2).1,zw (((zw (a12.1+x8.1),a12.2.1,a12.2.2.1,a12.2.2.2).2.1)+x8.2),(zw (a12.1+x8.1),a12.2.1,a12.2.2.1,a12.2.2.2).2.2.1,(zw (a12.1+x8.1),a12.2.1,a12.2.2.1,a12.2.2.2).2.2.2)).length)),oR true 4 (fun x=>AV.agg [vI x.1,vI x.2.1,vI x.2.2.1,vI x.2.2.2]) (List.set (List.set s3.2.1 (zt a10) (zw (a12.1+x8.1),a12.2.1,a12.2.2.1,a12.2.2.2)) (zt a10) ((zw (a12.1+x8.1),a12.2.1,a12.2.2.1,a12.2.2.2).1,zw (((zw (a12.1+x8.1),a12.2.1,a12.2.2.1,a12.2.2.2).2.1)+x8.2),(zw (a12.1+x8.1),a12.2.1,a12.2.2.1,a12.2.2.2).2.2.1,(zw (a12.1+x8.1),a12.2.1,a12.2.2.1,a12.2.2.2).2.2.2)),oX true true 1 (vI (zw (s3.2.2.1+x8.1))),oX true true 1 (vI (zw (s3.2.2.2.1+x8.2))),oX false false 1 (.fn (.func 97) [] [.ptr 8 0 0,.ptr 9 0 0,.ptr 10 0 0,.ptr 11 0 0,.ptr 7 0 0]),oX false false 1 (.ref 12 0 s3.2.2.2.2.length),oX false false 1 (.fn (.func 73) [] [.ptr 0 0 0,.ptr 2 0 0,.ptr 3 0 0,.ptr 1 0 0,.ptr 5 0 0,.ptr 6 0 0]),oX true false 2 (.agg [vI p0.Grain,eL false eTapi_Node p0.Nodes]),oX true false 1 (z1 p1),oR true 1 eI s3.2.2.2.2],46⟩ ?_
   refine wp_ret ?_
   cases h
   refine ⟨⟨[],[oX true false 2 (.agg [vI p0.Grain,eL false eTapi_Node p0.Nodes]),oX true true 1 (vI p2),oX true true 4 (.agg [vI p3.Node,vI p3.Row,vI p3.From,vI p3.To]),oX false false 1 (.ref 4 0 ((List.set (List.set s3.2.1 (zt a10) (zw (a12.1+x8.1),a12.2.1,a12.2.2.1,a12.2.2.2)) (zt a10) ((zw (a12.1+x8.1),a12.2.1,a12.2.2.1,a12.2.2.2).1,zw (((zw (a12.1+x8.1),a12.2.1,a12.2.2.1,a12.2.2.2).2.1)+x8.2),(zw (a12.1+x8.1),a12.2.1,a12.2.2.1,a12.2.2.2).2.2.1,(zw (a12.1+x8.1),a12.2.1,a12.2.2.1,a12.2.2.2).2.2.2)).length)),oR true 4 (fun x=>AV.agg [vI x.1,vI x.2.1,vI x.2.2.1,vI x.2.2.2]) (List.set (List.set s3.2.1 (zt a10) (zw (a12.1+x8.1),a12.2.1,a12.2.2.1,a12.2.2.2)) (zt a10) ((zw (a12.1+x8.1),a12.2.1,a12.2.2.1,a12.2.2.2).1,zw (((zw (a12.1+x8.1),a12.2.1,a12.2.2.1,a12.2.2.2).2.1)+x8.2),(zw (a12.1+x8.1),a12.2.1,a12.2.2.1,a12.2.2.2).2.2.1,(zw (a12.1+x8.1),a12.2.1,a12.2.2.1,a12.2.2.2).2.2.2)),oX true true 1 (vI (zw (s3.2.2.1+x8.1))),oX true true 1 (vI (zw (s3.2.2.2.1+x8.2))),oX false false 1 (.fn (.func 97) [] [.ptr 8 0 0,.ptr 9 0 0,.ptr 10 0 0,.ptr 11 0 0,.ptr 7 0 0]),oX false false 1 (.ref 12 0 s3.2.2.2.2.length),oX false false 1 (.fn (.func 73) [] [.ptr 0 0 0,.ptr 2 0 0,.ptr 3 0 0,.ptr 1 0 0,.ptr 5 0 0,.ptr 6 0 0]),oX true false 2 (.agg [vI p0.Grain,eL false eTapi_Node p0.Nodes]),oX true false 1 (z1 p1),oR true 1 eI s3.2.2.2.2],46⟩,(wk_gc (live:=[]) (keep:=[]) (st':=⟨[],[oX true false 2 (.agg [vI p0.Grain,eL false eTapi_Node p0.Nodes]),oX true true 1 (vI p2),oX true true 4 (.agg [vI p3.Node,vI p3.Row,vI p3.From,vI p3.To]),oX false false 1 (.ref 4 0 ((List.set (List.set s3.2.1 (zt a10) (zw (a12.1+x8.1),a12.2.1,a12.2.2.1,a12.2.2.2)) (zt a10) ((zw (a12.1+x8.1),a12.2.1,a12.2.2.1,a12.2.2.2).1,zw (((zw (a12.1+x8.1),a12.2.1,a12.2.2.1,a12.2.2.2).2.1)+x8.2),(zw (a12.1+x8.1),a12.2.1,a12.2.2.1,a12.2.2.2).2.2.1,(zw (a12.1+x8.1),a12.2.1,a12.2.2.1,a12.2.2.2).2.2.2)).length)),oR true 4 (fun x=>AV.agg [vI x.1,vI x.2.1,vI x.2.2.1,vI x.2.2.2]) (List.set (List.set s3.2.1 (zt a10) (zw (a12.1+x8.1),a12.2.1,a12.2.2.1,a12.2.2.2)) (zt a10) ((zw (a12.1+x8.1),a12.2.1,a12.2.2.1,a12.2.2.2).1,zw (((zw (a12.1+x8.1),a12.2.1,a12.2.2.1,a12.2.2.2).2.1)+x8.2),(zw (a12.1+x8.1),a12.2.1,a12.2.2.1,a12.2.2.2).2.2.1,(zw (a12.1+x8.1),a12.2.1,a12.2.2.1,a12.2.2.2).2.2.2)),oX true true 1 (vI (zw (s3.2.2.1+x8.1))),oX true true 1 (vI (zw (s3.2.2.2.1+x8.2))),oX false false 1 (.fn (.func 97) [] [.ptr 8 0 0,.ptr 9 0 0,.ptr 10 0 0,.ptr 11 0 0,.ptr 7 0 0]),oX false false 1 (.ref 12 0 s3.2.2.2.2.length),oX false false 1 (.fn (.func 73) [] [.ptr 0 0 0,.ptr 2 0 0,.ptr 3 0 0,.ptr 1 0 0,.ptr 5 0 0,.ptr 6 0 0]),oX true false 2 (.agg [vI p0.Grain,eL false eTapi_Node p0.Nodes]),oX true false 1 (z1 p1),oR true 1 eI s3.2.2.2.2],46⟩) (by kernel_rfl)),?_⟩
   exact .inl (by kernel_rfl)
  refine wp_skip (wp_seq (wg [0,1,3,4,5] [] (reg_in (sz 3 3 ?_))))
  refine bind_elim h (fun a16 q17 h=>?_)
  refine idxL' (enc:=eTapi_Node) (l:=p0.Nodes) (n:=s3.1) (fl:=false) (w:=3) (a:=a16) kr rfl gE q17 ?_
  refine sz 3 7 (reg_end rfl (wp_block ?_))
  refine wwh h (fun s18=>⟨(s36_61 s3 a16 s18),(s36_39 p0 p2 p3 s18 p1),46⟩) (fun v out=>out=.go (.exit 0) ⟨[],[oX true false 2 (.agg [vI p0.Grain,eL false eTapi_Node p0.Nodes]),oX true true 1 (vI p2),oX true true 4 (.agg [vI p3.Node,vI p3.Row,vI p3.From,vI p3.To]),oX false false 1 (.ref 4 0 v.1.length),oR true 4 (fun x=>AV.agg [vI x.1,vI x.2.1,vI x.2.2.1,vI x.2.2.2]) v.1,oX true true 1 (vI v.2.1),oX true true 1 (vI v.2.2.1),oX false false 1 (.fn (.func 97) [] [.ptr 8 0 0,.ptr 9 0 0,.ptr 10 0 0,.ptr 11 0 0,.ptr 7 0 0]),oX false false 1 (.ref 12 0 v.2.2.2.length),oX false false 1 (.fn (.func 73) [] [.ptr 0 0 0,.ptr 2 0 0,.ptr 3 0 0,.ptr 1 0 0,.ptr 5 0 0,.ptr 6 0 0]),oX true false 2 (.agg [vI p0.Grain,eL false eTapi_Node p0.Nodes]),oX true false 1 (z1 p1),oR true 1 eI v.2.2.2],46⟩) (wk_gc (live:=[0,1,4,5,20,21]) (keep:=[]) kr) ?_ ?_
  ·intro s18 o h
   unfold g_sensitive_lines_b0 at h
   refine sq (wp_seq ?_)
   refine wb [22] h (fun q20 h=>?_) (fun q20 h=>?_)
   ·refine wcT (wp_skip (wp_seq (wp_block (sq (wp_seq (reg_in (sz 2 2 ?_)))))))
    refine bind_elim h (fun a21 q22 h=>?_)
    refine idxL' (enc:=eI) (l:=p1) (n:=s3.1) (fl:=true) (w:=1) (a:=a21) kr rfl gE q22 ?_
    refine sz 3 6 ?_
    refine rw_wk (wk_gc (live:=[0,1,4,5,20,21,7,29]) (keep:=[]) (st':=⟨[(0,vI s3.1),(1,.ptr 8 0 0),(4,.ptr 11 0 0),(5,.ptr 7 0 0),(20,vI a16.Card),(21,vI s18.1),(7,vI s18.1),(29,vB (a21==(-1)))],(s36_39 p0 p2 p3 s18 p1),46⟩) kr) ?_
    refine rb [29] h (fun q24 h=>?_) (fun q24 h=>?_)
    ·refine sz 7 13 (reg_end rfl (wcT (wp_seq (wg [0,1,4,5,20,21,7] [] (reg_in (sz 3 3 ?_))))))
     refine bind_elim h (fun a25 q26 h=>?_)
     refine idxR' (enc:=eI) (l:=s18.2.2.2.2) (n:=s3.1) (w:=1) (ob:=12) (ro:=false) (nr:=true) (fl:=true) (a:=a25) kr kr gE q26 ?_
     refine storeR (enc:=eI) (l:=s18.2.2.2.2) (n:=s3.1) (ob:=12) (w:=1) (bx:=false) (nr:=true) (fl:=true) (c:=0) (a:=a25) (a':=s18.1) (v:=vI s18.1) false kr kr q26 kr rfl kr gE kr ?_
     refine rknN (n:=s18.2.2.2.2.length) (m:=(List.set s18.2.2.2.2 (zt s3.1) s18.1).length) (S:=fun n28=>⟨[(0,vI s3.1),(1,.ptr 8 0 0),(4,.ptr 11 0 0),(5,.ptr 7 0 0),(20,vI a16.Card),(21,vI s18.1),(7,vI s18.1)]++[(37,.ref 12 0 n28),(38,vI s3.1),(39,vI s18.1),(40,.ptr 12 (zt s3.1) 0)],[oX true false 2 (.agg [vI p0.Grain,eL false eTapi_Node p0.Nodes]),oX true true 1 (vI p2),oX true true 4 (.agg [vI p3.Node,vI p3.Row,vI p3.From,vI p3.To]),oX false false 1 (.ref 4 0 s18.2.1.length),oR true 4 (fun x=>AV.agg [vI x.1,vI x.2.1,vI x.2.2.1,vI x.2.2.2]) s18.2.1,oX true true 1 (vI s18.2.2.1),oX true true 1 (vI s18.2.2.2.1),oX false false 1 (.fn (.func 97) [] [.ptr 8 0 0,.ptr 9 0 0,.ptr 10 0 0,.ptr 11 0 0,.ptr 7 0 0]),oX false false 1 (.ref 12 0 n28),oX false false 1 (.fn (.func 73) [] [.ptr 0 0 0,.ptr 2 0 0,.ptr 3 0 0,.ptr 1 0 0,.ptr 5 0 0,.ptr 6 0 0]),oX true false 2 (.agg [vI p0.Grain,eL false eTapi_Node p0.Nodes]),oX true false 1 (z1 p1),oR true 1 eI (List.set s18.2.2.2.2 (zt s3.1) s18.1)],46⟩) (by simp only [List.length_set]) ?_
     refine reg_end rfl (wg [0,1,4,5,20,21] [] (reg_in ?_))
     refine sgz 3 3 (S:=⟨(s36_61 s3 a16 s18)++[(41,.fn (.func 97) [] [.ptr 8 0 0,.ptr 9 0 0,.ptr 10 0 0,.ptr 11 0 0,.ptr 7 0 0]),(42,vI s3.1),(43,vI (zw (s3.1+1)))],(s36_62 p0 p2 p3 s18 s3 p1),46⟩) ?_
     refine recI (f:=97) (fn:=Try.f97) (as0:=[vI (zw (s3.1+1)),.ptr 8 0 0,.ptr 9 0 0,.ptr 10 0 0,.ptr 11 0 0,.ptr 7 0 0]) (zw (s3.1+1),s18.2.1,s18.2.2.1,s18.2.2.2.1,(List.set s18.2.2.2.2 (zt s3.1) s18.1)) kr Try.func97 rfl (by decide +kernel) rfl kr rfl i5 h (fun x27 h=>?_)
     refine ⟨⟨(s36_61 s3 a16 s18)++[(41,.fn (.func 97) [] [.ptr 8 0 0,.ptr 9 0 0,.ptr 10 0 0,.ptr 11 0 0,.ptr 7 0 0]),(42,vI s3.1),(43,vI (zw (s3.1+1))),(44,.tup [])],[oX true false 2 (.agg [vI p0.Grain,eL false eTapi_Node p0.Nodes]),oX true true 1 (vI p2),oX true true 4 (.agg [vI p3.Node,vI p3.Row,vI p3.From,vI p3.To]),oX false false 1 (.ref 4 0 x27.1.length),oR true 4 (fun x=>AV.agg [vI x.1,vI x.2.1,vI x.2.2.1,vI x.2.2.2]) x27.1,oX true true 1 (vI x27.2.1),oX true true 1 (vI x27.2.2.1),oX false false 1 (.fn (.func 97) [] [.ptr 8 0 0,.ptr 9 0 0,.ptr 10 0 0,.ptr 11 0 0,.ptr 7 0 0]),oX false false 1 (.ref 12 0 x27.2.2.2.length),oX false false 1 (.fn (.func 73) [] [.ptr 0 0 0,.ptr 2 0 0,.ptr 3 0 0,.ptr 1 0 0,.ptr 5 0 0,.ptr 6 0 0]),oX true false 2 (.agg [vI p0.Grain,eL false eTapi_Node p0.Nodes]),oX true false 1 (z1 p1),oR true 1 eI x27.2.2.2],46⟩,by as_aux_lemma=>kernel_rfl,?_⟩
     refine reg_end rfl (rn ?_)
     cases h
     exact ⟨_,rfl,(wk_gc (live:=[0,1,4,5,20,21]) (keep:=[]) kr)⟩
    refine sz 2 8 ?_
    refine idxL' (enc:=eI) (l:=p1) (n:=s3.1) (fl:=true) (w:=1) (a:=a21) kr rfl gE q22 ?_
    refine sz 4 13 (reg_end rfl ?_)
    refine wbz h (fun q30 h=>?_) (fun q30 h=>?_)
    ·refine wp_seq (wg [0,1,4,5,20,21,7] [] (reg_in (sz 3 3 ?_)))
     refine bind_elim h (fun a31 q32 h=>?_)
     refine idxR' (enc:=eI) (l:=s18.2.2.2.2) (n:=s3.1) (w:=1) (ob:=12) (ro:=false) (nr:=true) (fl:=true) (a:=a31) kr kr gE q32 ?_
     refine storeR (enc:=eI) (l:=s18.2.2.2.2) (n:=s3.1) (ob:=12) (w:=1) (bx:=false) (nr:=true) (fl:=true) (c:=0) (a:=a31) (a':=s18.1) (v:=vI s18.1) false kr kr q32 kr rfl kr gE kr ?_
     refine rknN (n:=s18.2.2.2.2.length) (m:=(List.set s18.2.2.2.2 (zt s3.1) s18.1).length) (S:=fun n34=>⟨[(0,vI s3.1),(1,.ptr 8 0 0),(4,.ptr 11 0 0),(5,.ptr 7 0 0),(20,vI a16.Card),(21,vI s18.1),(7,vI s18.1)]++[(37,.ref 12 0 n34),(38,vI s3.1),(39,vI s18.1),(40,.ptr 12 (zt s3.1) 0)],[oX true false 2 (.agg [vI p0.Grain,eL false eTapi_Node p0.Nodes]),oX true true 1 (vI p2),oX true true 4 (.agg [vI p3.Node,vI p3.Row,vI p3.From,vI p3.To]),oX false false 1 (.ref 4 0 s18.2.1.length),oR true 4 (fun x=>AV.agg [vI x.1,vI x.2.1,vI x.2.2.1,vI x.2.2.2]) s18.2.1,oX true true 1 (vI s18.2.2.1),oX true true 1 (vI s18.2.2.2.1),oX false false 1 (.fn (.func 97) [] [.ptr 8 0 0,.ptr 9 0 0,.ptr 10 0 0,.ptr 11 0 0,.ptr 7 0 0]),oX false false 1 (.ref 12 0 n34),oX false false 1 (.fn (.func 73) [] [.ptr 0 0 0,.ptr 2 0 0,.ptr 3 0 0,.ptr 1 0 0,.ptr 5 0 0,.ptr 6 0 0]),oX true false 2 (.agg [vI p0.Grain,eL false eTapi_Node p0.Nodes]),oX true false 1 (z1 p1),oR true 1 eI (List.set s18.2.2.2.2 (zt s3.1) s18.1)],46⟩) (by simp only [List.length_set]) ?_
     refine reg_end rfl (wg [0,1,4,5,20,21] [] (reg_in ?_))
     refine sgz 3 3 (S:=⟨(s36_61 s3 a16 s18)++[(41,.fn (.func 97) [] [.ptr 8 0 0,.ptr 9 0 0,.ptr 10 0 0,.ptr 11 0 0,.ptr 7 0 0]),(42,vI s3.1),(43,vI (zw (s3.1+1)))],(s36_62 p0 p2 p3 s18 s3 p1),46⟩) ?_
     refine recI (f:=97) (fn:=Try.f97) (as0:=[vI (zw (s3.1+1)),.ptr 8 0 0,.ptr 9 0 0,.ptr 10 0 0,.ptr 11 0 0,.ptr 7 0 0]) (zw (s3.1+1),s18.2.1,s18.2.2.1,s18.2.2.2.1,(List.set s18.2.2.2.2 (zt s3.1) s18.1)) kr Try.func97 rfl (by decide +kernel) rfl kr rfl i5 h (fun x33 h=>?_)
     refine ⟨⟨(s36_61 s3 a16 s18)++[(41,.fn (.func 97) [] [.ptr 8 0 0,.ptr 9 0 0,.ptr 10 0 0,.ptr 11 0 0,.ptr 7 0 0]),(42,vI s3.1),(43,vI (zw (s3.1+1))),(44,.tup [])],[oX true false 2 (.agg [vI p0.Grain,eL false eTapi_Node p0.Nodes]),oX true true 1 (vI p2),oX true true 4 (.agg [vI p3.Node,vI p3.Row,vI p3.From,vI p3.To]),oX false false 1 (.ref 4 0 x33.1.length),oR true 4 (fun x=>AV.agg [vI x.1,vI x.2.1,vI x.2.2.1,vI x.2.2.2]) x33.1,oX true true 1 (vI x33.2.1),oX true true 1 (vI x33.2.2.1),oX false false 1 (.fn (.func 97) [] [.ptr 8 0 0,.ptr 9 0 0,.ptr 10 0 0,.ptr 11 0 0,.ptr 7 0 0]),oX false false 1 (.ref 12 0 x33.2.2.2.length),oX false false 1 (.fn (.func 73) [] [.ptr 0 0 0,.ptr 2 0 0,.ptr 3 0 0,.ptr 1 0 0,.ptr 5 0 0,.ptr 6 0 0]),oX true false 2 (.agg [vI p0.Grain,eL false eTapi_Node p0.Nodes]),oX true false 1 (z1 p1),oR true 1 eI x33.2.2.2],46⟩,by as_aux_lemma=>kernel_rfl,?_⟩
     refine reg_end rfl (rn ?_)
     cases h
     exact ⟨_,rfl,(wk_gc (live:=[0,1,4,5,20,21]) (keep:=[]) kr)⟩
    refine wp_skip (wg [0,1,4,5,20,21] [] (rn ?_))
    cases h
    exact ⟨_,rfl,(wk_gc (live:=[0,1,4,5,20,21]) (keep:=[]) kr)⟩
   refine wcF (wg [] [] ?_)
   refine wp_exit ?_
   cases h
   exact ⟨kr,rfl⟩
  intro x36 h out hx
  subst hx
  cases h
  refine ⟨⟨[],(s36_63 p0 p2 p3 x36 p1),46⟩,(wk_gc (live:=[]) (keep:=[]) (st':=⟨[],(s36_63 p0 p2 p3 x36 p1),46⟩) (by kernel_rfl)),?_⟩
  exact .inr (by kernel_rfl)
 refine ⟨⟨[(7,.ptr 7 0 0),(13,.fn (.func 97) [] [.ptr 8 0 0,.ptr 9 0 0,.ptr 10 0 0,.ptr 11 0 0,.ptr 7 0 0]),(14,.tup [])],(s36_113 p0 p2 p3 x37 p1),15⟩,by as_aux_lemma=>kernel_rfl,?_⟩
 refine reg_end rfl ?_
 refine ⟨⟨[(1,z1 p1),(4,.ptr 0 0 0),(6,.ptr 1 0 0),(7,.ptr 2 0 0),(9,.ptr 3 0 0),(10,.ptr 5 0 0),(11,.ptr 6 0 0),(20,.agg [vI p0.Grain,eL false eTapi_Node p0.Nodes]),(21,z1 p1),(22,.fn (.func 73) [] [.ptr 0 0 0,.ptr 2 0 0,.ptr 3 0 0,.ptr 1 0 0,.ptr 5 0 0,.ptr 6 0 0])]++[(23,.tup [])],(s36_113 p0 p2 p3 x37 p1),41⟩,by as_aux_lemma=>kernel_rfl,?_⟩
 refine reg_end rfl (wp_seq (wp_seq (wg [9,10,11] [3,5,6,4] (rn (wp_block ?_)))))
 refine wwh h (fun s39=>⟨(s36_93 x37 s39),(s36_96 s39 x37),41⟩) (fun v out=>out=.go (.exit 0) ⟨[(9,.ptr 0 0 0)],[oX false false 1 (.ref 1 0 v.length),oR true 4 (fun x=>AV.agg [vI x.1,vI x.2.1,vI x.2.2.1,vI x.2.2.2]) v],41⟩) (wk_gc (live:=[9,10,11,25,26]) (keep:=[0,1,2,3]) kr) ?_ ?_
 ·intro s39 o h
  unfold g_sensitive_lines_b2 at h
  refine sq (wp_seq ?_)
  refine wb [27] h (fun q41 h=>?_) (fun q41 h=>?_)
  ·refine wcT (wp_skip (wp_seq (wp_block ?_)))
   refine sqN (S:=⟨(s36_93 x37 s39)++[(27,vB true),(28,vI s39.1),(12,vI s39.1)],(s36_96 s39 x37),41⟩) ?_
   refine reg_pair (p:=8) (q:=9) (ob:=3) (pre:=[0,1,2,3,4,5,6,7]) (post:=[10,11]) (orL hfol) kr ?_
   refine sy 6 8 ?_
   refine bind_elim h (fun a42 q43 h=>?_)
   refine idxR' (enc:=(fun x=>AV.agg [vI x.1,vI x.2.1,vI x.2.2.1,vI x.2.2.2])) (l:=s39.2) (n:=s39.1) (w:=4) (ob:=3) (ro:=false) (nr:=true) (fl:=true) (a:=a42) kr kr gE q43 ?_
   refine sgy 1 10 (S:=⟨(s36_108 x37 s39),(s36_96 s39 x37),41⟩) ?_
   refine rgd ?_
   refine ⟨_,⟨(s36_104 x37 s39),(s36_105 s39 x37 a42),41⟩,rfl,rfl,tail_of (enc:=(fun x=>AV.agg [vI x.1,vI x.2.1,vI x.2.2.1,vI x.2.2.2])) (l:=s39.2) (n:=s39.1) (m:=s39.1) (w:=4) (ob:=3) (p:=8) (q:=9) (c:=2) (fl:=true) (a:=a42) (a1:=(a42.1,a42.2.1,x37.2.1,a42.2.2.2)) (b:=a42) (v:=vI x37.2.1) (Sa:=⟨(s36_108 x37 s39),(s36_105 s39 x37 a42),41⟩) (Sb:=⟨(s36_104 x37 s39),(s36_96 s39 x37),41⟩) kr kr q43 q43 kr kr kr kr kr kr kr kr kr kr kr kr kr kr kr kr kr,?_⟩
   refine rknN (n:=s39.2.length) (m:=(List.set s39.2 (zt s39.1) (a42.1,a42.2.1,x37.2.1,a42.2.2.2)).length) (S:=fun n45=>⟨(s36_93 x37 s39)++[(27,vB true),(28,vI s39.1),(12,vI s39.1),(29,.ref 3 0 n45),(30,vI s39.1),(31,.ref 3 0 n45),(32,vI s39.1),(33,vI x37.2.1),(34,vI x37.2.2.1),(35,.ptr 3 (zt s39.1) 0),(36,.ptr 3 (zt s39.1) 2),(37,.ptr 3 (zt s39.1) 0)],[oX false false 1 (.ref 3 0 n45),oX true true 1 (vI x37.2.1),oX true true 1 (vI x37.2.2.1),oR true 4 (fun x=>AV.agg [vI x.1,vI x.2.1,vI x.2.2.1,vI x.2.2.2]) (List.set s39.2 (zt s39.1) (a42.1,a42.2.1,x37.2.1,a42.2.2.2))],41⟩) (by simp only [List.length_set]) ?_
   refine sy 1 2 ?_
   refine storeR (enc:=(fun x=>AV.agg [vI x.1,vI x.2.1,vI x.2.2.1,vI x.2.2.2])) (l:=(List.set s39.2 (zt s39.1) (a42.1,a42.2.1,x37.2.1,a42.2.2.2))) (n:=s39.1) (ob:=3) (w:=4) (bx:=false) (nr:=true) (fl:=true) (c:=3) (a:=(a42.1,a42.2.1,x37.2.1,a42.2.2.2)) (a':=((a42.1,a42.2.1,x37.2.1,a42.2.2.2).1,(a42.1,a42.2.1,x37.2.1,a42.2.2.2).2.1,(a42.1,a42.2.1,x37.2.1,a42.2.2.2).2.2.1,x37.2.2.1)) (v:=vI x37.2.2.1) false kr kr (lkI_set (a42.1,a42.2.1,x37.2.1,a42.2.2.2) q43) kr rfl kr gE kr ?_
   refine rknN (n:=(List.set s39.2 (zt s39.1) (a42.1,a42.2.1,x37.2.1,a42.2.2.2)).length) (m:=(List.set (List.set s39.2 (zt s39.1) (a42.1,a42.2.1,x37.2.1,a42.2.2.2)) (zt s39.1) ((a42.1,a42.2.1,x37.2.1,a42.2.2.2).1,(a42.1,a42.2.1,x37.2.1,a42.2.2.2).2.1,(a42.1,a42.2.1,x37.2.1,a42.2.2.2).2.2.1,x37.2.2.1)).length) (S:=fun n44=>⟨(s36_93 x37 s39)++[(27,vB true),(28,vI s39.1),(12,vI s39.1),(29,.ref 3 0 n44),(30,vI s39.1),(31,.ref 3 0 n44),(32,vI s39.1),(33,vI x37.2.1),(34,vI x37.2.2.1),(35,.ptr 3 (zt s39.1) 0),(36,.ptr 3 (zt s39.1) 2),(37,.ptr 3 (zt s39.1) 0),(38,.ptr 3 (zt s39.1) 3)],[oX false false 1 (.ref 3 0 n44),oX true true 1 (vI x37.2.1),oX true true 1 (vI x37.2.2.1),oR true 4 (fun x=>AV.agg [vI x.1,vI x.2.1,vI x.2.2.1,vI x.2.2.2]) (List.set (List.set s39.2 (zt s39.1) (a42.1,a42.2.1,x37.2.1,a42.2.2.2)) (zt s39.1) ((a42.1,a42.2.1,x37.2.1,a42.2.2.2).1,(a42.1,a42.2.1,x37.2.1,a42.2.2.2).2.1,(a42.1,a42.2.1,x37.2.1,a42.2.2.2).2.2.1,x37.2.2.1))],41⟩) (by simp only [List.length_set]) ?_
   refine rgd ?_
   refine ⟨_,rfl,rfl,?_⟩
   refine wg [9,10,11,25,26] [0,1,2,3] (rn ?_)
   cases h
   exact ⟨_,rfl,(wk_gc (live:=[9,10,11,25,26]) (keep:=[0,1,2,3]) kr)⟩
  refine wcF (wg [9] [0,3] ?_)
  refine wp_exit ?_
  cases h
  exact ⟨kr,rfl⟩
 intro x47 h out hx
 subst hx
 refine sq (wg [8] [1] ?_)
 cases h
 exact wp_ret (show fnOut _ _ _ _=_ from by kernel_rfl)
theorem g_sensitive_Line_ok (p0:Tapi_Net) (p1:(List Int)) (p2:Int) (p3:Int) (p4:Tapi_Shift) (x:((Int × Int × Int × Int) × Int)) (h:g_sensitive_Line p0 p1 p2 p3 p4=some x):CallOk Try.prog 12 [.agg [vI p0.Grain,eL false eTapi_Node p0.Nodes],z1 p1,vI p2,vI p3,.agg [vI p4.Node,vI p4.Row,vI p4.From,vI p4.To]] (.ret (.tup [.agg [vI x.1.1,vI x.1.2.1,vI x.1.2.2.1,vI x.1.2.2.2],vI x.2]) []):=by
 refine fn_ok [] Try.func12 rfl (by decide +kernel) rfl ?_
 unfold g_sensitive_Line at h
 refine wp_eqB (base':=0) (st':=⟨[(0,.agg [vI p0.Grain,eL false eTapi_Node p0.Nodes]),(1,z1 p1),(2,vI p2),(3,vI p3),(4,.agg [vI p4.Node,vI p4.Row,vI p4.From,vI p4.To])],[],32⟩) kr kr ?_
 refine wp_seq (reg_in ?_)
 refine sgL false [] [] false gE ?_
 refine sz 3 4 (reg_end rfl (wp_seq (wp_seq (reg_in (sz 5 5 ?_)))))
 refine sgL false [] [] true gE ?_
 refine callR (as0:=[.agg [vI p0.Grain,eL false eTapi_Node p0.Nodes],z1 p1,vI p2,.agg [vI p4.Node,vI p4.Row,vI p4.From,vI p4.To],.ref 3 0 1]) (ids:=[3]) kr bodyB_35 (msnap_cons (snap_agg (msnap_cons rfl (msnap_cons rfl msnap_nil (by rfl)) (by rfl))) (msnap_cons rfl (msnap_cons rfl (msnap_cons (snap_agg (msnap_cons rfl (msnap_cons rfl (msnap_cons rfl (msnap_cons rfl msnap_nil (by rfl)) (by rfl)) (by rfl)) (by rfl))) (msnap_cons (show snap _ _ _=some (_,[3]) from kr) msnap_nil (by rfl)) (by rfl)) (by rfl)) (by rfl)) (by rfl)) (fun x1 q2=>g_sensitive_check_ok p0 p1 p2 p4 [p3] x1 q2) gF h (fun x1 q2 h=>?_)
 refine sz 1 8 (reg_end rfl (wp_seq ?_))
 refine wgc [1,2,3,5,9,10,12] [0,1,2] ⟨[(1,z1 p1),(2,vI p2),(3,vI p3),(5,.ptr 0 0 0),(9,.ptr 1 0 0),(10,.ptr 2 0 0),(12,vI x1)],[oX true false 2 (.agg [vI p0.Grain,eL false eTapi_Node p0.Nodes]),oX true true 4 (.agg [vI p4.Node,vI p4.Row,vI p4.From,vI p4.To]),oX true true 4 (.agg [vI 0,vI 0,vI 0,vI 0])],32⟩ ?_
 refine rn ?_
 refine wb [21] h (fun q4 h=>?_) (fun q4 h=>?_)
 ·refine wcT (wp_seq (wg [10,12] [2] (rn (wg [10,11] [0] ?_))))
  cases h
  exact wp_ret (show fnOut _ _ _ _=_ from by kernel_rfl)
 refine wcF (wp_skip (wp_seq (reg_in (sz 4 4 ?_))))
 refine callW bodyB_36 (g_sensitive_lines_ok p0 p1 p2 p4) h (fun x5 _ h=>?_)
 refine sz 1 6 ?_
 refine bind_elim h (fun a7 q8 h=>?_)
 refine idxR' (enc:=(fun x=>AV.agg [vI x.1,vI x.2.1,vI x.2.2.1,vI x.2.2.2])) (l:=x5) (n:=p3) (w:=4) (ob:=3) (ro:=false) (nr:=true) (fl:=true) (a:=a7) kr kr gE q8 ?_
 refine loadR (enc:=(fun x=>AV.agg [vI x.1,vI x.2.1,vI x.2.2.1,vI x.2.2.2])) (l:=x5) (n:=p3) (w:=4) (ob:=3) (c:=0) (bx:=false) (ro:=false) (nr:=true) (fl:=true) (a:=a7) kr kr q8 gE ?_
 refine sz 2 10 (reg_end rfl ?_)
 refine wgc [10,11] [2] ⟨[(10,.ptr 0 0 0),(11,vI 0)],[oX true true 4 (.agg [vI a7.1,vI a7.2.1,vI a7.2.2.1,vI a7.2.2.2])],32⟩ ?_
 cases h
 exact wp_ret (show fnOut _ _ _ _=_ from by kernel_rfl)
theorem g_frac_common_ok (p0:Int) (p1:Int) (x:Int) (h:g_frac_common p0 p1=some x):CallOk Try.prog 84 [.int .u64 p0,.int .u64 p1] (.ret (.int .u64 x) []):=by
 refine fn_ok [] Try.func84 rfl (by decide +kernel) rfl ?_
 unfold g_frac_common at h
 refine wp_eqB (base':=0) (st':=⟨[(0,.int .u64 p0),(1,.int .u64 p1)],[],12⟩) kr kr ?_
 refine sq (wp_seq (wp_block ?_))
 refine wwh h (fun s1=>⟨[(0,.int .u64 s1.1),(1,.int .u64 s1.2)],[],12⟩) (fun v out=>out=.go (.exit 0) ⟨[(0,.int .u64 v)],[],12⟩) (wk_gc (live:=[0,1]) (keep:=[]) kr) ?_ ?_
 ·intro s1 o h
  unfold g_frac_common_b0 at h
  refine wp_seq (sq ?_)
  refine wb [6] h (fun q3 h=>?_) (fun q3 h=>?_)
  ·refine wcT (wp_skip (wp_block (rga hfol (sy 3 3 ?_))))
   refine remR (k:=.u64) (a:=s1.1) (b:=s1.2) kr gE h (fun h=>?_)
   refine sy 2 6 (rgd ?_)
   cases h
   exact ⟨_,rfl,(wk_gc (live:=[0,1]) (keep:=[]) kr)⟩
  refine wcF (wg [0] [] ?_)
  refine wp_exit ?_
  cases h
  exact ⟨kr,rfl⟩
 intro x5 h out hx
 subst hx
 refine sq (wg [4] [] ?_)
 cases h
 exact wp_ret (show fnOut _ _ _ _=_ from by kernel_rfl)
theorem g_frac_size_ok (p0:Int) (x:Int) (h:g_frac_size p0=some x):CallOk Try.prog 85 [vI p0] (.ret (.int .u64 x) []):=by
 refine fn_ok [] Try.func85 rfl (by decide +kernel) rfl ?_
 unfold g_frac_size at h
 refine wp_eqB (base':=0) (st':=⟨[(0,vI p0)],[],10⟩) kr kr ?_
 refine sq (wp_seq (sq ?_))
 refine wb [4] h (fun q2 h=>?_) (fun q2 h=>?_)
 ·refine wcT (sq (wg [2] [] ?_))
  cases h
  exact wp_ret (show fnOut _ _ _ _=_ from by kernel_rfl)
 refine wcF (wp_skip (sq (wg [2] [] ?_)))
 cases h
 exact wp_ret (show fnOut _ _ _ _=_ from by kernel_rfl)
theorem g_frac_Check_ok (p0:Tapi_Q) (x:Int) (h:g_frac_Check p0=some x):CallOk Try.prog 81 [.agg [vI p0.N,vI p0.D]] (.ret (vI x) []):=by
 refine fn_ok [] Try.func81 rfl (by decide +kernel) rfl ?_
 unfold g_frac_Check at h
 refine wp_eqB (base':=0) (st':=⟨[(0,.agg [vI p0.N,vI p0.D])],[],29⟩) kr kr ?_
 refine sq (wp_seq (wp_seq (reg_in (sz 4 4 (rwg [1,6] [0] ?_)))))
 refine rb [6] h (fun q2 h=>?_) (fun q2 h=>?_)
 ·refine sz 14 18 (reg_end rfl (wcT (wp_seq ?_)))
  refine wgc [] [] ⟨[],[],29⟩ ?_
  refine rn (wg [2] [] ?_)
  cases h
  exact wp_ret (show fnOut _ _ _ _=_ from by kernel_rfl)
 refine sz 5 9 (rwg [1,11] [0] ?_)
 refine rb [11] h (fun q4 h=>?_) (fun q4 h=>?_)
 ·refine sz 9 18 (reg_end rfl (wcT (wp_seq ?_)))
  refine wgc [] [] ⟨[],[],29⟩ ?_
  refine rn (wg [2] [] ?_)
  cases h
  exact wp_ret (show fnOut _ _ _ _=_ from by kernel_rfl)
 refine sz 5 14 ?_
 refine rw_wk (wk_gc (live:=[1,16]) (keep:=[0]) (st':=⟨[(1,.ptr 0 0 0),(16,vB (decide (p0.N < (-4611686018427387903))))],[oX true true 2 (.agg [vI p0.N,vI p0.D])],29⟩) kr) ?_
 refine rb [16] h (fun q6 h=>?_) (fun q6 h=>?_)
 ·refine sz 4 18 (reg_end rfl (wcT (wp_seq (wg [] [] (rn (wg [2] [] ?_))))))
  cases h
  exact wp_ret (show fnOut _ _ _ _=_ from by kernel_rfl)
 refine sz 4 18 (reg_end rfl ?_)
 refine wbz h (fun q8 h=>?_) (fun q8 h=>?_)
 ·refine wp_seq (wg [] [] (rn (wg [2] [] ?_)))
  cases h
  exact wp_ret (show fnOut _ _ _ _=_ from by kernel_rfl)
 refine wp_skip (wp_seq (wp_seq (wg [1] [0] (rga hfol (sy 2 2 ?_)))))
 refine callW bodyB_85 (g_frac_size_ok p0.N) h (fun x9 _ h=>?_)
 refine sy 3 6 ?_
 refine callW bodyB_84 (g_frac_common_ok x9 (zv (p0.D))) h (fun x11 _ h=>?_)
 refine sy 1 8 (rgd ?_)
 refine wbz h (fun q14 h=>?_) (fun q14 h=>?_)
 ·refine wp_seq ?_
  refine wgc [] [] ⟨[],[],29⟩ ?_
  refine rn (wg [2] [] ?_)
  cases h
  exact wp_ret (show fnOut _ _ _ _=_ from by kernel_rfl)
 refine wp_skip (wp_seq ?_)
 refine wgc [] [] ⟨[],[],29⟩ ?_
 refine rn (wg [2] [] ?_)
 cases h
 exact wp_ret (show fnOut _ _ _ _=_ from by kernel_rfl)
theorem g_sensitive_checkSmall_ok (p0:Tapi_Q) (x:Int) (h:g_sensitive_checkSmall p0=some x):CallOk Try.prog 49 [.agg [vI p0.N,vI p0.D]] (.ret (vI x) []):=by
 refine fn_ok [] Try.func49 rfl (by decide +kernel) rfl ?_
 unfold g_sensitive_checkSmall at h
 refine wp_eqB (base':=0) (st':=⟨[(0,.agg [vI p0.N,vI p0.D])],[],22⟩) kr kr ?_
 refine sq (wp_seq (wp_seq (reg_in (sz 1 1 ?_))))
 refine callW bodyB_81 (g_frac_Check_ok p0) h (fun x1 _ h=>?_)
 refine sz 1 3 (reg_end rfl (sq ?_))
 refine wbz h (fun q4 h=>?_) (fun q4 h=>?_)
 ·refine wp_seq (wg [3] [] (rn ?_))
  refine wgc [2] [] ⟨[(2,vI x1)],[],22⟩ ?_
  cases h
  exact wp_ret (show fnOut _ _ _ _=_ from by kernel_rfl)
 refine wp_skip (wp_seq (wp_seq ?_))
 refine wgc [1] [0] ⟨[(1,.ptr 0 0 0)],[oX true true 2 (.agg [vI p0.N,vI p0.D])],22⟩ ?_
 refine reg_in (sz 4 4 ?_)
 refine rb [11,12] h (fun q6 h=>?_) (fun q6 h=>?_)
 ·refine sz 9 13 (reg_end rfl (wcT (wp_seq (wg [] [] (rn ?_)))))
  refine wgc [2] [] ⟨[(2,vI 2)],[],22⟩ ?_
  cases h
  exact wp_ret (show fnOut _ _ _ _=_ from by kernel_rfl)
 refine sz 5 9 (rwg [1,17] [0] ?_)
 refine rb [17] h (fun q8 h=>?_) (fun q8 h=>?_)
 ·refine sz 4 13 (reg_end rfl (wcT (wp_seq ?_)))
  refine wgc [] [] ⟨[],[],22⟩ ?_
  refine rn (wg [2] [] ?_)
  cases h
  exact wp_ret (show fnOut _ _ _ _=_ from by kernel_rfl)
 refine sz 4 13 (reg_end rfl ?_)
 refine wbz h (fun q10 h=>?_) (fun q10 h=>?_)
 ·refine wp_seq ?_
  refine wgc [] [] ⟨[],[],22⟩ ?_
  refine rn (wg [2] [] ?_)
  cases h
  exact wp_ret (show fnOut _ _ _ _=_ from by kernel_rfl)
 refine wp_skip (wp_seq ?_)
 refine wgc [] [] ⟨[],[],22⟩ ?_
 refine rn (wg [2] [] ?_)
 cases h
 exact wp_ret (show fnOut _ _ _ _=_ from by kernel_rfl)
theorem g_sensitive_ends_ok (p0:Tapi_Net) (p1:Tapi_Shift) (x:(Int × Int)) (h:g_sensitive_ends p0 p1=some x):CallOk Try.prog 50 [.agg [vI p0.Grain,eL false eTapi_Node p0.Nodes],.agg [vI p1.Node,vI p1.Row,vI p1.From,vI p1.To]] (.ret (.tup [vI x.1,vI x.2]) []):=by
 refine fn_ok [] Try.func50 rfl (by decide +kernel) rfl ?_
 unfold g_sensitive_ends at h
 refine wp_eqB (base':=0) (st':=⟨[(0,.agg [vI p0.Grain,eL false eTapi_Node p0.Nodes]),(1,.agg [vI p1.Node,vI p1.Row,vI p1.From,vI p1.To])],[],29⟩) kr kr ?_
 refine wp_seq (reg_in ?_)
 refine sgL false [] [] false gE ?_
 refine sz 3 4 (reg_end rfl (wp_seq (rga hfol (sy 4 4 ?_))))
 refine bind_elim h (fun a1 q2 h=>?_)
 refine idxL' (enc:=eTapi_Node) (l:=p0.Nodes) (n:=p1.Node) (fl:=false) (w:=3) (a:=a1) kr rfl gE q2 ?_
 refine sy 4 9 ?_
 refine bind_elim h (fun a3 q4 h=>?_)
 refine idxL' (enc:=z1) (l:=a1.Rows) (n:=p1.Row) (fl:=false) (w:=1) (a:=a3) kr rfl gE q4 ?_
 refine sy 2 12 (rgd (wp_seq ?_))
 refine wgc [3,6] [1] ⟨[(3,.ptr 0 0 0),(6,z1 a3)],[oX true true 4 (.agg [vI p1.Node,vI p1.Row,vI p1.From,vI p1.To])],29⟩ ?_
 refine rga hfol (sy 3 3 ?_)
 refine bind_elim h (fun a5 q6 h=>?_)
 refine idxL' (enc:=eI) (l:=a3) (n:=p1.To) (fl:=true) (w:=1) (a:=a5) kr rfl gE q6 ?_
 refine sy 5 9 ?_
 refine bind_elim h (fun a7 q8 h=>?_)
 refine idxL' (enc:=eI) (l:=a3) (n:=p1.From) (fl:=true) (w:=1) (a:=a7) kr rfl gE q8 ?_
 refine sy 3 13 (rgd (wg [4,5] [] ?_))
 cases h
 exact wp_ret (show fnOut _ _ _ _=_ from by kernel_rfl)
theorem g_frac_fit_ok (p0:Bool) (p1:(Int × Int)) (p2:(Int × Int)) (x:Tapi_Q) (h:g_frac_fit p0 p1 p2=some x):CallOk Try.prog 86 [vB p0,.agg [.int .u64 p1.1,.int .u64 p1.2],.agg [.int .u64 p2.1,.int .u64 p2.2]] (.ret (.agg [vI x.N,vI x.D]) []):=by
 refine fn_ok [] Try.func86 rfl (by decide +kernel) rfl ?_
 unfold g_frac_fit at h
 refine wp_eqB (base':=0) (st':=⟨[(0,vB p0),(1,.agg [.int .u64 p1.1,.int .u64 p1.2]),(2,.agg [.int .u64 p2.1,.int .u64 p2.2])],[],43⟩) kr kr ?_
 refine sq (wp_seq (wp_seq (reg_in (sz 4 4 (rwg [0,4,5,6,10] [0,1,2] ?_)))))
 refine rb [10] h (fun q2 h=>?_) (fun q2 h=>?_)
 ·refine sz 14 18 (reg_end rfl (wcT ?_))
  refine wgc [0,4,5,6] [0,1,2] ⟨[(0,vB p0),(4,.ptr 0 0 0),(5,.ptr 1 0 0),(6,.ptr 2 0 0)],[oX true true 2 (.agg [.int .u64 p1.1,.int .u64 p1.2]),oX true true 2 (.agg [.int .u64 p2.1,.int .u64 p2.2]),oX true true 2 (.agg [vI 0,vI 0])],43⟩ ?_
  refine reg_in ?_
  cases h
 refine sz 5 9 (rwg [0,4,5,6,15] [0,1,2] ?_)
 refine rb [15] h (fun q4 h=>?_) (fun q4 h=>?_)
 ·refine sz 9 18 (reg_end rfl (wcT ?_))
  refine wgc [0,4,5,6] [0,1,2] ⟨[(0,vB p0),(4,.ptr 0 0 0),(5,.ptr 1 0 0),(6,.ptr 2 0 0)],[oX true true 2 (.agg [.int .u64 p1.1,.int .u64 p1.2]),oX true true 2 (.agg [.int .u64 p2.1,.int .u64 p2.2]),oX true true 2 (.agg [vI 0,vI 0])],43⟩ ?_
  refine reg_in ?_
  cases h
 refine sz 5 14 ?_
 refine rw_wk (wk_gc (live:=[0,4,5,6,20]) (keep:=[0,1,2]) (st':=⟨[(0,vB p0),(4,.ptr 0 0 0),(5,.ptr 1 0 0),(6,.ptr 2 0 0),(20,vB (p2.1 != 0))],[oX true true 2 (.agg [.int .u64 p1.1,.int .u64 p1.2]),oX true true 2 (.agg [.int .u64 p2.1,.int .u64 p2.2]),oX true true 2 (.agg [vI 0,vI 0])],43⟩) kr) ?_
 refine rb [20] h (fun q6 h=>?_) (fun q6 h=>?_)
 ·refine sz 4 18 (reg_end rfl (wcT (wg [0,4,5,6] [0,1,2] (reg_in ?_))))
  cases h
 refine sz 4 18 (reg_end rfl ?_)
 refine wbz h (fun q8 h=>?_) (fun q8 h=>?_)
 ·refine wgc [0,4,5,6] [0,1,2] ⟨[(0,vB p0),(4,.ptr 0 0 0),(5,.ptr 1 0 0),(6,.ptr 2 0 0)],[oX true true 2 (.agg [.int .u64 p1.1,.int .u64 p1.2]),oX true true 2 (.agg [.int .u64 p2.1,.int .u64 p2.2]),oX true true 2 (.agg [vI 0,vI 0])],43⟩ ?_
  refine reg_in ?_
  cases h
 refine wp_skip (wp_seq (wp_seq (wg [0,4,5,6] [0,1,2] (rn ?_))))
 refine wb [0,27] h (fun q10 h=>?_) (fun q10 h=>?_)
 ·refine wcT (sq ?_)
  refine wgc [6] [2] ⟨[(6,.ptr 0 0 0)],[oX true true 2 (.agg [vI (zw (0 - (zw (p1.2)))),vI (zw (p2.2))])],43⟩ ?_
  cases h
  exact wp_ret (show fnOut _ _ _ _=_ from by kernel_rfl)
 refine wcF (wp_skip (sq ?_))
 refine wgc [6] [2] ⟨[(6,.ptr 0 0 0)],[oX true true 2 (.agg [vI (zw (p1.2)),vI (zw (p2.2))])],43⟩ ?_
 cases h
 exact wp_ret (show fnOut _ _ _ _=_ from by kernel_rfl)
theorem g_frac_Make_1_k0_ok (c0:Int) (c1:Int) (x:Tapi_Q) (h:g_frac_Make_1_k0 c0 c1=some x):CallOk Try.prog 83 [.fz [vI c0],.fz [vI c1]] (.ret (.agg [vI x.N,vI x.D]) []):=by
 refine fn_ok [] Try.func83 rfl (by decide +kernel) rfl ?_
 unfold g_frac_Make_1_k0 at h
 refine wp_eqB (base':=0) (st':=⟨[(0,.fz [vI c0]),(1,.fz [vI c1])],[],25⟩) kr kr ?_
 refine sq (wp_seq (rga hfol (sy 1 1 ?_)))
 refine callW bodyB_85 (g_frac_size_ok c0) h (fun x1 _ h=>?_)
 refine sy 1 3 ?_
 refine callW bodyB_85 (g_frac_size_ok c1) h (fun x3 _ h=>?_)
 refine callW bodyB_84 (g_frac_common_ok x1 x3) h (fun x5 _ h=>?_)
 refine sy 1 6 (rgd (wp_seq (wg [0,1,2,3] [0] (rga hfol (sy 6 6 ?_)))))
 refine callW bodyB_85 (g_frac_size_ok c0) h (fun x7 _ h=>?_)
 refine sy 1 8 ?_
 refine quoR (k:=.u64) (a:=x7) (b:=x5) kr gE h (fun h=>?_)
 refine sy 2 11 ?_
 refine callW bodyB_85 (g_frac_size_ok c1) h (fun x9 _ h=>?_)
 refine sy 1 13 ?_
 refine quoR (k:=.u64) (a:=x9) (b:=x5) kr gE h (fun h=>?_)
 refine sy 1 15 ?_
 refine callW bodyB_86 (g_frac_fit_ok (!((decide (c0 < 0))==(decide (c1 < 0)))) (0,zv (Int.tdiv x7 x5)) (0,zv (Int.tdiv x9 x5))) h (fun x11 _ h=>?_)
 refine sy 1 17 (rgd ?_)
 refine wgc [2] [0] ⟨[(2,.ptr 0 0 0)],[oX true true 2 (.agg [vI x11.N,vI x11.D])],25⟩ ?_
 cases h
 exact wp_ret (show fnOut _ _ _ _=_ from by kernel_rfl)
theorem g_frac_Make_ok (p0:Int) (p1:Int) (x:(Tapi_Q × Int)) (h:g_frac_Make p0 p1=some x):CallOk Try.prog 51 [vI p0,vI p1] (.ret (.tup [.agg [vI x.1.N,vI x.1.D],vI x.2]) []):=by
 refine fn_ok [] Try.func51 rfl (by decide +kernel) rfl ?_
 unfold g_frac_Make at h
 refine wp_eqB (base':=0) (st':=⟨[(0,vI p0),(1,vI p1)],[],13⟩) kr kr ?_
 refine sq (wp_seq (sq ?_))
 refine wbz h (fun q2 h=>?_) (fun q2 h=>?_)
 ·refine wp_seq (wg [4] [2] (rn (wg [4,5] [0] ?_)))
  cases h
  exact wp_ret (show fnOut _ _ _ _=_ from by kernel_rfl)
 refine wp_skip (wp_seq (wg [2,3,4] [0,1,2] (reg_in ?_)))
 refine sgz 1 1 (S:=⟨[(2,.ptr 0 0 0),(3,.ptr 1 0 0),(4,.ptr 2 0 0),(9,.fn (.func 83) [] [.ptr 0 0 0,.ptr 1 0 0])],[oX true true 1 (vI p0),oX true true 1 (vI p1),oX true true 2 (.agg [vI 0,vI 0])],13⟩) ?_
 refine callR (as0:=[.fn (.func 83) [] [.ptr 0 0 0,.ptr 1 0 0]]) (ids:=[0,1]) kr bodyB_82 (msnap_cons (snap_fn msnap_nil (msnap_cons (snap_ptr rfl (msnap_cons rfl msnap_nil (by rfl)) (by rfl) (by rfl)) (msnap_cons (snap_ptr rfl (msnap_cons rfl msnap_nil (by rfl)) (by rfl) (by rfl)) msnap_nil (by rfl)) (by rfl)) (by rfl)) msnap_nil (by rfl)) (fun x3 q4=>guardQ_ok guard_82 Try.func83 rfl (by decide +kernel) (g_frac_Make_1_k0_ok p0 p1 x3 q4)) gF h (fun x3 q4 h=>?_)
 refine sz 4 6 (reg_end rfl (wg [4,5] [2] ?_))
 cases h
 exact wp_ret (show fnOut _ _ _ _=_ from by kernel_rfl)
noncomputable abbrev s16_7 (p5:Tapi_Q) (x1:((Int × Int × Int × Int) × Int)):List AObj:=[oX true true 2 (.agg [vI p5.N,vI p5.D]),oX true true 2 (.agg [vI 0,vI 0]),oX true true 4 (.agg [vI x1.1.1,vI x1.1.2.1,vI x1.1.2.2.1,vI x1.1.2.2.2])]
theorem g_sensitive_At_ok (p0:Tapi_Net) (p1:(List Int)) (p2:Int) (p3:Int) (p4:Tapi_Shift) (p5:Tapi_Q) (x:(Tapi_Q × Int)) (h:g_sensitive_At p0 p1 p2 p3 p4 p5=some x):CallOk Try.prog 16 [.agg [vI p0.Grain,eL false eTapi_Node p0.Nodes],z1 p1,vI p2,vI p3,.agg [vI p4.Node,vI p4.Row,vI p4.From,vI p4.To],.agg [vI p5.N,vI p5.D]] (.ret (.tup [.agg [vI x.1.N,vI x.1.D],vI x.2]) []):=by
 refine fn_ok [] Try.func16 rfl (by decide +kernel) rfl ?_
 unfold g_sensitive_At at h
 refine wp_eqB (base':=0) (st':=⟨[(0,.agg [vI p0.Grain,eL false eTapi_Node p0.Nodes]),(1,z1 p1),(2,vI p2),(3,vI p3),(4,.agg [vI p4.Node,vI p4.Row,vI p4.From,vI p4.To]),(5,.agg [vI p5.N,vI p5.D])],[],91⟩) kr kr ?_
 refine wp_seq (reg_in ?_)
 refine sgL false [] [] false gE ?_
 refine sz 4 5 (reg_end rfl (wp_seq (reg_in (sz 5 5 ?_))))
 refine callW bodyB_12 (g_sensitive_Line_ok p0 p1 p2 p3 p4) h (fun x1 _ h=>?_)
 refine sz 6 12 (reg_end rfl (wp_seq (wp_seq ?_)))
 refine wgc [6,10,11,12,14,15] [0,1,2,3,4] ⟨[(6,.ptr 0 0 0),(10,.ptr 1 0 0),(11,.ptr 2 0 0),(12,.ptr 3 0 0),(14,.ptr 4 0 0),(15,vI x1.2)],[oX true false 2 (.agg [vI p0.Grain,eL false eTapi_Node p0.Nodes]),oX true true 4 (.agg [vI p4.Node,vI p4.Row,vI p4.From,vI p4.To]),oX true true 2 (.agg [vI p5.N,vI p5.D]),oX true true 2 (.agg [vI 0,vI 0]),oX true true 4 (.agg [vI x1.1.1,vI x1.1.2.1,vI x1.1.2.2.1,vI x1.1.2.2.2])],91⟩ ?_
 refine rn ?_
 refine wb [30] h (fun q4 h=>?_) (fun q4 h=>?_)
 ·refine wcT (wp_seq (wg [12,15] [3] (rn (wg [12,13] [0] ?_))))
  cases h
  exact wp_ret (show fnOut _ _ _ _=_ from by kernel_rfl)
 refine wcF (wp_skip (wp_seq (wp_seq (reg_in (sz 1 1 ?_)))))
 refine callW bodyB_49 (g_sensitive_checkSmall_ok p5) h (fun x5 _ h=>?_)
 refine sz 1 3 (reg_end rfl (wp_seq (wg [6,10,11,12,14,16] [0,1,2,3,4] (rn ?_))))
 refine wb [36] h (fun q8 h=>?_) (fun q8 h=>?_)
 ·refine wcT (wp_seq ?_)
  refine wgc [12,16] [3] ⟨[(12,.ptr 0 0 0),(16,vI x5)],[oX true true 2 (.agg [vI 0,vI 0])],91⟩ ?_
  refine rn (wg [12,13] [0] ?_)
  cases h
  exact wp_ret (show fnOut _ _ _ _=_ from by kernel_rfl)
 refine wcF (wp_skip (wp_seq (reg_in (sz 2 2 ?_))))
 refine callW bodyB_50 (g_sensitive_ends_ok p0 p4) h (fun x9 _ h=>?_)
 refine sz 5 8 (reg_end rfl (wp_seq (wp_seq ?_)))
 refine wgc [11,12,14,17,18] [2,3,4] ⟨[(11,.ptr 0 0 0),(12,.ptr 1 0 0),(14,.ptr 2 0 0),(17,vI x9.1),(18,vI x9.2)],(s16_7 p5 x1),91⟩ ?_
 refine reg_in (sz 8 8 (rwg [11,12,14,18,52] [0,1,2] ?_))
 refine rb [52] h (fun q12 h=>?_) (fun q12 h=>?_)
 ·refine sz 8 16 (reg_end rfl (wcT (wp_seq ?_)))
  refine wgc [12] [1] ⟨[(12,.ptr 0 0 0)],[oX true true 2 (.agg [vI 0,vI 0])],91⟩ ?_
  refine rn (wg [12,13] [0] ?_)
  cases h
  exact wp_ret (show fnOut _ _ _ _=_ from by kernel_rfl)
 refine sz 8 16 (reg_end rfl ?_)
 refine wbz h (fun q14 h=>?_) (fun q14 h=>?_)
 ·refine wp_seq ?_
  refine wgc [12] [1] ⟨[(12,.ptr 0 0 0)],[oX true true 2 (.agg [vI 0,vI 0])],91⟩ ?_
  refine rn (wg [12,13] [0] ?_)
  cases h
  exact wp_ret (show fnOut _ _ _ _=_ from by kernel_rfl)
 refine wp_skip (wp_seq ?_)
 refine wgc [11,12,14] [0,1,2] ⟨[(11,.ptr 0 0 0),(12,.ptr 1 0 0),(14,.ptr 2 0 0)],(s16_7 p5 x1),91⟩ ?_
 refine rn (wp_seq (wp_seq (wg [11,12,14,19] [0,1,2] (rn ?_))))
 refine wb [74] h (fun q16 h=>?_) (fun q16 h=>?_)
 ·refine wcT (wp_seq (wg [12] [1] (rn ?_)))
  refine wgc [12,13] [0] ⟨[(12,.ptr 0 0 0),(13,vI 7)],[oX true true 2 (.agg [vI 0,vI 0])],91⟩ ?_
  cases h
  exact wp_ret (show fnOut _ _ _ _=_ from by kernel_rfl)
 refine wcF (wp_skip (wp_seq (reg_in (sz 12 12 ?_))))
 refine callW bodyB_51 (g_frac_Make_ok (zw ((zw (x1.1.1*p5.D))+(zw (x1.1.2.1*p5.N)))) (zw ((zw (x1.1.2.2.1*p5.D))+(zw (x1.1.2.2.2*p5.N))))) h (fun x17 _ h=>?_)
 refine sz 4 17 (reg_end rfl ?_)
 refine wgc [12,13] [1] ⟨[(12,.ptr 0 0 0),(13,vI x17.2)],[oX true true 2 (.agg [vI x17.1.N,vI x17.1.D])],91⟩ ?_
 cases h
 exact wp_ret (show fnOut _ _ _ _=_ from by kernel_rfl)
noncomputable abbrev s31_2  : List (Nat × AV):=[(0,.ptr 0 0 0),(1,.ref 1 0 2),(2,.ref 2 0 1),(3,.agg [vI 2,.nils,.ref 2 0 1]),(4,.ref 3 0 1),(5,.ref 4 0 2),(6,.ref 5 0 2),(7,.ref 6 0 2),(8,.agg [vI 2,.ref 3 0 1,.ref 6 0 2])]
noncomputable abbrev s31_3  : List AObj:=[oX true false 2 (.agg [vI 0,.nils]),.row false true true true 1 [vI 7,vI 3],.row false false true false 1 [.lst true [vI 7,vI 3]],.row false false true true 1 [vI 0],.row false true true true 1 [vI 8,vI 2],.row false true true true 1 [vI 2,vI 8],.row false false true false 1 [.lst true [vI 8,vI 2],.lst true [vI 2,vI 8]]]
theorem g_law24_rain_ok  (x:Tapi_Net) (h:g_law24_rain=some x):CallOk Try.prog 31 [] (.ret (.agg [vI x.Grain,.ref 0 0 x.Nodes.length]) [oR false 3 eTapi_Node x.Nodes]):=by
 refine fn_ok [] Try.func31 rfl (by decide +kernel) rfl ?_
 unfold g_law24_rain at h
 refine wp_eqB (base':=0) (st':=⟨[],[],11⟩) kr kr ?_
 refine wp_seq (reg_in ?_)
 refine sgL false [] [] false gE ?_
 refine reg_end rfl (wp_seq (reg_in ?_))
 refine sgL (S:=⟨[(0,.ptr 0 0 0),(1,.ref 1 0 2)],[oX true false 2 (.agg [vI 0,.nils]),.row false false true true 1 [vI 7,vI 3]],11⟩) false [] [] true kr ?_
 refine bsR (parts:=[(0,.lst true [vI 7,vI 3])]) (ids:=[1]) (es:=[(1,.row false true true true 1 [vI 7,vI 3]),(2,.row false false true (List.all [.lst true [vI 7,vI 3]] AV.scs) 1 [.lst true [vI 7,vI 3]])]) (S:=⟨[(0,.ptr 0 0 0),(1,.ref 1 0 2),(2,.ref 2 0 1)],[oX true false 2 (.agg [vI 0,.nils]),.row false true true true 1 [vI 7,vI 3],.row false false true false 1 [.lst true [vI 7,vI 3]]],11⟩) [.lst true] false rfl (sparts_snap rfl (show snap _ _ _=some (_,[1]) from kr) sparts_nil (by rfl)) kr ?_
 refine sz 1 3 ?_
 refine sgL false [] [] true gE ?_
 refine sgL false [] [] true gE ?_
 refine sgL (S:=⟨[(0,.ptr 0 0 0),(1,.ref 1 0 2),(2,.ref 2 0 1),(3,.agg [vI 2,.nils,.ref 2 0 1]),(4,.ref 3 0 1),(5,.ref 4 0 2),(6,.ref 5 0 2)],[oX true false 2 (.agg [vI 0,.nils]),.row false true true true 1 [vI 7,vI 3],.row false false true false 1 [.lst true [vI 7,vI 3]],.row false false true true 1 [vI 0],.row false false true true 1 [vI 8,vI 2],.row false false true true 1 [vI 2,vI 8]],11⟩) false [] [] true kr ?_
 refine bsR (parts:=[(0,.lst true [vI 8,vI 2]),(1,.lst true [vI 2,vI 8])]) (ids:=[4,5]) (es:=[(4,.row false true true true 1 [vI 8,vI 2]),(5,.row false true true true 1 [vI 2,vI 8]),(6,.row false false true (List.all [.lst true [vI 8,vI 2],.lst true [vI 2,vI 8]] AV.scs) 1 [.lst true [vI 8,vI 2],.lst true [vI 2,vI 8]])]) (S:=⟨[(0,.ptr 0 0 0),(1,.ref 1 0 2),(2,.ref 2 0 1),(3,.agg [vI 2,.nils,.ref 2 0 1]),(4,.ref 3 0 1),(5,.ref 4 0 2),(6,.ref 5 0 2),(7,.ref 6 0 2)],s31_3,11⟩) [.lst true] false rfl (sparts_snap rfl (show snap _ _ _=some (_,[4]) from kr) (sparts_snap rfl (show snap _ _ _=some (_,[5]) from kr) sparts_nil (by rfl)) (by rfl)) kr ?_
 refine sgz 1 8 (S:=⟨s31_2,s31_3,11⟩) ?_
 refine bsR (parts:=[(0,.agg [vI 2,.nils,.lst false [.lst true [vI 7,vI 3]]]),(1,.agg [vI 2,.lst true [vI 0],.lst false [.lst true [vI 8,vI 2],.lst true [vI 2,vI 8]]])]) (ids:=[2,3,6]) (es:=[(2,.row false true true false 1 [.lst true [vI 7,vI 3]]),(3,.row false true true true 1 [vI 0]),(6,.row false true true false 1 [.lst true [vI 8,vI 2],.lst true [vI 2,vI 8]]),(7,.row false false true (List.all [.agg [vI 2,.nils,.lst false [.lst true [vI 7,vI 3]]],.agg [vI 2,.lst true [vI 0],.lst false [.lst true [vI 8,vI 2],.lst true [vI 2,vI 8]]]] AV.scs) 3 [.agg [vI 2,.nils,.lst false [.lst true [vI 7,vI 3]]],.agg [vI 2,.lst true [vI 0],.lst false [.lst true [vI 8,vI 2],.lst true [vI 2,vI 8]]]])]) (S:=⟨s31_2++[(9,.ref 7 0 2)],[oX true false 2 (.agg [vI 0,.nils]),.row false true true true 1 [vI 7,vI 3],.row false true true false 1 [.lst true [vI 7,vI 3]],.row false true true true 1 [vI 0],.row false true true true 1 [vI 8,vI 2],.row false true true true 1 [vI 2,vI 8],.row false true true false 1 [.lst true [vI 8,vI 2],.lst true [vI 2,vI 8]],.row false false true false 3 [.agg [vI 2,.lst true [],.lst false [.lst true [vI 7,vI 3]]],.agg [vI 2,.lst true [vI 0],.lst false [.lst true [vI 8,vI 2],.lst true [vI 2,vI 8]]]]],11⟩) [.keep,.lst true,.lst false] false rfl (sparts_snap rfl (snap_agg (msnap_cons rfl (msnap_cons rfl (msnap_cons (show snap _ _ _=some (_,[2]) from kr) msnap_nil (by rfl)) (by rfl)) (by rfl))) (sparts_snap rfl (snap_agg (msnap_cons rfl (msnap_cons (show snap _ _ _=some (_,[3]) from kr) (msnap_cons (show snap _ _ _=some (_,[6]) from kr) msnap_nil (by rfl)) (by rfl)) (by rfl))) sparts_nil (by rfl)) (by rfl)) kr ?_
 refine sz 2 11 (reg_end rfl (wg [0] [0,7] ?_))
 cases h
 exact wp_ret (show fnOut _ _ _ _=_ from by kernel_rfl)
theorem g_law24_at_ok (p0:Int) (p1:Int) (p2:Int) (x:Bool) (h:g_law24_at p0 p1 p2=some x):CallOk Try.prog 53 [vI p0,vI p1,vI p2] (.ret (vB x) []):=by
 refine fn_ok [] Try.func53 rfl (by decide +kernel) rfl ?_
 unfold g_law24_at at h
 refine wp_eqB (base':=0) (st':=⟨[(0,vI p0),(1,vI p1),(2,vI p2)],[],27⟩) kr kr ?_
 refine sq (wp_seq (reg_in ?_))
 refine callW bodyB_31 (g_law24_rain_ok ) h (fun x1 _ h=>?_)
 refine sgL false [] [] true gE ?_
 refine sz 3 5 ?_
 refine callR (as0:=[.agg [vI x1.Grain,.ref 0 0 x1.Nodes.length],.ref 1 0 2,vI 0,vI 1,.agg [vI 0,vI 0,vI 0,vI 1],.agg [vI p0,vI 1]]) (ids:=[0,1]) kr bodyB_16 (msnap_cons (snap_agg (msnap_cons rfl (msnap_cons (snap_full (w:=3) (bx:=false) (ro:=false) kr) msnap_nil (by rfl)) (by rfl))) (msnap_cons (show snap _ _ _=some (_,[1]) from kr) (msnap_cons rfl (msnap_cons rfl (msnap_cons (snap_agg (msnap_cons rfl (msnap_cons rfl (msnap_cons rfl (msnap_cons rfl msnap_nil (by rfl)) (by rfl)) (by rfl)) (by rfl))) (msnap_cons (snap_agg (msnap_cons rfl (msnap_cons rfl msnap_nil (by rfl)) (by rfl))) msnap_nil (by rfl)) (by rfl)) (by rfl)) (by rfl)) (by rfl)) (by rfl)) (fun x3 q4=>g_sensitive_At_ok x1 [-1,1] 0 1 (Tapi_Shift.mk 0 0 0 1) (Tapi_Q.mk p0 1) x3 q4) gF h (fun x3 q4 h=>?_)
 refine sz 6 12 (reg_end rfl (wp_seq ?_))
 refine wgc [1,2,7,8] [2] ⟨[(1,vI p1),(2,vI p2),(7,.ptr 0 0 0),(8,vI x3.2)],[oX true true 2 (.agg [vI x3.1.N,vI x3.1.D])],27⟩ ?_
 refine reg_in (sz 3 3 ?_)
 refine rb [19,20] h (fun q6 h=>?_) (fun q6 h=>?_)
 ·refine sz 7 10 (reg_end rfl (wg [6] [] ?_))
  cases h
  exact wp_ret (show fnOut _ _ _ _=_ from by kernel_rfl)
 refine sz 7 10 (reg_end rfl (wg [6] [] ?_))
 cases h
 exact wp_ret (show fnOut _ _ _ _=_ from by kernel_rfl)
theorem g_math_bits_Mul64_ok (p0:Int) (p1:Int) (x:(Int × Int)) (h:g_math_bits_Mul64 p0 p1=some x):CallOk Try.prog 115 [.int .u64 p0,.int .u64 p1] (.ret (.tup [.int .u64 x.1,.int .u64 x.2]) []):=by
 refine fn_ok [] Try.func115 rfl (by decide +kernel) rfl ?_
 unfold g_math_bits_Mul64 at h
 refine wp_eqB (base':=0) (st':=⟨[(0,.int .u64 p0),(1,.int .u64 p1)],[],51⟩) kr kr ?_
 refine sq (sq (sq (wp_seq (wg [0,1,6,7] [] (rn (sq (sq (wp_seq ?_))))))))
 refine wgc [0,1,6,7,8,9,10] [] ⟨[(0,.int .u64 p0),(1,.int .u64 p1),(6,.int .u64 (zv (BitVec.ofInt (IntKind.bits .u64) p0 &&& BitVec.ofInt (IntKind.bits .u64) 4294967295).toNat)),(7,.int .u64 (Int.fdiv p0 (2^min (zt 32) (IntKind.bits .u64)))),(8,.int .u64 (zv (BitVec.ofInt (IntKind.bits .u64) p1 &&& BitVec.ofInt (IntKind.bits .u64) 4294967295).toNat)),(9,.int .u64 (Int.fdiv p1 (2^min (zt 32) (IntKind.bits .u64)))),(10,.int .u64 (zv ((zv (BitVec.ofInt (IntKind.bits .u64) p0 &&& BitVec.ofInt (IntKind.bits .u64) 4294967295).toNat)*(zv (BitVec.ofInt (IntKind.bits .u64) p1 &&& BitVec.ofInt (IntKind.bits .u64) 4294967295).toNat))))],[],51⟩ ?_
 refine rn (wp_seq (wg [0,1,6,7,9,11] [] (rn (sq (wp_seq (wg [0,1,6,7,9,12,13] [] (rn (wp_seq ?_))))))))
 refine wgc [0,1,7,9,12,13] [] ⟨[(0,.int .u64 p0),(1,.int .u64 p1),(7,.int .u64 (Int.fdiv p0 (2^min (zt 32) (IntKind.bits .u64)))),(9,.int .u64 (Int.fdiv p1 (2^min (zt 32) (IntKind.bits .u64)))),(12,.int .u64 (zv ((zv (BitVec.ofInt (IntKind.bits .u64) (zv ((zv ((Int.fdiv p0 (2^min (zt 32) (IntKind.bits .u64)))*(zv (BitVec.ofInt (IntKind.bits .u64) p1 &&& BitVec.ofInt (IntKind.bits .u64) 4294967295).toNat)))+(Int.fdiv (zv ((zv (BitVec.ofInt (IntKind.bits .u64) p0 &&& BitVec.ofInt (IntKind.bits .u64) 4294967295).toNat)*(zv (BitVec.ofInt (IntKind.bits .u64) p1 &&& BitVec.ofInt (IntKind.bits .u64) 4294967295).toNat))) (2^min (zt 32) (IntKind.bits .u64))))) &&& BitVec.ofInt (IntKind.bits .u64) 4294967295).toNat)+(zv ((zv (BitVec.ofInt (IntKind.bits .u64) p0 &&& BitVec.ofInt (IntKind.bits .u64) 4294967295).toNat)*(Int.fdiv p1 (2^min (zt 32) (IntKind.bits .u64)))))))),(13,.int .u64 (Int.fdiv (zv ((zv ((Int.fdiv p0 (2^min (zt 32) (IntKind.bits .u64)))*(zv (BitVec.ofInt (IntKind.bits .u64) p1 &&& BitVec.ofInt (IntKind.bits .u64) 4294967295).toNat)))+(Int.fdiv (zv ((zv (BitVec.ofInt (IntKind.bits .u64) p0 &&& BitVec.ofInt (IntKind.bits .u64) 4294967295).toNat)*(zv (BitVec.ofInt (IntKind.bits .u64) p1 &&& BitVec.ofInt (IntKind.bits .u64) 4294967295).toNat))) (2^min (zt 32) (IntKind.bits .u64))))) (2^min (zt 32) (IntKind.bits .u64))))],[],51⟩ ?_
 refine rn (wp_seq (wg [0,1,4] [] (rn (wg [4,5] [] ?_))))
 cases h
 exact wp_ret (show fnOut _ _ _ _=_ from by kernel_rfl)
theorem g_frac_times_ok (p0:Int) (p1:Int) (x:(Int × Int)) (h:g_frac_times p0 p1=some x):CallOk Try.prog 104 [.int .u64 p0,.int .u64 p1] (.ret (.agg [.int .u64 x.1,.int .u64 x.2]) []):=by
 refine fn_ok [] Try.func104 rfl (by decide +kernel) rfl ?_
 unfold g_frac_times at h
 refine wp_eqB (base':=0) (st':=⟨[(0,.int .u64 p0),(1,.int .u64 p1)],[],16⟩) kr kr ?_
 refine sq (wp_seq (reg_in (sz 2 2 ?_)))
 refine callW bodyB_115 (g_math_bits_Mul64_ok p0 p1) h (fun x1 _ h=>?_)
 refine sz 5 8 (reg_end rfl (wp_seq (wg [4,5,6] [0] (rn ?_))))
 refine wgc [4] [0] ⟨[(4,.ptr 0 0 0)],[oX true true 2 (.agg [.int .u64 x1.1,.int .u64 x1.2])],16⟩ ?_
 cases h
 exact wp_ret (show fnOut _ _ _ _=_ from by kernel_rfl)
theorem g_frac_less_ok (p0:(Int × Int)) (p1:(Int × Int)) (x:Bool) (h:g_frac_less p0 p1=some x):CallOk Try.prog 105 [.agg [.int .u64 p0.1,.int .u64 p0.2],.agg [.int .u64 p1.1,.int .u64 p1.2]] (.ret (vB x) []):=by
 refine fn_ok [] Try.func105 rfl (by decide +kernel) rfl ?_
 unfold g_frac_less at h
 refine wp_eqB (base':=0) (st':=⟨[(0,.agg [.int .u64 p0.1,.int .u64 p0.2]),(1,.agg [.int .u64 p1.1,.int .u64 p1.2])],[],24⟩) kr kr ?_
 refine sq (wp_seq (reg_in (sz 6 6 (rwg [2,3,10] [0,1] ?_))))
 refine rb [10] h (fun q2 h=>?_) (fun q2 h=>?_)
 ·refine sz 14 20 (reg_end rfl ?_)
  refine wgc [4] [] ⟨[(4,vB true)],[],24⟩ ?_
  cases h
  exact wp_ret (show fnOut _ _ _ _=_ from by kernel_rfl)
 refine sz 6 12 ?_
 refine rw_wk (wk_gc (live:=[2,3,10,16]) (keep:=[0,1]) (st':=⟨[(2,.ptr 0 0 0),(3,.ptr 1 0 0),(10,vB false),(16,vB (p0.1==p1.1))],[oX true true 2 (.agg [.int .u64 p0.1,.int .u64 p0.2]),oX true true 2 (.agg [.int .u64 p1.1,.int .u64 p1.2])],24⟩) kr) ?_
 refine rb [16] h (fun q4 h=>?_) (fun q4 h=>?_)
 ·refine sz 8 20 (reg_end rfl (wg [4] [] ?_))
  cases h
  exact wp_ret (show fnOut _ _ _ _=_ from by kernel_rfl)
 refine sz 8 20 (reg_end rfl (wg [4] [] ?_))
 cases h
 exact wp_ret (show fnOut _ _ _ _=_ from by kernel_rfl)
theorem g_frac_Cmp_1_ok (p0:Tapi_Q) (p1:Tapi_Q) (x:Int) (h:g_frac_Cmp_1 p0 p1=some x):CallOk Try.prog 103 [.agg [vI p0.N,vI p0.D],.agg [vI p1.N,vI p1.D]] (.ret (vI x) []):=by
 refine fn_ok [] Try.func103 rfl (by decide +kernel) rfl ?_
 unfold g_frac_Cmp_1 at h
 refine wp_eqB (base':=0) (st':=⟨[(0,.agg [vI p0.N,vI p0.D]),(1,.agg [vI p1.N,vI p1.D])],[],44⟩) kr kr ?_
 refine sq (wp_seq (rga hfol (sy 2 2 ?_)))
 refine callW bodyB_85 (g_frac_size_ok p0.N) h (fun x1 _ h=>?_)
 refine sy 3 6 ?_
 refine callW bodyB_104 (g_frac_times_ok x1 (zv (p1.D))) h (fun x3 _ h=>?_)
 refine sy 2 9 ?_
 refine callW bodyB_85 (g_frac_size_ok p1.N) h (fun x5 _ h=>?_)
 refine sy 3 13 ?_
 refine callW bodyB_104 (g_frac_times_ok x5 (zv (p0.D))) h (fun x7 _ h=>?_)
 refine sy 4 18 (rgd (wp_seq (wp_block (wp_seq ?_))))
 refine wgc [2,3,5,6] [0,1,2,3] ⟨[(2,.ptr 0 0 0),(3,.ptr 1 0 0),(5,.ptr 2 0 0),(6,.ptr 3 0 0)],[oX true true 2 (.agg [vI p0.N,vI p0.D]),oX true true 2 (.agg [vI p1.N,vI p1.D]),oX true true 2 (.agg [.int .u64 x3.1,.int .u64 x3.2]),oX true true 2 (.agg [.int .u64 x7.1,.int .u64 x7.2])],44⟩ ?_
 refine rn ?_
 refine wbz h (fun q10 h=>?_) (fun q10 h=>?_)
 ·refine wp_seq (wp_seq (wg [2] [0] (rn ?_)))
  refine wb [31] h (fun q12 h=>?_) (fun q12 h=>?_)
  ·refine wcT (sq (wg [4] [] ?_))
   cases h
   exact wp_ret (show fnOut _ _ _ _=_ from by kernel_rfl)
  refine wcF (wp_skip (sq ?_))
  refine wgc [4] [] ⟨[(4,vI 1)],[],44⟩ ?_
  cases h
  exact wp_ret (show fnOut _ _ _ _=_ from by kernel_rfl)
 refine wp_seq (wg [2,5,6] [0,2,3] (rn ?_))
 refine wb [35,32] h (fun q14 h=>?_) (fun q14 h=>?_)
 ·refine wcT (wp_seq (wg [] [] (rn ?_)))
  refine wgc [4] [] ⟨[(4,vI 0)],[],44⟩ ?_
  cases h
  exact wp_ret (show fnOut _ _ _ _=_ from by kernel_rfl)
 refine wcF (wp_seq (rga hfol (sy 2 2 ?_)))
 refine callW bodyB_105 (g_frac_less_ok (x3.1,x3.2) (x7.1,x7.2)) h (fun x15 _ h=>?_)
 refine sy 5 8 (rgd ?_)
 refine wbz h (fun q18 h=>?_) (fun q18 h=>?_)
 ·refine wp_seq ?_
  refine wgc [] [] ⟨[],[],44⟩ ?_
  refine rn (wg [4] [] ?_)
  cases h
  exact wp_ret (show fnOut _ _ _ _=_ from by kernel_rfl)
 refine wp_skip (wp_seq ?_)
 refine wgc [] [] ⟨[],[],44⟩ ?_
 refine rn (wg [4] [] ?_)
 cases h
 exact wp_ret (show fnOut _ _ _ _=_ from by kernel_rfl)
theorem g_frac_both_int_1_k1_ok (c0:Int) (c1:Int) (c2:Int) (c3:Int) (x:Int) (h:g_frac_both_int_1_k1 c0 c1 c2 c3=some x):CallOk Try.prog 114 [.fz [.fn (.func 103) [] []],.fz [vI c0,vI c1],.fz [vI c2,vI c3]] (.ret (vI x) []):=by
 refine fn_ok [] Try.func114 rfl (by decide +kernel) rfl ?_
 unfold g_frac_both_int_1_k1 at h
 refine wp_eqB (base':=0) (st':=⟨[(0,.fz [.fn (.func 103) [] []]),(1,.fz [vI c0,vI c1]),(2,.fz [vI c2,vI c3])],[],8⟩) kr kr ?_
 refine sq (wp_seq (reg_in (sz 3 3 ?_)))
 refine callW bodyB_103 (g_frac_Cmp_1_ok (Tapi_Q.mk c0 c1) (Tapi_Q.mk c2 c3)) h (fun x1 _ h=>?_)
 refine sz 1 5 (reg_end rfl (wg [3] [] ?_))
 cases h
 exact wp_ret (show fnOut _ _ _ _=_ from by kernel_rfl)
noncomputable abbrev s89_1 (p0:Tapi_Q) (p1:Tapi_Q):List AObj:=[oX true true 2 (.agg [vI p0.N,vI p0.D]),oX true true 2 (.agg [vI p1.N,vI p1.D])]
noncomputable abbrev s89_3 (p0:Tapi_Q) (p1:Tapi_Q):List AObj:=[oX true true 2 (.agg [vI p0.N,vI p0.D]),oX true true 2 (.agg [vI p1.N,vI p1.D]),oX true true 2 (.agg [vI p0.N,vI p0.D]),oX true true 2 (.agg [vI p1.N,vI p1.D]),oX true false 1 (.fn (.func 103) [] [])]
noncomputable abbrev s89_5 (p0:Tapi_Q) (p1:Tapi_Q):List (Nat × AV):=[(0,.agg [vI p0.N,vI p0.D]),(1,.agg [vI p1.N,vI p1.D]),(2,.ptr 0 0 0),(3,.ptr 1 0 0),(4,vI 0),(5,vI 0),(6,.agg [vI p0.N,vI p0.D]),(7,.agg [vI p1.N,vI p1.D]),(8,.tup [vI 0,vI 5])]
theorem g_frac_Cmp_ok (p0:Tapi_Q) (p1:Tapi_Q) (x:(Int × Int)) (h:g_frac_Cmp p0 p1=some x):CallOk Try.prog 89 [.agg [vI p0.N,vI p0.D],.agg [vI p1.N,vI p1.D]] (.ret (.tup [vI x.1,vI x.2]) []):=by
 refine fn_ok [] Try.func89 rfl (by decide +kernel) rfl ?_
 unfold g_frac_Cmp at h
 refine wp_eqB (base':=0) (st':=⟨[(0,.agg [vI p0.N,vI p0.D]),(1,.agg [vI p1.N,vI p1.D])],[],11⟩) kr kr ?_
 refine sq (wp_seq (reg_in (sz 2 2 ?_)))
 refine inlR (f:=102) (fn:=Try.f102) (as0:=[.agg [vI p0.N,vI p0.D],.agg [vI p1.N,vI p1.D],.fn (.func 103) [] []]) kr Try.func102 rfl (by decide +kernel) rfl ?_
 refine wp_eqB (base':=2) (st':=⟨[(0,.agg [vI p0.N,vI p0.D]),(1,.agg [vI p1.N,vI p1.D]),(2,.fn (.func 103) [] [])],(s89_1 p0 p1),22⟩) kr kr ?_
 refine wp_seq (reg_in (sz 2 2 ?_))
 refine sgL false [] [] false gE ?_
 refine sz 2 5 (reg_end rfl (wp_seq (wp_seq (wg [3,4,5] [2,3,4] (reg_in (sz 1 1 ?_))))))
 refine callW bodyB_81 (g_frac_Check_ok p0) h (fun x1 _ h=>?_)
 refine sz 2 4 ?_
 refine rb [11,12] h (fun q4 h=>?_) (fun q4 h=>?_)
 ·refine sz 4 8 (reg_end rfl (wcT (wp_seq ?_)))
  refine wgc [] [] ⟨[],(s89_1 p0 p1),22⟩ ?_
  refine rn (sq (wg [6,7] [] ?_))
  refine wp_ret ?_
  refine ⟨⟨(s89_5 p0 p1),(s89_1 p0 p1),11⟩,by as_aux_lemma=>kernel_rfl,?_⟩
  refine sz 4 7 (reg_end rfl (wg [4,5] [] ?_))
  cases h
  exact wp_ret (show fnOut _ _ _ _=_ from by kernel_rfl)
 refine sz 1 5 ?_
 refine callW bodyB_81 (g_frac_Check_ok p1) h (fun x5 _ h=>?_)
 refine sz 2 8 (reg_end rfl ?_)
 refine wbz h (fun q8 h=>?_) (fun q8 h=>?_)
 ·refine wp_seq ?_
  refine wgc [] [] ⟨[],(s89_1 p0 p1),22⟩ ?_
  refine rn (sq (wg [6,7] [] ?_))
  refine wp_ret ?_
  refine ⟨⟨(s89_5 p0 p1),(s89_1 p0 p1),11⟩,by as_aux_lemma=>kernel_rfl,?_⟩
  refine sz 4 7 (reg_end rfl (wg [4,5] [] ?_))
  cases h
  exact wp_ret (show fnOut _ _ _ _=_ from by kernel_rfl)
 refine wp_skip (wp_seq ?_)
 refine wgc [3,4,5] [2,3,4] ⟨[(3,.ptr 2 0 0),(4,.ptr 3 0 0),(5,.ptr 4 0 0)],(s89_3 p0 p1),22⟩ ?_
 refine reg_in ?_
 refine sgz 1 1 (S:=⟨[(3,.ptr 2 0 0),(4,.ptr 3 0 0),(5,.ptr 4 0 0),(18,.fn (.func 114) [] [.ptr 4 0 0,.ptr 2 0 0,.ptr 3 0 0])],(s89_3 p0 p1),22⟩) ?_
 refine callR (as0:=[.fn (.func 114) [] [.ptr 4 0 0,.ptr 2 0 0,.ptr 3 0 0]]) (ids:=[4,2,3]) kr bodyB_113 (msnap_cons (snap_fn msnap_nil (msnap_cons (snap_ptr rfl (msnap_cons (snap_fn msnap_nil msnap_nil (by rfl)) msnap_nil (by rfl)) (by rfl) (by rfl)) (msnap_cons (snap_ptr rfl (msnap_cons (snap_agg (msnap_cons rfl (msnap_cons rfl msnap_nil (by rfl)) (by rfl))) msnap_nil (by rfl)) (by rfl) (by rfl)) (msnap_cons (snap_ptr rfl (msnap_cons (snap_agg (msnap_cons rfl (msnap_cons rfl msnap_nil (by rfl)) (by rfl))) msnap_nil (by rfl)) (by rfl) (by rfl)) msnap_nil (by rfl)) (by rfl)) (by rfl)) (by rfl)) msnap_nil (by rfl)) (fun x9 q10=>guardI_ok guard_113 Try.func114 rfl (by decide +kernel) (g_frac_both_int_1_k1_ok p0.N p0.D p1.N p1.D x9 q10)) gF h (fun x9 q10 h=>?_)
 refine sz 4 6 (reg_end rfl (wg [6,7] [] ?_))
 refine wp_ret ?_
 refine ⟨⟨[(0,.agg [vI p0.N,vI p0.D]),(1,.agg [vI p1.N,vI p1.D]),(2,.ptr 0 0 0),(3,.ptr 1 0 0),(4,vI 0),(5,vI 0),(6,.agg [vI p0.N,vI p0.D]),(7,.agg [vI p1.N,vI p1.D]),(8,.tup [vI x9,vI 0])],(s89_1 p0 p1),11⟩,by as_aux_lemma=>kernel_rfl,?_⟩
 refine sz 4 7 (reg_end rfl (wg [4,5] [] ?_))
 cases h
 exact wp_ret (show fnOut _ _ _ _=_ from by kernel_rfl)
theorem g_sensitive_less_ok (p0:Tapi_Q) (p1:Tapi_Q) (x:Bool) (h:g_sensitive_less p0 p1=some x):CallOk Try.prog 60 [.agg [vI p0.N,vI p0.D],.agg [vI p1.N,vI p1.D]] (.ret (vB x) []):=by
 refine fn_ok [] Try.func60 rfl (by decide +kernel) rfl ?_
 unfold g_sensitive_less at h
 refine wp_eqB (base':=0) (st':=⟨[(0,.agg [vI p0.N,vI p0.D]),(1,.agg [vI p1.N,vI p1.D])],[],15⟩) kr kr ?_
 refine sq (wp_seq (reg_in (sz 2 2 ?_)))
 refine callW bodyB_89 (g_frac_Cmp_ok p0 p1) h (fun x1 _ h=>?_)
 refine sz 5 8 (reg_end rfl (wp_seq (wg [5] [] (rn ?_))))
 refine wgc [4] [] ⟨[(4,vB (decide (x1.1 < 0)))],[],15⟩ ?_
 cases h
 exact wp_ret (show fnOut _ _ _ _=_ from by kernel_rfl)
theorem g_sensitive_inRange_ok (p0:Tapi_Q) (p1:Int) (p2:Int) (x:Bool) (h:g_sensitive_inRange p0 p1 p2=some x):CallOk Try.prog 56 [.agg [vI p0.N,vI p0.D],vI p1,vI p2] (.ret (vB x) []):=by
 refine fn_ok [] Try.func56 rfl (by decide +kernel) rfl ?_
 unfold g_sensitive_inRange at h
 refine wp_eqB (base':=0) (st':=⟨[(0,.agg [vI p0.N,vI p0.D]),(1,vI p1),(2,vI p2)],[],19⟩) kr kr ?_
 refine sq (wp_seq (reg_in (sz 3 3 ?_)))
 refine callW bodyB_60 (g_sensitive_less_ok p0 (Tapi_Q.mk p1 1)) h (fun x1 _ h=>?_)
 refine sz 2 6 (rwg [2,3,12] [0] ?_)
 refine rb [12] h (fun q4 h=>?_) (fun q4 h=>?_)
 ·refine sz 3 9 ?_
  refine callW bodyB_60 (g_sensitive_less_ok (Tapi_Q.mk p2 1) p0) h (fun x5 _ h=>?_)
  refine sz 3 13 (reg_end rfl ?_)
  refine wgc [6] [] ⟨[(6,vB (!x5))],[],19⟩ ?_
  cases h
  exact wp_ret (show fnOut _ _ _ _=_ from by kernel_rfl)
 refine sz 7 13 (reg_end rfl ?_)
 refine wgc [6] [] ⟨[(6,vB false)],[],19⟩ ?_
 cases h
 exact wp_ret (show fnOut _ _ _ _=_ from by kernel_rfl)
noncomputable abbrev s57_2 (p0:(Int × Int × Int × Int)) (p1:Tapi_Q):List AObj:=[oX true true 4 (.agg [vI p0.1,vI p0.2.1,vI p0.2.2.1,vI p0.2.2.2]),oX true true 2 (.agg [vI p1.N,vI p1.D])]
theorem g_sensitive_positive_ok (p0:(Int × Int × Int × Int)) (p1:Tapi_Q) (p2:Int) (p3:Int) (x:Bool) (h:g_sensitive_positive p0 p1 p2 p3=some x):CallOk Try.prog 57 [.agg [vI p0.1,vI p0.2.1,vI p0.2.2.1,vI p0.2.2.2],.agg [vI p1.N,vI p1.D],vI p2,vI p3] (.ret (vB x) []):=by
 refine fn_ok [] Try.func57 rfl (by decide +kernel) rfl ?_
 unfold g_sensitive_positive at h
 refine wp_eqB (base':=0) (st':=⟨[(0,.agg [vI p0.1,vI p0.2.1,vI p0.2.2.1,vI p0.2.2.2]),(1,.agg [vI p1.N,vI p1.D]),(2,vI p2),(3,vI p3)],[],41⟩) kr kr ?_
 refine sq (wp_seq (wp_seq (reg_in (sz 4 4 (rwg [2,3,4,5,12] [0,1] ?_)))))
 refine rb [12] h (fun q2 h=>?_) (fun q2 h=>?_)
 ·refine sz 4 8 (reg_end rfl ?_)
  refine wbz h (fun q4 h=>?_) (fun q4 h=>?_)
  ·refine wp_seq ?_
   refine wgc [] [] ⟨[],[],41⟩ ?_
   refine rn (wg [8] [] ?_)
   cases h
   exact wp_ret (show fnOut _ _ _ _=_ from by kernel_rfl)
  refine wp_skip (wp_seq (wp_seq ?_))
  refine wgc [2,3,4,5] [0,1] ⟨[(2,vI p2),(3,vI p3),(4,.ptr 0 0 0),(5,.ptr 1 0 0)],(s57_2 p0 p1),41⟩ ?_
  refine reg_in (sz 4 4 ?_)
  refine rb [19,20] h (fun q6 h=>?_) (fun q6 h=>?_)
  ·refine sz 5 9 (rwg [3,4,5,20,25] [0,1] ?_)
   refine rb [25] h (fun q8 h=>?_) (fun q8 h=>?_)
   ·refine sz 6 15 (reg_end rfl (wcT (wp_seq ?_)))
    refine wgc [4,5] [0,1] ⟨[(4,.ptr 0 0 0),(5,.ptr 1 0 0)],(s57_2 p0 p1),41⟩ ?_
    refine rn (wg [8] [] ?_)
    cases h
    exact wp_ret (show fnOut _ _ _ _=_ from by kernel_rfl)
   refine sz 6 15 (reg_end rfl ?_)
   refine wbz h (fun q10 h=>?_) (fun q10 h=>?_)
   ·refine wp_seq ?_
    refine wgc [4,5] [0,1] ⟨[(4,.ptr 0 0 0),(5,.ptr 1 0 0)],(s57_2 p0 p1),41⟩ ?_
    refine rn (wg [8] [] ?_)
    cases h
    exact wp_ret (show fnOut _ _ _ _=_ from by kernel_rfl)
   refine wp_skip (wp_seq ?_)
   refine wgc [] [] ⟨[],[],41⟩ ?_
   refine rn (wg [8] [] ?_)
   cases h
   exact wp_ret (show fnOut _ _ _ _=_ from by kernel_rfl)
  refine sz 11 15 (reg_end rfl (wcF (wp_skip (wp_seq ?_))))
  refine wgc [] [] ⟨[],[],41⟩ ?_
  refine rn (wg [8] [] ?_)
  cases h
  exact wp_ret (show fnOut _ _ _ _=_ from by kernel_rfl)
 refine sz 4 8 (reg_end rfl (wcF (wp_skip (wp_seq (wp_seq ?_)))))
 refine wgc [2,3,4,5] [0,1] ⟨[(2,vI p2),(3,vI p3),(4,.ptr 0 0 0),(5,.ptr 1 0 0)],(s57_2 p0 p1),41⟩ ?_
 refine reg_in (sz 4 4 ?_)
 refine rb [19,20] h (fun q12 h=>?_) (fun q12 h=>?_)
 ·refine sz 5 9 (rwg [3,4,5,20,25] [0,1] ?_)
  refine rb [25] h (fun q14 h=>?_) (fun q14 h=>?_)
  ·refine sz 6 15 (reg_end rfl (wcT (wp_seq ?_)))
   refine wgc [4,5] [0,1] ⟨[(4,.ptr 0 0 0),(5,.ptr 1 0 0)],(s57_2 p0 p1),41⟩ ?_
   refine rn (wg [8] [] ?_)
   cases h
   exact wp_ret (show fnOut _ _ _ _=_ from by kernel_rfl)
  refine sz 6 15 (reg_end rfl ?_)
  refine wbz h (fun q16 h=>?_) (fun q16 h=>?_)
  ·refine wp_seq ?_
   refine wgc [4,5] [0,1] ⟨[(4,.ptr 0 0 0),(5,.ptr 1 0 0)],(s57_2 p0 p1),41⟩ ?_
   refine rn (wg [8] [] ?_)
   cases h
   exact wp_ret (show fnOut _ _ _ _=_ from by kernel_rfl)
  refine wp_skip (wp_seq ?_)
  refine wgc [] [] ⟨[],[],41⟩ ?_
  refine rn (wg [8] [] ?_)
  cases h
  exact wp_ret (show fnOut _ _ _ _=_ from by kernel_rfl)
 refine sz 11 15 (reg_end rfl (wcF (wp_skip (wp_seq ?_))))
 refine wgc [] [] ⟨[],[],41⟩ ?_
 refine rn (wg [8] [] ?_)
 cases h
 exact wp_ret (show fnOut _ _ _ _=_ from by kernel_rfl)
noncomputable abbrev s21_5 (p0:Tapi_Net) (p4:Tapi_Shift) (p5:Tapi_Q) (x1:((Int × Int × Int × Int) × Int)):List AObj:=[oX true false 2 (.agg [vI p0.Grain,eL false eTapi_Node p0.Nodes]),oX true true 4 (.agg [vI p4.Node,vI p4.Row,vI p4.From,vI p4.To]),oX true true 2 (.agg [vI p5.N,vI p5.D]),oX true true 2 (.agg [vI 0,vI 0]),oX true true 4 (.agg [vI x1.1.1,vI x1.1.2.1,vI x1.1.2.2.1,vI x1.1.2.2.2])]
theorem g_sensitive_Threshold_ok (p0:Tapi_Net) (p1:(List Int)) (p2:Int) (p3:Int) (p4:Tapi_Shift) (p5:Tapi_Q) (x:(Tapi_Q × Int)) (h:g_sensitive_Threshold p0 p1 p2 p3 p4 p5=some x):CallOk Try.prog 21 [.agg [vI p0.Grain,eL false eTapi_Node p0.Nodes],z1 p1,vI p2,vI p3,.agg [vI p4.Node,vI p4.Row,vI p4.From,vI p4.To],.agg [vI p5.N,vI p5.D]] (.ret (.tup [.agg [vI x.1.N,vI x.1.D],vI x.2]) []):=by
 refine fn_ok [] Try.func21 rfl (by decide +kernel) rfl ?_
 unfold g_sensitive_Threshold at h
 refine wp_eqB (base':=0) (st':=⟨[(0,.agg [vI p0.Grain,eL false eTapi_Node p0.Nodes]),(1,z1 p1),(2,vI p2),(3,vI p3),(4,.agg [vI p4.Node,vI p4.Row,vI p4.From,vI p4.To]),(5,.agg [vI p5.N,vI p5.D])],[],121⟩) kr kr ?_
 refine wp_seq (reg_in ?_)
 refine sgL false [] [] false gE ?_
 refine sz 4 5 (reg_end rfl (wp_seq (reg_in (sz 5 5 ?_))))
 refine callW bodyB_12 (g_sensitive_Line_ok p0 p1 p2 p3 p4) h (fun x1 _ h=>?_)
 refine sz 6 12 (reg_end rfl (wp_seq (wp_seq ?_)))
 refine wgc [6,10,11,12,14,15] [0,1,2,3,4] ⟨[(6,.ptr 0 0 0),(10,.ptr 1 0 0),(11,.ptr 2 0 0),(12,.ptr 3 0 0),(14,.ptr 4 0 0),(15,vI x1.2)],(s21_5 p0 p4 p5 x1),121⟩ ?_
 refine rn ?_
 refine wb [32] h (fun q4 h=>?_) (fun q4 h=>?_)
 ·refine wcT (wp_seq (wg [12,15] [3] (rn (wg [12,13] [0] ?_))))
  cases h
  exact wp_ret (show fnOut _ _ _ _=_ from by kernel_rfl)
 refine wcF (wp_skip (wp_seq (wp_seq (reg_in (sz 1 1 ?_)))))
 refine callW bodyB_49 (g_sensitive_checkSmall_ok p5) h (fun x5 _ h=>?_)
 refine sz 1 3 (reg_end rfl (wp_seq (wg [6,10,11,12,14,16] [0,1,2,3,4] (rn ?_))))
 refine wb [38] h (fun q8 h=>?_) (fun q8 h=>?_)
 ·refine wcT (wp_seq ?_)
  refine wgc [12,16] [3] ⟨[(12,.ptr 0 0 0),(16,vI x5)],[oX true true 2 (.agg [vI 0,vI 0])],121⟩ ?_
  refine rn (wg [12,13] [0] ?_)
  cases h
  exact wp_ret (show fnOut _ _ _ _=_ from by kernel_rfl)
 refine wcF (wp_skip (wp_seq (wp_seq (reg_in (sz 4 4 ?_)))))
 refine rw_wk (wk_gc (live:=[6,10,11,12,14,44]) (keep:=[0,1,2,3,4]) (st':=⟨[(6,.ptr 0 0 0),(10,.ptr 1 0 0),(11,.ptr 2 0 0),(12,.ptr 3 0 0),(14,.ptr 4 0 0),(44,vB (decide (p5.N < 0)))],(s21_5 p0 p4 p5 x1),121⟩) kr) ?_
 refine rb [44] h (fun q10 h=>?_) (fun q10 h=>?_)
 ·refine sz 6 10 (reg_end rfl (wcT (wp_seq (wg [12] [3] (rn (wg [12,13] [0] ?_))))))
  cases h
  exact wp_ret (show fnOut _ _ _ _=_ from by kernel_rfl)
 refine sz 6 10 (reg_end rfl ?_)
 refine wbz h (fun q12 h=>?_) (fun q12 h=>?_)
 ·refine wp_seq (wg [12] [3] (rn (wg [12,13] [0] ?_)))
  cases h
  exact wp_ret (show fnOut _ _ _ _=_ from by kernel_rfl)
 refine wp_skip (wp_seq (wg [6,10,11,12,14] [0,1,2,3,4] (reg_in (sz 2 2 ?_))))
 refine callW bodyB_50 (g_sensitive_ends_ok p0 p4) h (fun x13 _ h=>?_)
 refine sz 5 8 (reg_end rfl (wp_seq ?_))
 refine wgc [11,12,14,17,18] [2,3,4] ⟨[(11,.ptr 0 0 0),(12,.ptr 1 0 0),(14,.ptr 2 0 0),(17,vI x13.1),(18,vI x13.2)],[oX true true 2 (.agg [vI p5.N,vI p5.D]),oX true true 2 (.agg [vI 0,vI 0]),oX true true 4 (.agg [vI x1.1.1,vI x1.1.2.1,vI x1.1.2.2.1,vI x1.1.2.2.2])],121⟩ ?_
 refine rn (wp_seq (wg [11,12,14,17,18,19] [0,1,2] (rn (wp_seq (wp_seq (wg [12,14,17,18,19,20] [1,2] (rn ?_)))))))
 refine wb [81] h (fun q16 h=>?_) (fun q16 h=>?_)
 ·refine wcT (wp_seq (wp_seq (reg_in (sz 3 3 ?_))))
  refine rw_wk (wk_gc (live:=[12,14,17,18,84]) (keep:=[0,1]) (st':=⟨[(12,.ptr 0 0 0),(14,.ptr 1 0 0),(17,vI x13.1),(18,vI x13.2),(84,vB ((zw ((zw (x1.1.2.2.1*p5.N)) - (zw (x1.1.1*p5.D)))) != 0))],[oX true true 2 (.agg [vI 0,vI 0]),oX true true 4 (.agg [vI x1.1.1,vI x1.1.2.1,vI x1.1.2.2.1,vI x1.1.2.2.2])],121⟩) kr) ?_
  refine rb [84] h (fun q18 h=>?_) (fun q18 h=>?_)
  ·refine sz 9 12 (reg_end rfl (wcT (wp_seq (wg [12] [0] (rn (wg [12,13] [0] ?_))))))
   cases h
   exact wp_ret (show fnOut _ _ _ _=_ from by kernel_rfl)
  refine sz 5 8 (rwg [12,14,89] [0,1] ?_)
  refine rb [89] h (fun q20 h=>?_) (fun q20 h=>?_)
  ·refine sz 4 12 (reg_end rfl (wcT (wp_seq (wg [12] [0] (rn ?_)))))
   refine wgc [12,13] [0] ⟨[(12,.ptr 0 0 0),(13,vI 4)],[oX true true 2 (.agg [vI 0,vI 0])],121⟩ ?_
   cases h
   exact wp_ret (show fnOut _ _ _ _=_ from by kernel_rfl)
  refine sz 4 12 (reg_end rfl ?_)
  refine wbz h (fun q22 h=>?_) (fun q22 h=>?_)
  ·refine wp_seq (wg [12] [0] (rn ?_))
   refine wgc [12,13] [0] ⟨[(12,.ptr 0 0 0),(13,vI 4)],[oX true true 2 (.agg [vI 0,vI 0])],121⟩ ?_
   cases h
   exact wp_ret (show fnOut _ _ _ _=_ from by kernel_rfl)
  refine wp_skip (wp_seq (wg [12] [0] (rn ?_)))
  refine wgc [12,13] [0] ⟨[(12,.ptr 0 0 0),(13,vI 0)],[oX true true 2 (.agg [vI 0,vI 1])],121⟩ ?_
  cases h
  exact wp_ret (show fnOut _ _ _ _=_ from by kernel_rfl)
 refine wcF (wp_skip (wp_seq (reg_in (sz 2 2 ?_))))
 refine callW bodyB_51 (g_frac_Make_ok (zw ((zw (x1.1.2.2.1*p5.N)) - (zw (x1.1.1*p5.D)))) (zw ((zw (x1.1.2.1*p5.D)) - (zw (x1.1.2.2.2*p5.N))))) h (fun x23 _ h=>?_)
 refine sz 6 9 (reg_end rfl (wp_seq (wp_seq ?_)))
 refine wgc [12,14,17,18,21,15] [0,1,2] ⟨[(12,.ptr 0 0 0),(14,.ptr 1 0 0),(17,vI x13.1),(18,vI x13.2),(21,.ptr 2 0 0),(15,vI x23.2)],[oX true true 2 (.agg [vI 0,vI 0]),oX true true 4 (.agg [vI x1.1.1,vI x1.1.2.1,vI x1.1.2.2.1,vI x1.1.2.2.2]),oX true true 2 (.agg [vI x23.1.N,vI x23.1.D])],121⟩ ?_
 refine rn ?_
 refine wb [103] h (fun q26 h=>?_) (fun q26 h=>?_)
 ·refine wcT (wp_seq (wg [12,15] [0] (rn (wg [12,13] [0] ?_))))
  cases h
  exact wp_ret (show fnOut _ _ _ _=_ from by kernel_rfl)
 refine wcF (wp_skip (wp_seq (wp_seq (reg_in (sz 3 3 ?_)))))
 refine callW bodyB_56 (g_sensitive_inRange_ok x23.1 x13.1 x13.2) h (fun x27 _ h=>?_)
 refine sz 2 6 (rwg [12,14,17,18,21,111] [0,1,2] ?_)
 refine rb [111] h (fun q30 h=>?_) (fun q30 h=>?_)
 ·refine sz 7 13 (reg_end rfl (wcT (wp_seq ?_)))
  refine wgc [12] [0] ⟨[(12,.ptr 0 0 0)],[oX true true 2 (.agg [vI 0,vI 0])],121⟩ ?_
  refine rn (wg [12,13] [0] ?_)
  cases h
  exact wp_ret (show fnOut _ _ _ _=_ from by kernel_rfl)
 refine sz 4 10 ?_
 refine callW bodyB_57 (g_sensitive_positive_ok (x1.1.1,x1.1.2.1,x1.1.2.2.1,x1.1.2.2.2) x23.1 x13.1 x13.2) h (fun x31 _ h=>?_)
 refine sz 2 13 (reg_end rfl ?_)
 refine wbz h (fun q34 h=>?_) (fun q34 h=>?_)
 ·refine wp_seq ?_
  refine wgc [12] [0] ⟨[(12,.ptr 0 0 0)],[oX true true 2 (.agg [vI 0,vI 0])],121⟩ ?_
  refine rn (wg [12,13] [0] ?_)
  cases h
  exact wp_ret (show fnOut _ _ _ _=_ from by kernel_rfl)
 refine wp_skip (wp_seq ?_)
 refine wgc [12,21] [0,2] ⟨[(12,.ptr 0 0 0),(21,.ptr 1 0 0)],[oX true true 2 (.agg [vI 0,vI 0]),oX true true 2 (.agg [vI x23.1.N,vI x23.1.D])],121⟩ ?_
 refine rn (wg [12,13] [0] ?_)
 cases h
 exact wp_ret (show fnOut _ _ _ _=_ from by kernel_rfl)
theorem g_law24_threshold_ok (p0:(List Int)) (p1:Tapi_Shift) (p2:Tapi_Q) (p3:Tapi_Q) (p4:Int) (x:Bool) (h:g_law24_threshold p0 p1 p2 p3 p4=some x):CallOk Try.prog 54 [z1 p0,.agg [vI p1.Node,vI p1.Row,vI p1.From,vI p1.To],.agg [vI p2.N,vI p2.D],.agg [vI p3.N,vI p3.D],vI p4] (.ret (vB x) []):=by
 refine fn_ok [] Try.func54 rfl (by decide +kernel) rfl ?_
 unfold g_law24_threshold at h
 refine wp_eqB (base':=0) (st':=⟨[(0,z1 p0),(1,.agg [vI p1.Node,vI p1.Row,vI p1.From,vI p1.To]),(2,.agg [vI p2.N,vI p2.D]),(3,.agg [vI p3.N,vI p3.D]),(4,vI p4)],[],29⟩) kr kr ?_
 refine sq (wp_seq (rga hfol ?_))
 refine callW bodyB_31 (fun x1 q2=>CallOk.froz (g_law24_rain_ok  x1 q2) (snap_agg (msnap_cons rfl (msnap_cons (snap_full (w:=3) (bx:=false) (ro:=false) rfl) msnap_nil (by rfl)) (by rfl)))) h (fun x1 q2 h=>?_)
 refine sy 3 4 ?_
 refine callW bodyB_21 (g_sensitive_Threshold_ok x1 p0 0 1 p1 p2) h (fun x3 _ h=>?_)
 refine sy 6 11 (rgd (wp_seq ?_))
 refine wgc [4,8,11,12] [2,3] ⟨[(4,vI p4),(8,.ptr 0 0 0),(11,.ptr 1 0 0),(12,vI x3.2)],[oX true true 2 (.agg [vI p3.N,vI p3.D]),oX true true 2 (.agg [vI x3.1.N,vI x3.1.D])],29⟩ ?_
 refine reg_in (sz 4 4 (rwg [8,11,24] [0,1] ?_))
 refine rb [24] h (fun q6 h=>?_) (fun q6 h=>?_)
 ·refine sz 5 9 (reg_end rfl (wg [10] [] ?_))
  cases h
  exact wp_ret (show fnOut _ _ _ _=_ from by kernel_rfl)
 refine sz 5 9 (reg_end rfl (wg [10] [] ?_))
 cases h
 exact wp_ret (show fnOut _ _ _ _=_ from by kernel_rfl)
end Go.Ab
