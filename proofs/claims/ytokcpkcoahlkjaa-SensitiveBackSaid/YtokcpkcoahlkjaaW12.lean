/- What functions compute. No conditions. -/
import Derived.Test.YtokcpkcoahlkjaaProg
import Derived.Test.YtokcpkcoahlkjaaW8
import Derived.KernelRfl
import Derived.Test.YtokcpkcoahlkjaaW10
import Derived.Test.YtokcpkcoahlkjaaW9
import Derived.Test.YtokcpkcoahlkjaaW11
import Derived.IntWalk
set_option linter.all false
namespace Go.Ab
open Go Go.Proofs
set_option maxRecDepth 100000
set_option maxHeartbeats 4000000
theorem g_ref05_Known_Of_ok (p0:Tharuspexref05_Known) (p1:Tapi_Net) (x:(List Int)) (h:g_ref05_Known_Of p0 p1=some x):CallOk Try.prog 26 [.agg [.int .u8 p0.Which,.int .u8 p0.V.1,.int .u8 p0.V.2.1,.int .u8 p0.V.2.2.1,.int .u8 p0.V.2.2.2.1,.int .u8 p0.V.2.2.2.2.1,.int .u8 p0.V.2.2.2.2.2.1,.int .u8 p0.V.2.2.2.2.2.2.1,.int .u8 p0.V.2.2.2.2.2.2.2],.agg [vI p1.Grain,eL false eTapi_Node p1.Nodes]] (.ret (.ref 0 0 x.length) [oR true 1 eI x]):=by
 refine fn_ok [] Try.func26 rfl (by decide +kernel) rfl ?_
 unfold g_ref05_Known_Of at h
 refine wp_eqB (base':=0) (st':=⟨[(0,.agg [.int .u8 p0.Which,.int .u8 p0.V.1,.int .u8 p0.V.2.1,.int .u8 p0.V.2.2.1,.int .u8 p0.V.2.2.2.1,.int .u8 p0.V.2.2.2.2.1,.int .u8 p0.V.2.2.2.2.2.1,.int .u8 p0.V.2.2.2.2.2.2.1,.int .u8 p0.V.2.2.2.2.2.2.2]),(1,.agg [vI p1.Grain,eL false eTapi_Node p1.Nodes])],[],39⟩) kr kr ?_
 refine wp_seq (reg_in (sz 1 1 ?_))
 refine sgL false [] [] false gE ?_
 refine sz 1 3 (reg_end rfl (sq (wp_seq (sq (wp_block ?_)))))
 refine wwh h (fun s1=>⟨[(2,.ptr 0 0 0),(3,.ptr 1 0 0),(5,.ref 2 0 s1.2.length),(6,vI s1.1)],[oX true true 9 (.agg [.int .u8 p0.Which,.int .u8 p0.V.1,.int .u8 p0.V.2.1,.int .u8 p0.V.2.2.1,.int .u8 p0.V.2.2.2.1,.int .u8 p0.V.2.2.2.2.1,.int .u8 p0.V.2.2.2.2.2.1,.int .u8 p0.V.2.2.2.2.2.2.1,.int .u8 p0.V.2.2.2.2.2.2.2]),oX true false 2 (.agg [vI p1.Grain,eL false eTapi_Node p1.Nodes]),oR true 1 eI s1.2],39⟩) (fun v out=>out=.go (.exit 0) ⟨[(5,.ref 0 0 v.length)],[oR true 1 eI v],39⟩) (wk_trans (wk_gc (live:=[2,3,5,6]) (keep:=[0,1]) (st':=⟨[(2,.ptr 0 0 0),(3,.ptr 1 0 0),(5,.nils),(6,vI 0)],[oX true true 9 (.agg [.int .u8 p0.Which,.int .u8 p0.V.1,.int .u8 p0.V.2.1,.int .u8 p0.V.2.2.1,.int .u8 p0.V.2.2.2.1,.int .u8 p0.V.2.2.2.2.1,.int .u8 p0.V.2.2.2.2.2.1,.int .u8 p0.V.2.2.2.2.2.2.1,.int .u8 p0.V.2.2.2.2.2.2.2]),oX true false 2 (.agg [vI p1.Grain,eL false eTapi_Node p1.Nodes])],39⟩) kr) (wk_trans (wk_nil 5 1 true true (st':=⟨[(2,.ptr 0 0 0),(3,.ptr 1 0 0),(5,.ref 2 0 0),(6,vI 0)],[oX true true 9 (.agg [.int .u8 p0.Which,.int .u8 p0.V.1,.int .u8 p0.V.2.1,.int .u8 p0.V.2.2.1,.int .u8 p0.V.2.2.2.1,.int .u8 p0.V.2.2.2.2.1,.int .u8 p0.V.2.2.2.2.2.1,.int .u8 p0.V.2.2.2.2.2.2.1,.int .u8 p0.V.2.2.2.2.2.2.2]),oX true false 2 (.agg [vI p1.Grain,eL false eTapi_Node p1.Nodes]),.row false false true true 1 []],39⟩) kr) (wk_gc (live:=[2,3,5,6]) (keep:=[0,1,2]) kr))) ?_ ?_
 ·intro s1 o h
  unfold g_ref05_Known_Of_b0 at h
  refine wp_seq (wp_seq (reg_in (sz 3 3 ?_)))
  refine lenL (enc:=eTapi_Node) (l:=p1.Nodes) (fl:=false) kr gE ?_
  refine sz 1 5 (reg_end rfl ?_)
  refine wbz h (fun q3 h=>?_) (fun q3 h=>?_)
  ·refine wp_skip (wp_seq (wp_block (wp_seq (wg [2,3,5,6] [0,1,2] (rn (wp_seq (wp_seq (reg_in (sz 4 4 ?_)))))))))
   refine shrR (k:=.u8) (k':=.u64) (a:=p0.Which) (b:=zv (s1.1)) kr gE h (fun h=>?_)
   refine sz 2 7 (reg_end rfl ?_)
   refine wbz h (fun q5 h=>?_) (fun q5 h=>?_)
   ·refine wgc [2,3,5,6] [0,1,2] ⟨[(2,.ptr 0 0 0),(3,.ptr 1 0 0),(5,.ref 2 0 s1.2.length),(6,vI s1.1)],[oX true true 9 (.agg [.int .u8 p0.Which,.int .u8 p0.V.1,.int .u8 p0.V.2.1,.int .u8 p0.V.2.2.1,.int .u8 p0.V.2.2.2.1,.int .u8 p0.V.2.2.2.2.1,.int .u8 p0.V.2.2.2.2.2.1,.int .u8 p0.V.2.2.2.2.2.2.1,.int .u8 p0.V.2.2.2.2.2.2.2]),oX true false 2 (.agg [vI p1.Grain,eL false eTapi_Node p1.Nodes]),oR true 1 eI s1.2],39⟩ ?_
    refine rga hfol (sy 2 2 ?_)
    refine reqI (n:=s1.1) (m:=0) (S:=fun n6=>⟨[(2,.ptr 0 0 0),(3,.ptr 1 0 0),(5,.ref 2 0 s1.2.length),(6,vI n6),(22,vI n6),(23,.ptr 0 0 1)],[oX true true 9 (.agg [.int .u8 p0.Which,.int .u8 p0.V.1,.int .u8 p0.V.2.1,.int .u8 p0.V.2.2.1,.int .u8 p0.V.2.2.2.1,.int .u8 p0.V.2.2.2.2.1,.int .u8 p0.V.2.2.2.2.2.1,.int .u8 p0.V.2.2.2.2.2.2.1,.int .u8 p0.V.2.2.2.2.2.2.2]),oX true false 2 (.agg [vI p1.Grain,eL false eTapi_Node p1.Nodes]),oR true 1 eI s1.2],39⟩) h (fun _ h=>?_) (fun _ h=>?_)
    ·refine sy 6 8 ?_
     refine bind_elim h (fun a7 q8 h=>?_)
     refine idxL' (enc:=eTapi_Node) (l:=p1.Nodes) (n:=0) (fl:=false) (w:=3) (a:=a7) kr rfl gE q8 ?_
     refine sy 2 11 ?_
     refine remR (k:=.i64) (a:=zw (p0.V.1)) (b:=a7.Card) kr gE h (fun h=>?_)
     refine sy 1 13 (rgd (wg [2,3,5,6,7] [0,1,2] (reg_in (sz 2 2 ?_))))
     refine sgL false [] [] true gE ?_
     refine appR (enc:=eI) (l:=s1.2) (m:=([Int.tmod (zw (p0.V.1)) a7.Card]:(List Int))) (w:=1) (bytes:=8) (ob:=2) (nr:=true) (fl:=true) (nr':=true) (fl':=true) (b:=.ref 3 0 1) (rds:=[3]) false kr kr kr rfl gE kr h (fun h=>?_)
     refine sz 1 5 (reg_end rfl ?_)
     refine wgc [2,3,5,6] [0,1,4] ⟨[(2,.ptr 0 0 0),(3,.ptr 1 0 0),(5,.ref 2 0 ((s1.2++([Int.tmod (zw (p0.V.1)) a7.Card]:(List Int))).length)),(6,vI 0)],[oX true true 9 (.agg [.int .u8 p0.Which,.int .u8 p0.V.1,.int .u8 p0.V.2.1,.int .u8 p0.V.2.2.1,.int .u8 p0.V.2.2.2.1,.int .u8 p0.V.2.2.2.2.1,.int .u8 p0.V.2.2.2.2.2.1,.int .u8 p0.V.2.2.2.2.2.2.1,.int .u8 p0.V.2.2.2.2.2.2.2]),oX true false 2 (.agg [vI p1.Grain,eL false eTapi_Node p1.Nodes]),oR true 1 eI (s1.2++([Int.tmod (zw (p0.V.1)) a7.Card]:(List Int)))],39⟩ ?_
     refine rn ?_
     cases h
     exact ⟨_,rfl,(wk_gc (live:=[2,3,5,6]) (keep:=[0,1,2]) kr)⟩
    refine reqI (n:=s1.1) (m:=1) (S:=fun n9=>⟨[(2,.ptr 0 0 0),(3,.ptr 1 0 0),(5,.ref 2 0 s1.2.length),(6,vI n9),(22,vI n9),(23,.ptr 0 0 1)],[oX true true 9 (.agg [.int .u8 p0.Which,.int .u8 p0.V.1,.int .u8 p0.V.2.1,.int .u8 p0.V.2.2.1,.int .u8 p0.V.2.2.2.1,.int .u8 p0.V.2.2.2.2.1,.int .u8 p0.V.2.2.2.2.2.1,.int .u8 p0.V.2.2.2.2.2.2.1,.int .u8 p0.V.2.2.2.2.2.2.2]),oX true false 2 (.agg [vI p1.Grain,eL false eTapi_Node p1.Nodes]),oR true 1 eI s1.2],39⟩) h (fun _ h=>?_) (fun _ h=>?_)
    ·refine sy 6 8 ?_
     refine bind_elim h (fun a10 q11 h=>?_)
     refine idxL' (enc:=eTapi_Node) (l:=p1.Nodes) (n:=1) (fl:=false) (w:=3) (a:=a10) kr rfl gE q11 ?_
     refine sy 2 11 ?_
     refine remR (k:=.i64) (a:=zw (p0.V.2.1)) (b:=a10.Card) kr gE h (fun h=>?_)
     refine sy 1 13 (rgd (wg [2,3,5,6,7] [0,1,2] (reg_in (sz 2 2 ?_))))
     refine sgL false [] [] true gE ?_
     refine appR (enc:=eI) (l:=s1.2) (m:=([Int.tmod (zw (p0.V.2.1)) a10.Card]:(List Int))) (w:=1) (bytes:=8) (ob:=2) (nr:=true) (fl:=true) (nr':=true) (fl':=true) (b:=.ref 3 0 1) (rds:=[3]) false kr kr kr rfl gE kr h (fun h=>?_)
     refine sz 1 5 (reg_end rfl ?_)
     refine wgc [2,3,5,6] [0,1,4] ⟨[(2,.ptr 0 0 0),(3,.ptr 1 0 0),(5,.ref 2 0 ((s1.2++([Int.tmod (zw (p0.V.2.1)) a10.Card]:(List Int))).length)),(6,vI 1)],[oX true true 9 (.agg [.int .u8 p0.Which,.int .u8 p0.V.1,.int .u8 p0.V.2.1,.int .u8 p0.V.2.2.1,.int .u8 p0.V.2.2.2.1,.int .u8 p0.V.2.2.2.2.1,.int .u8 p0.V.2.2.2.2.2.1,.int .u8 p0.V.2.2.2.2.2.2.1,.int .u8 p0.V.2.2.2.2.2.2.2]),oX true false 2 (.agg [vI p1.Grain,eL false eTapi_Node p1.Nodes]),oR true 1 eI (s1.2++([Int.tmod (zw (p0.V.2.1)) a10.Card]:(List Int)))],39⟩ ?_
     refine rn ?_
     cases h
     exact ⟨_,rfl,(wk_gc (live:=[2,3,5,6]) (keep:=[0,1,2]) kr)⟩
    refine reqI (n:=s1.1) (m:=2) (S:=fun n12=>⟨[(2,.ptr 0 0 0),(3,.ptr 1 0 0),(5,.ref 2 0 s1.2.length),(6,vI n12),(22,vI n12),(23,.ptr 0 0 1)],[oX true true 9 (.agg [.int .u8 p0.Which,.int .u8 p0.V.1,.int .u8 p0.V.2.1,.int .u8 p0.V.2.2.1,.int .u8 p0.V.2.2.2.1,.int .u8 p0.V.2.2.2.2.1,.int .u8 p0.V.2.2.2.2.2.1,.int .u8 p0.V.2.2.2.2.2.2.1,.int .u8 p0.V.2.2.2.2.2.2.2]),oX true false 2 (.agg [vI p1.Grain,eL false eTapi_Node p1.Nodes]),oR true 1 eI s1.2],39⟩) h (fun _ h=>?_) (fun _ h=>?_)
    ·refine sy 6 8 ?_
     refine bind_elim h (fun a13 q14 h=>?_)
     refine idxL' (enc:=eTapi_Node) (l:=p1.Nodes) (n:=2) (fl:=false) (w:=3) (a:=a13) kr rfl gE q14 ?_
     refine sy 2 11 ?_
     refine remR (k:=.i64) (a:=zw (p0.V.2.2.1)) (b:=a13.Card) kr gE h (fun h=>?_)
     refine sy 1 13 (rgd (wg [2,3,5,6,7] [0,1,2] (reg_in (sz 2 2 ?_))))
     refine sgL false [] [] true gE ?_
     refine appR (enc:=eI) (l:=s1.2) (m:=([Int.tmod (zw (p0.V.2.2.1)) a13.Card]:(List Int))) (w:=1) (bytes:=8) (ob:=2) (nr:=true) (fl:=true) (nr':=true) (fl':=true) (b:=.ref 3 0 1) (rds:=[3]) false kr kr kr rfl gE kr h (fun h=>?_)
     refine sz 1 5 (reg_end rfl ?_)
     refine wgc [2,3,5,6] [0,1,4] ⟨[(2,.ptr 0 0 0),(3,.ptr 1 0 0),(5,.ref 2 0 ((s1.2++([Int.tmod (zw (p0.V.2.2.1)) a13.Card]:(List Int))).length)),(6,vI 2)],[oX true true 9 (.agg [.int .u8 p0.Which,.int .u8 p0.V.1,.int .u8 p0.V.2.1,.int .u8 p0.V.2.2.1,.int .u8 p0.V.2.2.2.1,.int .u8 p0.V.2.2.2.2.1,.int .u8 p0.V.2.2.2.2.2.1,.int .u8 p0.V.2.2.2.2.2.2.1,.int .u8 p0.V.2.2.2.2.2.2.2]),oX true false 2 (.agg [vI p1.Grain,eL false eTapi_Node p1.Nodes]),oR true 1 eI (s1.2++([Int.tmod (zw (p0.V.2.2.1)) a13.Card]:(List Int)))],39⟩ ?_
     refine rn ?_
     cases h
     exact ⟨_,rfl,(wk_gc (live:=[2,3,5,6]) (keep:=[0,1,2]) kr)⟩
    refine reqI (n:=s1.1) (m:=3) (S:=fun n15=>⟨[(2,.ptr 0 0 0),(3,.ptr 1 0 0),(5,.ref 2 0 s1.2.length),(6,vI n15),(22,vI n15),(23,.ptr 0 0 1)],[oX true true 9 (.agg [.int .u8 p0.Which,.int .u8 p0.V.1,.int .u8 p0.V.2.1,.int .u8 p0.V.2.2.1,.int .u8 p0.V.2.2.2.1,.int .u8 p0.V.2.2.2.2.1,.int .u8 p0.V.2.2.2.2.2.1,.int .u8 p0.V.2.2.2.2.2.2.1,.int .u8 p0.V.2.2.2.2.2.2.2]),oX true false 2 (.agg [vI p1.Grain,eL false eTapi_Node p1.Nodes]),oR true 1 eI s1.2],39⟩) h (fun _ h=>?_) (fun _ h=>?_)
    ·refine sy 6 8 ?_
     refine bind_elim h (fun a16 q17 h=>?_)
     refine idxL' (enc:=eTapi_Node) (l:=p1.Nodes) (n:=3) (fl:=false) (w:=3) (a:=a16) kr rfl gE q17 ?_
     refine sy 2 11 ?_
     refine remR (k:=.i64) (a:=zw (p0.V.2.2.2.1)) (b:=a16.Card) kr gE h (fun h=>?_)
     refine sy 1 13 (rgd (wg [2,3,5,6,7] [0,1,2] (reg_in (sz 2 2 ?_))))
     refine sgL false [] [] true gE ?_
     refine appR (enc:=eI) (l:=s1.2) (m:=([Int.tmod (zw (p0.V.2.2.2.1)) a16.Card]:(List Int))) (w:=1) (bytes:=8) (ob:=2) (nr:=true) (fl:=true) (nr':=true) (fl':=true) (b:=.ref 3 0 1) (rds:=[3]) false kr kr kr rfl gE kr h (fun h=>?_)
     refine sz 1 5 (reg_end rfl ?_)
     refine wgc [2,3,5,6] [0,1,4] ⟨[(2,.ptr 0 0 0),(3,.ptr 1 0 0),(5,.ref 2 0 ((s1.2++([Int.tmod (zw (p0.V.2.2.2.1)) a16.Card]:(List Int))).length)),(6,vI 3)],[oX true true 9 (.agg [.int .u8 p0.Which,.int .u8 p0.V.1,.int .u8 p0.V.2.1,.int .u8 p0.V.2.2.1,.int .u8 p0.V.2.2.2.1,.int .u8 p0.V.2.2.2.2.1,.int .u8 p0.V.2.2.2.2.2.1,.int .u8 p0.V.2.2.2.2.2.2.1,.int .u8 p0.V.2.2.2.2.2.2.2]),oX true false 2 (.agg [vI p1.Grain,eL false eTapi_Node p1.Nodes]),oR true 1 eI (s1.2++([Int.tmod (zw (p0.V.2.2.2.1)) a16.Card]:(List Int)))],39⟩ ?_
     refine rn ?_
     cases h
     exact ⟨_,rfl,(wk_gc (live:=[2,3,5,6]) (keep:=[0,1,2]) kr)⟩
    refine reqI (n:=s1.1) (m:=4) (S:=fun n18=>⟨[(2,.ptr 0 0 0),(3,.ptr 1 0 0),(5,.ref 2 0 s1.2.length),(6,vI n18),(22,vI n18),(23,.ptr 0 0 1)],[oX true true 9 (.agg [.int .u8 p0.Which,.int .u8 p0.V.1,.int .u8 p0.V.2.1,.int .u8 p0.V.2.2.1,.int .u8 p0.V.2.2.2.1,.int .u8 p0.V.2.2.2.2.1,.int .u8 p0.V.2.2.2.2.2.1,.int .u8 p0.V.2.2.2.2.2.2.1,.int .u8 p0.V.2.2.2.2.2.2.2]),oX true false 2 (.agg [vI p1.Grain,eL false eTapi_Node p1.Nodes]),oR true 1 eI s1.2],39⟩) h (fun _ h=>?_) (fun _ h=>?_)
    ·refine sy 6 8 ?_
     refine bind_elim h (fun a19 q20 h=>?_)
     refine idxL' (enc:=eTapi_Node) (l:=p1.Nodes) (n:=4) (fl:=false) (w:=3) (a:=a19) kr rfl gE q20 ?_
     refine sy 2 11 ?_
     refine remR (k:=.i64) (a:=zw (p0.V.2.2.2.2.1)) (b:=a19.Card) kr gE h (fun h=>?_)
     refine sy 1 13 (rgd (wg [2,3,5,6,7] [0,1,2] (reg_in (sz 2 2 ?_))))
     refine sgL false [] [] true gE ?_
     refine appR (enc:=eI) (l:=s1.2) (m:=([Int.tmod (zw (p0.V.2.2.2.2.1)) a19.Card]:(List Int))) (w:=1) (bytes:=8) (ob:=2) (nr:=true) (fl:=true) (nr':=true) (fl':=true) (b:=.ref 3 0 1) (rds:=[3]) false kr kr kr rfl gE kr h (fun h=>?_)
     refine sz 1 5 (reg_end rfl ?_)
     refine wgc [2,3,5,6] [0,1,4] ⟨[(2,.ptr 0 0 0),(3,.ptr 1 0 0),(5,.ref 2 0 ((s1.2++([Int.tmod (zw (p0.V.2.2.2.2.1)) a19.Card]:(List Int))).length)),(6,vI 4)],[oX true true 9 (.agg [.int .u8 p0.Which,.int .u8 p0.V.1,.int .u8 p0.V.2.1,.int .u8 p0.V.2.2.1,.int .u8 p0.V.2.2.2.1,.int .u8 p0.V.2.2.2.2.1,.int .u8 p0.V.2.2.2.2.2.1,.int .u8 p0.V.2.2.2.2.2.2.1,.int .u8 p0.V.2.2.2.2.2.2.2]),oX true false 2 (.agg [vI p1.Grain,eL false eTapi_Node p1.Nodes]),oR true 1 eI (s1.2++([Int.tmod (zw (p0.V.2.2.2.2.1)) a19.Card]:(List Int)))],39⟩ ?_
     refine rn ?_
     cases h
     exact ⟨_,rfl,(wk_gc (live:=[2,3,5,6]) (keep:=[0,1,2]) kr)⟩
    refine reqI (n:=s1.1) (m:=5) (S:=fun n21=>⟨[(2,.ptr 0 0 0),(3,.ptr 1 0 0),(5,.ref 2 0 s1.2.length),(6,vI n21),(22,vI n21),(23,.ptr 0 0 1)],[oX true true 9 (.agg [.int .u8 p0.Which,.int .u8 p0.V.1,.int .u8 p0.V.2.1,.int .u8 p0.V.2.2.1,.int .u8 p0.V.2.2.2.1,.int .u8 p0.V.2.2.2.2.1,.int .u8 p0.V.2.2.2.2.2.1,.int .u8 p0.V.2.2.2.2.2.2.1,.int .u8 p0.V.2.2.2.2.2.2.2]),oX true false 2 (.agg [vI p1.Grain,eL false eTapi_Node p1.Nodes]),oR true 1 eI s1.2],39⟩) h (fun _ h=>?_) (fun _ h=>?_)
    ·refine sy 6 8 ?_
     refine bind_elim h (fun a22 q23 h=>?_)
     refine idxL' (enc:=eTapi_Node) (l:=p1.Nodes) (n:=5) (fl:=false) (w:=3) (a:=a22) kr rfl gE q23 ?_
     refine sy 2 11 ?_
     refine remR (k:=.i64) (a:=zw (p0.V.2.2.2.2.2.1)) (b:=a22.Card) kr gE h (fun h=>?_)
     refine sy 1 13 (rgd (wg [2,3,5,6,7] [0,1,2] (reg_in (sz 2 2 ?_))))
     refine sgL false [] [] true gE ?_
     refine appR (enc:=eI) (l:=s1.2) (m:=([Int.tmod (zw (p0.V.2.2.2.2.2.1)) a22.Card]:(List Int))) (w:=1) (bytes:=8) (ob:=2) (nr:=true) (fl:=true) (nr':=true) (fl':=true) (b:=.ref 3 0 1) (rds:=[3]) false kr kr kr rfl gE kr h (fun h=>?_)
     refine sz 1 5 (reg_end rfl ?_)
     refine wgc [2,3,5,6] [0,1,4] ⟨[(2,.ptr 0 0 0),(3,.ptr 1 0 0),(5,.ref 2 0 ((s1.2++([Int.tmod (zw (p0.V.2.2.2.2.2.1)) a22.Card]:(List Int))).length)),(6,vI 5)],[oX true true 9 (.agg [.int .u8 p0.Which,.int .u8 p0.V.1,.int .u8 p0.V.2.1,.int .u8 p0.V.2.2.1,.int .u8 p0.V.2.2.2.1,.int .u8 p0.V.2.2.2.2.1,.int .u8 p0.V.2.2.2.2.2.1,.int .u8 p0.V.2.2.2.2.2.2.1,.int .u8 p0.V.2.2.2.2.2.2.2]),oX true false 2 (.agg [vI p1.Grain,eL false eTapi_Node p1.Nodes]),oR true 1 eI (s1.2++([Int.tmod (zw (p0.V.2.2.2.2.2.1)) a22.Card]:(List Int)))],39⟩ ?_
     refine rn ?_
     cases h
     exact ⟨_,rfl,(wk_gc (live:=[2,3,5,6]) (keep:=[0,1,2]) kr)⟩
    refine reqI (n:=s1.1) (m:=6) (S:=fun n24=>⟨[(2,.ptr 0 0 0),(3,.ptr 1 0 0),(5,.ref 2 0 s1.2.length),(6,vI n24),(22,vI n24),(23,.ptr 0 0 1)],[oX true true 9 (.agg [.int .u8 p0.Which,.int .u8 p0.V.1,.int .u8 p0.V.2.1,.int .u8 p0.V.2.2.1,.int .u8 p0.V.2.2.2.1,.int .u8 p0.V.2.2.2.2.1,.int .u8 p0.V.2.2.2.2.2.1,.int .u8 p0.V.2.2.2.2.2.2.1,.int .u8 p0.V.2.2.2.2.2.2.2]),oX true false 2 (.agg [vI p1.Grain,eL false eTapi_Node p1.Nodes]),oR true 1 eI s1.2],39⟩) h (fun _ h=>?_) (fun _ h=>?_)
    ·refine sy 6 8 ?_
     refine bind_elim h (fun a25 q26 h=>?_)
     refine idxL' (enc:=eTapi_Node) (l:=p1.Nodes) (n:=6) (fl:=false) (w:=3) (a:=a25) kr rfl gE q26 ?_
     refine sy 2 11 ?_
     refine remR (k:=.i64) (a:=zw (p0.V.2.2.2.2.2.2.1)) (b:=a25.Card) kr gE h (fun h=>?_)
     refine sy 1 13 (rgd (wg [2,3,5,6,7] [0,1,2] (reg_in (sz 2 2 ?_))))
     refine sgL false [] [] true gE ?_
     refine appR (enc:=eI) (l:=s1.2) (m:=([Int.tmod (zw (p0.V.2.2.2.2.2.2.1)) a25.Card]:(List Int))) (w:=1) (bytes:=8) (ob:=2) (nr:=true) (fl:=true) (nr':=true) (fl':=true) (b:=.ref 3 0 1) (rds:=[3]) false kr kr kr rfl gE kr h (fun h=>?_)
     refine sz 1 5 (reg_end rfl ?_)
     refine wgc [2,3,5,6] [0,1,4] ⟨[(2,.ptr 0 0 0),(3,.ptr 1 0 0),(5,.ref 2 0 ((s1.2++([Int.tmod (zw (p0.V.2.2.2.2.2.2.1)) a25.Card]:(List Int))).length)),(6,vI 6)],[oX true true 9 (.agg [.int .u8 p0.Which,.int .u8 p0.V.1,.int .u8 p0.V.2.1,.int .u8 p0.V.2.2.1,.int .u8 p0.V.2.2.2.1,.int .u8 p0.V.2.2.2.2.1,.int .u8 p0.V.2.2.2.2.2.1,.int .u8 p0.V.2.2.2.2.2.2.1,.int .u8 p0.V.2.2.2.2.2.2.2]),oX true false 2 (.agg [vI p1.Grain,eL false eTapi_Node p1.Nodes]),oR true 1 eI (s1.2++([Int.tmod (zw (p0.V.2.2.2.2.2.2.1)) a25.Card]:(List Int)))],39⟩ ?_
     refine rn ?_
     cases h
     exact ⟨_,rfl,(wk_gc (live:=[2,3,5,6]) (keep:=[0,1,2]) kr)⟩
    refine reqI (n:=s1.1) (m:=7) (S:=fun n27=>⟨[(2,.ptr 0 0 0),(3,.ptr 1 0 0),(5,.ref 2 0 s1.2.length),(6,vI n27),(22,vI n27),(23,.ptr 0 0 1)],[oX true true 9 (.agg [.int .u8 p0.Which,.int .u8 p0.V.1,.int .u8 p0.V.2.1,.int .u8 p0.V.2.2.1,.int .u8 p0.V.2.2.2.1,.int .u8 p0.V.2.2.2.2.1,.int .u8 p0.V.2.2.2.2.2.1,.int .u8 p0.V.2.2.2.2.2.2.1,.int .u8 p0.V.2.2.2.2.2.2.2]),oX true false 2 (.agg [vI p1.Grain,eL false eTapi_Node p1.Nodes]),oR true 1 eI s1.2],39⟩) h (fun _ h=>?_) (fun _ h=>?_)
    ·refine sy 6 8 ?_
     refine bind_elim h (fun a28 q29 h=>?_)
     refine idxL' (enc:=eTapi_Node) (l:=p1.Nodes) (n:=7) (fl:=false) (w:=3) (a:=a28) kr rfl gE q29 ?_
     refine sy 2 11 ?_
     refine remR (k:=.i64) (a:=zw (p0.V.2.2.2.2.2.2.2)) (b:=a28.Card) kr gE h (fun h=>?_)
     refine sy 1 13 (rgd (wg [2,3,5,6,7] [0,1,2] (reg_in (sz 2 2 ?_))))
     refine sgL false [] [] true gE ?_
     refine appR (enc:=eI) (l:=s1.2) (m:=([Int.tmod (zw (p0.V.2.2.2.2.2.2.2)) a28.Card]:(List Int))) (w:=1) (bytes:=8) (ob:=2) (nr:=true) (fl:=true) (nr':=true) (fl':=true) (b:=.ref 3 0 1) (rds:=[3]) false kr kr kr rfl gE kr h (fun h=>?_)
     refine sz 1 5 (reg_end rfl ?_)
     refine wgc [2,3,5,6] [0,1,4] ⟨[(2,.ptr 0 0 0),(3,.ptr 1 0 0),(5,.ref 2 0 ((s1.2++([Int.tmod (zw (p0.V.2.2.2.2.2.2.2)) a28.Card]:(List Int))).length)),(6,vI 7)],[oX true true 9 (.agg [.int .u8 p0.Which,.int .u8 p0.V.1,.int .u8 p0.V.2.1,.int .u8 p0.V.2.2.1,.int .u8 p0.V.2.2.2.1,.int .u8 p0.V.2.2.2.2.1,.int .u8 p0.V.2.2.2.2.2.1,.int .u8 p0.V.2.2.2.2.2.2.1,.int .u8 p0.V.2.2.2.2.2.2.2]),oX true false 2 (.agg [vI p1.Grain,eL false eTapi_Node p1.Nodes]),oR true 1 eI (s1.2++([Int.tmod (zw (p0.V.2.2.2.2.2.2.2)) a28.Card]:(List Int)))],39⟩ ?_
     refine rn ?_
     cases h
     exact ⟨_,rfl,(wk_gc (live:=[2,3,5,6]) (keep:=[0,1,2]) kr)⟩
    cases h
   refine wp_skip ?_
   refine wgc [2,3,5,6,7] [0,1,2] ⟨[(2,.ptr 0 0 0),(3,.ptr 1 0 0),(5,.ref 2 0 s1.2.length),(6,vI s1.1),(7,vI (-1))],[oX true true 9 (.agg [.int .u8 p0.Which,.int .u8 p0.V.1,.int .u8 p0.V.2.1,.int .u8 p0.V.2.2.1,.int .u8 p0.V.2.2.2.1,.int .u8 p0.V.2.2.2.2.1,.int .u8 p0.V.2.2.2.2.2.1,.int .u8 p0.V.2.2.2.2.2.2.1,.int .u8 p0.V.2.2.2.2.2.2.2]),oX true false 2 (.agg [vI p1.Grain,eL false eTapi_Node p1.Nodes]),oR true 1 eI s1.2],39⟩ ?_
   refine reg_in (sz 2 2 ?_)
   refine sgL false [] [] true gE ?_
   refine appR (enc:=eI) (l:=s1.2) (m:=([-1]:(List Int))) (w:=1) (bytes:=8) (ob:=2) (nr:=true) (fl:=true) (nr':=true) (fl':=true) (b:=.ref 3 0 1) (rds:=[3]) false kr kr kr rfl gE kr h (fun h=>?_)
   refine sz 1 5 (reg_end rfl (wg [2,3,5,6] [0,1,4] (rn ?_)))
   cases h
   exact ⟨_,rfl,(wk_gc (live:=[2,3,5,6]) (keep:=[0,1,2]) kr)⟩
  refine wg [5] [2] ?_
  refine wp_exit ?_
  cases h
  exact ⟨kr,rfl⟩
 intro x31 h out hx
 subst hx
 refine sq (wg [4] [0] ?_)
 cases h
 exact wp_ret (show fnOut _ _ _ _=_ from by kernel_rfl)
theorem g_ref24_Draft_Of_ok (p0:Tharuspexref24_Draft) (p1:Tapi_Net) (x:(Int × Int × Tapi_Shift)) (h:g_ref24_Draft_Of p0 p1=some x):CallOk Try.prog 27 [.agg [.int .u8 p0.V,.int .u8 p0.Value,.int .u8 p0.Node,.int .u8 p0.Row,.int .u8 p0.From,.int .u8 p0.To],.agg [vI p1.Grain,eL false eTapi_Node p1.Nodes]] (.ret (.tup [vI x.1,vI x.2.1,.agg [vI x.2.2.Node,vI x.2.2.Row,vI x.2.2.From,vI x.2.2.To]]) []):=by
 refine fn_ok [] Try.func27 rfl (by decide +kernel) rfl ?_
 unfold g_ref24_Draft_Of at h
 refine wp_eqB (base':=0) (st':=⟨[(0,.agg [.int .u8 p0.V,.int .u8 p0.Value,.int .u8 p0.Node,.int .u8 p0.Row,.int .u8 p0.From,.int .u8 p0.To]),(1,.agg [vI p1.Grain,eL false eTapi_Node p1.Nodes])],[],74⟩) kr kr ?_
 refine wp_seq (reg_in (sz 1 1 ?_))
 refine sgL false [] [] false gE ?_
 refine sz 3 5 (reg_end rfl (wp_seq (reg_in (sz 5 5 ?_))))
 refine lenL (enc:=eTapi_Node) (l:=p1.Nodes) (fl:=false) kr gE ?_
 refine remR (k:=.i64) (a:=zw (p0.V)) (b:=(zn p1.Nodes)) kr gE h (fun h=>?_)
 refine sz 1 8 (reg_end rfl (wp_seq ?_))
 refine wgc [2,3,6,7] [0,1,2] ⟨[(2,.ptr 0 0 0),(3,.ptr 1 0 0),(6,.ptr 2 0 0),(7,vI (Int.tmod (zw (p0.V)) (zn p1.Nodes)))],[oX true true 6 (.agg [.int .u8 p0.V,.int .u8 p0.Value,.int .u8 p0.Node,.int .u8 p0.Row,.int .u8 p0.From,.int .u8 p0.To]),oX true false 2 (.agg [vI p1.Grain,eL false eTapi_Node p1.Nodes]),oX true true 4 (.agg [vI 0,vI 0,vI 0,vI 0])],74⟩ ?_
 refine reg_in (sz 5 5 ?_)
 refine lenL (enc:=eTapi_Node) (l:=p1.Nodes) (fl:=false) kr gE ?_
 refine remR (k:=.i64) (a:=zw (p0.Node)) (b:=(zn p1.Nodes)) kr gE h (fun h=>?_)
 refine sz 3 10 (reg_end rfl (wp_seq (wg [2,3,6,7,8] [0,1,2,3] (reg_in (sz 4 4 ?_)))))
 refine bind_elim h (fun a1 q2 h=>?_)
 refine idxL' (enc:=eTapi_Node) (l:=p1.Nodes) (n:=Int.tmod (zw (p0.Node)) (zn p1.Nodes)) (fl:=false) (w:=3) (a:=a1) kr rfl gE q2 ?_
 refine sz 1 6 ?_
 refine sgL false [] [] false gE ?_
 refine sz 1 8 (reg_end rfl (wp_seq ?_))
 refine wgc [2,3,6,7,8,9] [0,1,2,3,4] ⟨[(2,.ptr 0 0 0),(3,.ptr 1 0 0),(6,.ptr 2 0 0),(7,vI (Int.tmod (zw (p0.V)) (zn p1.Nodes))),(8,.ptr 3 0 0),(9,.ptr 4 0 0)],[oX true true 6 (.agg [.int .u8 p0.V,.int .u8 p0.Value,.int .u8 p0.Node,.int .u8 p0.Row,.int .u8 p0.From,.int .u8 p0.To]),oX true false 2 (.agg [vI p1.Grain,eL false eTapi_Node p1.Nodes]),oX true true 4 (.agg [vI 0,vI 0,vI 0,vI 0]),oX true true 4 (.agg [vI (Int.tmod (zw (p0.Node)) (zn p1.Nodes)),vI 0,vI 0,vI 0]),oX true false 3 (.agg [vI a1.Card,z1 a1.Parents,z2 a1.Rows])],74⟩ ?_
 refine rga hfol (sy 5 5 ?_)
 refine lenL (enc:=z1) (l:=a1.Rows) (fl:=false) kr gE ?_
 refine remR (k:=.i64) (a:=zw (p0.Row)) (b:=(zn a1.Rows)) kr gE h (fun h=>?_)
 refine sy 5 12 ?_
 refine remR (k:=.i64) (a:=zw (p0.From)) (b:=a1.Card) kr gE h (fun h=>?_)
 refine sy 4 17 (rgd (wp_seq ?_))
 refine wgc [2,3,6,7,8,9] [0,1,2,3,4] ⟨[(2,.ptr 0 0 0),(3,.ptr 1 0 0),(6,.ptr 2 0 0),(7,vI (Int.tmod (zw (p0.V)) (zn p1.Nodes))),(8,.ptr 3 0 0),(9,.ptr 4 0 0)],[oX true true 6 (.agg [.int .u8 p0.V,.int .u8 p0.Value,.int .u8 p0.Node,.int .u8 p0.Row,.int .u8 p0.From,.int .u8 p0.To]),oX true false 2 (.agg [vI p1.Grain,eL false eTapi_Node p1.Nodes]),oX true true 4 (.agg [vI 0,vI 0,vI 0,vI 0]),oX true true 4 (.agg [vI (Int.tmod (zw (p0.Node)) (zn p1.Nodes)),vI (Int.tmod (zw (p0.Row)) (zn a1.Rows)),vI (Int.tmod (zw (p0.From)) a1.Card),vI 0]),oX true false 3 (.agg [vI a1.Card,z1 a1.Parents,z2 a1.Rows])],74⟩ ?_
 refine rga hfol (sy 10 10 ?_)
 refine remR (k:=.i64) (a:=zw (p0.To)) (b:=(if (zw (a1.Card - 1)) > 1 then (zw (a1.Card - 1)) else 1)) kr gE h (fun h=>?_)
 refine sy 3 14 ?_
 refine remR (k:=.i64) (a:=zw ((zw ((Int.tmod (zw (p0.From)) a1.Card)+1))+(Int.tmod (zw (p0.To)) (if (zw (a1.Card - 1)) > 1 then (zw (a1.Card - 1)) else 1)))) (b:=a1.Card) kr gE h (fun h=>?_)
 refine sy 2 17 (rgd (wp_seq ?_))
 refine wgc [2,3,6,7,8] [0,1,2,3] ⟨[(2,.ptr 0 0 0),(3,.ptr 1 0 0),(6,.ptr 2 0 0),(7,vI (Int.tmod (zw (p0.V)) (zn p1.Nodes))),(8,.ptr 3 0 0)],[oX true true 6 (.agg [.int .u8 p0.V,.int .u8 p0.Value,.int .u8 p0.Node,.int .u8 p0.Row,.int .u8 p0.From,.int .u8 p0.To]),oX true false 2 (.agg [vI p1.Grain,eL false eTapi_Node p1.Nodes]),oX true true 4 (.agg [vI 0,vI 0,vI 0,vI 0]),oX true true 4 (.agg [vI (Int.tmod (zw (p0.Node)) (zn p1.Nodes)),vI (Int.tmod (zw (p0.Row)) (zn a1.Rows)),vI (Int.tmod (zw (p0.From)) a1.Card),vI (Int.tmod (zw ((zw ((Int.tmod (zw (p0.From)) a1.Card)+1))+(Int.tmod (zw (p0.To)) (if (zw (a1.Card - 1)) > 1 then (zw (a1.Card - 1)) else 1)))) a1.Card)])],74⟩ ?_
 refine rga hfol (sy 7 7 ?_)
 refine bind_elim h (fun a3 q4 h=>?_)
 refine idxL' (enc:=eTapi_Node) (l:=p1.Nodes) (n:=Int.tmod (zw (p0.V)) (zn p1.Nodes)) (fl:=false) (w:=3) (a:=a3) kr rfl gE q4 ?_
 refine sy 2 10 ?_
 refine remR (k:=.i64) (a:=zw (p0.Value)) (b:=a3.Card) kr gE h (fun h=>?_)
 refine sy 4 15 (rgd (wg [4,5,6] [2] ?_))
 cases h
 exact wp_ret (show fnOut _ _ _ _=_ from by kernel_rfl)
theorem g_ref01_digits_ok (p0:Int) (x:(List Int)) (h:g_ref01_digits p0=some x):CallOk Try.prog 66 [vI p0] (.ret (.ref 0 0 x.length) [oR true 1 eI x]):=by
 refine fn_ok [] Try.func66 rfl (by decide +kernel) rfl ?_
 unfold g_ref01_digits at h
 refine wp_eqB (base':=0) (st':=⟨[(0,vI p0)],[],19⟩) kr kr ?_
 refine sq (sq (wp_seq (wp_block ?_)))
 refine wwh h (fun s1=>⟨[(0,vI s1.1),(3,.ref 0 0 s1.2.length)],[oR true 1 eI s1.2],19⟩) (fun v out=>out=.go (.exit 0) ⟨[(3,.ref 0 0 v.length)],[oR true 1 eI v],19⟩) (wk_trans (wk_gc (live:=[0,3]) (keep:=[]) (st':=⟨[(0,vI p0),(3,.nils)],[],19⟩) kr) (wk_trans (wk_nil 3 1 true true (st':=⟨[(0,vI p0),(3,.ref 0 0 0)],[.row false false true true 1 []],19⟩) kr) (wk_gc (live:=[0,3]) (keep:=[0]) kr))) ?_ ?_
 ·intro s1 o h
  unfold g_ref01_digits_b0 at h
  refine wp_seq (sq ?_)
  refine wb [6] h (fun q3 h=>?_) (fun q3 h=>?_)
  ·refine wcT (wp_skip (wp_block (sq (wp_seq (reg_in (sz 5 5 ?_))))))
   refine sgL false [] [] true gE ?_
   refine appR (enc:=eI) (l:=s1.2) (m:=([(if (zw (0 - (Int.tmod s1.1 10000))) > (Int.tmod s1.1 10000) then (zw (0 - (Int.tmod s1.1 10000))) else (Int.tmod s1.1 10000))]:(List Int))) (w:=1) (bytes:=8) (ob:=0) (nr:=true) (fl:=true) (nr':=true) (fl':=true) (b:=.ref 1 0 1) (rds:=[1]) false kr kr kr rfl gE kr h (fun h=>?_)
   refine sz 1 8 (reg_end rfl ?_)
   refine wgc [0,3] [2] ⟨[(0,vI s1.1),(3,.ref 0 0 ((s1.2++([(if (zw (0 - (Int.tmod s1.1 10000))) > (Int.tmod s1.1 10000) then (zw (0 - (Int.tmod s1.1 10000))) else (Int.tmod s1.1 10000))]:(List Int))).length))],[oR true 1 eI (s1.2++([(if (zw (0 - (Int.tmod s1.1 10000))) > (Int.tmod s1.1 10000) then (zw (0 - (Int.tmod s1.1 10000))) else (Int.tmod s1.1 10000))]:(List Int)))],19⟩ ?_
   refine rn ?_
   cases h
   exact ⟨_,rfl,(wk_gc (live:=[0,3]) (keep:=[0]) kr)⟩
  refine wcF (wg [3] [0] ?_)
  refine wp_exit ?_
  cases h
  exact ⟨kr,rfl⟩
 intro x5 h out hx
 subst hx
 refine sq (wg [2] [0] ?_)
 cases h
 exact wp_ret (show fnOut _ _ _ _=_ from by kernel_rfl)
theorem g_ref01_compare_ok (p0:(List Int)) (p1:(List Int)) (x:Int) (h:g_ref01_compare p0 p1=some x):CallOk Try.prog 64 [z1 p0,z1 p1] (.ret (vI x) []):=by
 refine fn_ok [] Try.func64 rfl (by decide +kernel) rfl ?_
 unfold g_ref01_compare at h
 refine wp_eqB (base':=0) (st':=⟨[(0,z1 p0),(1,z1 p1)],[],41⟩) kr kr ?_
 refine sq (wp_seq (wp_seq (reg_in (sz 1 1 ?_))))
 refine lenL (enc:=eI) (l:=p0) (fl:=true) kr gE ?_
 refine sz 1 3 ?_
 refine lenL (enc:=eI) (l:=p1) (fl:=true) kr gE ?_
 refine sz 1 5 (reg_end rfl ?_)
 refine wbz h (fun q2 h=>?_) (fun q2 h=>?_)
 ·refine wp_seq (wp_seq (wg [0,1] [] (reg_in (sz 1 1 ?_))))
  refine lenL (enc:=eI) (l:=p0) (fl:=true) kr gE ?_
  refine sz 1 3 ?_
  refine lenL (enc:=eI) (l:=p1) (fl:=true) kr gE ?_
  refine sz 1 5 (reg_end rfl ?_)
  refine wbz h (fun q4 h=>?_) (fun q4 h=>?_)
  ·refine wp_seq ?_
   refine wgc [] [] ⟨[],[],41⟩ ?_
   refine rn (wg [4] [] ?_)
   cases h
   exact wp_ret (show fnOut _ _ _ _=_ from by kernel_rfl)
  refine wp_skip (wp_seq ?_)
  refine wgc [] [] ⟨[],[],41⟩ ?_
  refine rn (wg [4] [] ?_)
  cases h
  exact wp_ret (show fnOut _ _ _ _=_ from by kernel_rfl)
 refine wp_skip (wp_seq (wp_seq (wg [0,1] [] (reg_in (sz 1 1 ?_)))))
 refine lenL (enc:=eI) (l:=p0) (fl:=true) kr gE ?_
 refine sz 2 4 (reg_end rfl (wp_block ?_))
 refine wwh h (fun s5=>⟨[(0,z1 p0),(1,z1 p1),(5,vI s5)],[],41⟩) (fun x out=>out=match x with | .inl v=>.go (.ret) ⟨[(4,vI v)],[],41⟩ | .inr v=>.go (.exit 0) ⟨[],[],41⟩) (wk_gc (live:=[0,1,5]) (keep:=[]) kr) ?_ ?_
 ·intro s5 o h
  unfold g_ref01_compare_b0 at h
  refine wp_seq (sq ?_)
  refine wb [20] h (fun q7 h=>?_) (fun q7 h=>?_)
  ·refine wcT (wp_skip (wp_seq (wp_block (wp_seq (rga hfol (sy 2 2 ?_))))))
   refine bind_elim h (fun a8 q9 h=>?_)
   refine idxL' (enc:=eI) (l:=p0) (n:=s5) (fl:=true) (w:=1) (a:=a8) kr rfl gE q9 ?_
   refine sy 3 6 ?_
   refine bind_elim h (fun a10 q11 h=>?_)
   refine idxL' (enc:=eI) (l:=p1) (n:=s5) (fl:=true) (w:=1) (a:=a10) kr rfl gE q11 ?_
   refine sy 2 9 (rgd ?_)
   refine wbz h (fun q13 h=>?_) (fun q13 h=>?_)
   ·refine wp_seq (wp_seq ?_)
    refine wgc [0,1,5] [] ⟨[(0,z1 p0),(1,z1 p1),(5,vI s5)],[],41⟩ ?_
    refine rga hfol (sy 2 2 ?_)
    refine idxL' (enc:=eI) (l:=p0) (n:=s5) (fl:=true) (w:=1) (a:=a8) kr rfl gE q9 ?_
    refine sy 3 6 ?_
    refine idxL' (enc:=eI) (l:=p1) (n:=s5) (fl:=true) (w:=1) (a:=a10) kr rfl gE q11 ?_
    refine sy 2 9 (rgd ?_)
    refine wbz h (fun q15 h=>?_) (fun q15 h=>?_)
    ·refine wp_seq (wg [] [] (rn (wg [4] [] ?_)))
     refine wp_ret ?_
     cases h
     exact ⟨kr,rfl⟩
    refine wp_skip (wp_seq (wg [] [] (rn ?_)))
    refine wgc [4] [] ⟨[(4,vI 1)],[],41⟩ ?_
    refine wp_ret ?_
    cases h
    exact ⟨kr,rfl⟩
   refine wp_skip ?_
   refine wgc [0,1,5] [] ⟨[(0,z1 p0),(1,z1 p1),(5,vI s5)],[],41⟩ ?_
   refine rn ?_
   cases h
   exact ⟨_,rfl,(wk_gc (live:=[0,1,5]) (keep:=[]) kr)⟩
  refine wcF (wg [] [] ?_)
  refine wp_exit ?_
  cases h
  exact ⟨kr,rfl⟩
 intro x16 h out hx
 subst hx
 rcases x16 with x17 | x18
 ·dsimp only at h ⊢
  cases h
  show fnOut _ _ _ _=_
  kernel_rfl
 ·dsimp only at h ⊢
  refine sq (wg [4] [] ?_)
  cases h
  exact wp_ret (show fnOut _ _ _ _=_ from by kernel_rfl)
theorem g_ref01_cut_ok (p0:(List Int)) (x:(List Int)) (h:g_ref01_cut p0=some x):CallOk Try.prog 92 [z1 p0] (.ret (z1 x) []):=by
 refine fn_ok [[.lst true]] Try.func92 rfl (by decide +kernel) rfl ?_
 unfold g_ref01_cut at h
 refine wp_eqB (base':=0) (st':=⟨[(0,z1 p0)],[],21⟩) kr kr ?_
 refine sq (wp_seq (wp_block ?_))
 refine wwh h (fun s1=>⟨[(0,z1 s1)],[],21⟩) (fun v out=>out=.go (.exit 0) ⟨[(0,z1 v)],[],21⟩) (wk_gc (live:=[0]) (keep:=[]) kr) ?_ ?_
 ·intro s1 o h
  unfold g_ref01_cut_b0 at h
  refine wp_seq (wp_seq (reg_in (sz 1 1 ?_)))
  refine lenL (enc:=eI) (l:=s1) (fl:=true) kr gE ?_
  refine sz 2 4 ?_
  refine rb [5,6] h (fun q3 h=>?_) (fun q3 h=>?_)
  ·refine sz 2 6 ?_
   refine lenL (enc:=eI) (l:=s1) (fl:=true) kr gE ?_
   refine sz 1 8 ?_
   refine bind_elim h (fun a4 q5 h=>?_)
   refine idxL' (enc:=eI) (l:=s1) (n:=zw ((zn s1) - 1)) (fl:=true) (w:=1) (a:=a4) kr rfl gE q5 ?_
   refine sz 3 12 (reg_end rfl ?_)
   refine wbz h (fun q7 h=>?_) (fun q7 h=>?_)
   ·refine wp_skip (wp_block ?_)
    refine wgc [0] [] ⟨[(0,z1 s1)],[],21⟩ ?_
    refine reg_in (sz 2 2 ?_)
    refine lenL (enc:=eI) (l:=s1) (fl:=true) kr gE ?_
    refine sz 1 4 ?_
    refine sliceL (enc:=eI) (l:=s1) (fl:=true) (lo:=none) (hi:=(some (vI (zw ((zn s1) - 1))))) (a:=0) (b:=zw ((zn s1) - 1)) (w:=1) kr (fun _=>rfl) rfl rfl gE h (fun h=>?_)
    refine sz 1 6 (reg_end rfl ?_)
    cases h
    exact ⟨_,rfl,(wk_gc (live:=[0]) (keep:=[]) kr)⟩
   refine wgc [0] [] ⟨[(0,z1 s1)],[],21⟩ ?_
   refine wp_exit ?_
   cases h
   exact ⟨kr,rfl⟩
  refine sz 8 12 (reg_end rfl (wcF (wg [0] [] ?_)))
  refine wp_exit ?_
  cases h
  exact ⟨kr,rfl⟩
 intro x9 h out hx
 subst hx
 refine sq (wg [2] [] ?_)
 cases h
 exact wp_ret (show fnOut _ _ _ _=_ from by kernel_rfl)
theorem g_ref01_times_ok (p0:(List Int)) (p1:(List Int)) (x:(List Int)) (h:g_ref01_times p0 p1=some x):CallOk Try.prog 67 [z1 p0,z1 p1] (.ret (z1 x) []):=by
 refine fn_ok [[.lst true]] Try.func67 rfl (by decide +kernel) rfl ?_
 unfold g_ref01_times at h
 refine wp_eqB (base':=0) (st':=⟨[(0,z1 p0),(1,z1 p1)],[],65⟩) kr kr ?_
 refine sq (wp_seq (reg_in (sz 1 1 ?_)))
 refine lenL (enc:=eI) (l:=p0) (fl:=true) kr gE ?_
 refine sz 1 3 ?_
 refine lenL (enc:=eI) (l:=p1) (fl:=true) kr gE ?_
 refine sz 1 5 ?_
 refine mkL (enc:=eI) (z:=(0:Int)) (z0:=vI 0) (n:=zw ((zn p0)+(zn p1))) (m:=zw ((zn p0)+(zn p1))) (w:=1) (bytes:=8) [] true kr rfl gE kr h (fun h=>?_)
 refine sz 1 7 (reg_end rfl (wp_seq (wp_seq (wg [0,1,5] [0] (rn (wp_block ?_))))))
 refine wwh h (fun s1=>⟨[(0,z1 p0),(1,z1 p1),(5,.ref 0 0 s1.2.length),(6,vI s1.1)],[oR true 1 eI s1.2],65⟩) (fun v out=>out=.go (.exit 0) ⟨[(5,.ref 0 0 v.length)],[oR true 1 eI v],65⟩) (wk_gc (live:=[0,1,5,6]) (keep:=[0]) kr) ?_ ?_
 ·intro s1 o h
  unfold g_ref01_times_b1 at h
  refine wp_seq (wp_seq (reg_in (sz 2 2 ?_)))
  refine lenL (enc:=eI) (l:=p0) (fl:=true) kr gE ?_
  refine sz 1 4 (reg_end rfl ?_)
  refine wb [18] h (fun q3 h=>?_) (fun q3 h=>?_)
  ·refine wcT (wp_skip (wp_seq (wp_block (sq (sq (wp_block ?_))))))
   refine wwh h (fun s4=>⟨[(0,z1 p0),(1,z1 p1),(5,.ref 0 0 s4.2.2.length),(6,vI s1.1),(7,vI s4.1),(8,vI s4.2.1)],[oR true 1 eI s4.2.2],65⟩) (fun v out=>out=.go (.exit 2) ⟨[(0,z1 p0),(1,z1 p1),(5,.ref 0 0 v.length),(6,vI s1.1)],[oR true 1 eI v],65⟩) (wk_gc (live:=[0,1,5,6,7,8]) (keep:=[0]) kr) ?_ ?_
   ·intro s4 o h
    unfold g_ref01_times_b0 at h
    refine wp_seq (wp_seq (reg_in (sz 2 2 ?_)))
    refine lenL (enc:=eI) (l:=p1) (fl:=true) kr gE ?_
    refine sz 2 5 (rwg [0,1,5,6,7,8,25] [0] ?_)
    refine rb [25] h (fun q6 h=>?_) (fun q6 h=>?_)
    ·refine sz 3 8 (reg_end rfl (wcT (wp_skip (wp_seq (wp_block (wp_seq (reg_in (sz 5 5 ?_))))))))
     refine bind_elim h (fun a7 q8 h=>?_)
     refine idxR' (enc:=eI) (l:=s4.2.2) (n:=zw (s1.1+s4.2.1)) (w:=1) (ob:=0) (ro:=false) (nr:=true) (fl:=true) (a:=a7) kr kr gE q8 ?_
     refine loadR (enc:=eI) (l:=s4.2.2) (n:=zw (s1.1+s4.2.1)) (w:=1) (ob:=0) (c:=0) (bx:=false) (ro:=false) (nr:=true) (fl:=true) (a:=a7) kr kr q8 gE ?_
     refine sz 2 9 (reg_end rfl (wp_seq (wp_seq ?_)))
     refine wgc [0,1,5,6,7,8] [0] ⟨[(0,z1 p0),(1,z1 p1),(5,.ref 0 0 s4.2.2.length),(6,vI s1.1),(7,vI (zw (s4.1+a7))),(8,vI s4.2.1)],[oR true 1 eI s4.2.2],65⟩ ?_
     refine reg_in (sz 2 2 ?_)
     refine lenL (enc:=eI) (l:=p1) (fl:=true) kr gE ?_
     refine sz 1 4 (reg_end rfl ?_)
     refine wk [42] q6 ?_
     refine wcT (rga hfol (sy 3 3 ?_))
     refine bind_elim h (fun a10 q11 h=>?_)
     refine idxL' (enc:=eI) (l:=p0) (n:=s1.1) (fl:=true) (w:=1) (a:=a10) kr rfl gE q11 ?_
     refine sy 3 7 ?_
     refine bind_elim h (fun a12 q13 h=>?_)
     refine idxL' (enc:=eI) (l:=p1) (n:=s4.2.1) (fl:=true) (w:=1) (a:=a12) kr rfl gE q13 ?_
     refine sy 4 12 (rgd (wp_seq ?_))
     refine wgc [0,1,5,6,7,8] [0] ⟨[(0,z1 p0),(1,z1 p1),(5,.ref 0 0 s4.2.2.length),(6,vI s1.1),(7,vI (zw ((zw (s4.1+a7))+(zw (a10*a12))))),(8,vI s4.2.1)],[oR true 1 eI s4.2.2],65⟩ ?_
     refine reg_in (sz 6 6 ?_)
     refine idxR' (enc:=eI) (l:=s4.2.2) (n:=zw (s1.1+s4.2.1)) (w:=1) (ob:=0) (ro:=false) (nr:=true) (fl:=true) (a:=a7) kr kr gE q8 ?_
     refine bind_elim h (fun a14 q15 h=>?_)
     refine storeR (enc:=eI) (l:=s4.2.2) (n:=(zw (s1.1+s4.2.1))) (ob:=0) (w:=1) (bx:=false) (nr:=true) (fl:=true) (c:=0) (a:=a14) (a':=Int.tmod (zw ((zw (s4.1+a7))+(zw (a10*a12)))) 10000) (v:=vI (Int.tmod (zw ((zw (s4.1+a7))+(zw (a10*a12)))) 10000)) false kr kr q15 kr rfl kr gE kr ?_
     refine rl [5,54] (n:=s4.2.2.length) (m:=(List.set s4.2.2 (zt (zw (s1.1+s4.2.1))) (Int.tmod (zw ((zw (s4.1+a7))+(zw (a10*a12)))) 10000)).length) (by simp only [List.length_set]) ?_
     refine reg_end rfl (wg [0,1,5,6,7,8] [0] (rn (rn ?_)))
     cases h
     exact ⟨_,rfl,(wk_gc (live:=[0,1,5,6,7,8]) (keep:=[0]) kr)⟩
    refine sz 3 8 (reg_end rfl ?_)
    refine wb [27,28] h (fun q18 h=>?_) (fun q18 h=>?_)
    ·refine wcT (wp_skip (wp_seq (wp_block (wp_seq (reg_in (sz 5 5 ?_))))))
     refine bind_elim h (fun a19 q20 h=>?_)
     refine idxR' (enc:=eI) (l:=s4.2.2) (n:=zw (s1.1+s4.2.1)) (w:=1) (ob:=0) (ro:=false) (nr:=true) (fl:=true) (a:=a19) kr kr gE q20 ?_
     refine loadR (enc:=eI) (l:=s4.2.2) (n:=zw (s1.1+s4.2.1)) (w:=1) (ob:=0) (c:=0) (bx:=false) (ro:=false) (nr:=true) (fl:=true) (a:=a19) kr kr q20 gE ?_
     refine sz 2 9 (reg_end rfl (wp_seq (wp_seq ?_)))
     refine wgc [0,1,5,6,7,8] [0] ⟨[(0,z1 p0),(1,z1 p1),(5,.ref 0 0 s4.2.2.length),(6,vI s1.1),(7,vI (zw (s4.1+a19))),(8,vI s4.2.1)],[oR true 1 eI s4.2.2],65⟩ ?_
     refine reg_in (sz 2 2 ?_)
     refine lenL (enc:=eI) (l:=p1) (fl:=true) kr gE ?_
     refine sz 1 4 (reg_end rfl ?_)
     refine wk [42] q6 ?_
     refine wcF (wp_skip (wp_seq (reg_in (sz 6 6 ?_))))
     refine idxR' (enc:=eI) (l:=s4.2.2) (n:=zw (s1.1+s4.2.1)) (w:=1) (ob:=0) (ro:=false) (nr:=true) (fl:=true) (a:=a19) kr kr gE q20 ?_
     refine bind_elim h (fun a22 q23 h=>?_)
     refine storeR (enc:=eI) (l:=s4.2.2) (n:=(zw (s1.1+s4.2.1))) (ob:=0) (w:=1) (bx:=false) (nr:=true) (fl:=true) (c:=0) (a:=a22) (a':=Int.tmod (zw (s4.1+a19)) 10000) (v:=vI (Int.tmod (zw (s4.1+a19)) 10000)) false kr kr q23 kr rfl kr gE kr ?_
     refine rl [5,54] (n:=s4.2.2.length) (m:=(List.set s4.2.2 (zt (zw (s1.1+s4.2.1))) (Int.tmod (zw (s4.1+a19)) 10000)).length) (by simp only [List.length_set]) ?_
     refine reg_end rfl ?_
     refine wgc [0,1,5,6,7,8] [0] ⟨[(0,z1 p0),(1,z1 p1),(5,.ref 0 0 ((List.set s4.2.2 (zt (zw (s1.1+s4.2.1))) (Int.tmod (zw (s4.1+a19)) 10000)).length)),(6,vI s1.1),(7,vI (zw (s4.1+a19))),(8,vI s4.2.1)],[oR true 1 eI (List.set s4.2.2 (zt (zw (s1.1+s4.2.1))) (Int.tmod (zw (s4.1+a19)) 10000))],65⟩ ?_
     refine rn (rn ?_)
     cases h
     exact ⟨_,rfl,(wk_gc (live:=[0,1,5,6,7,8]) (keep:=[0]) kr)⟩
    refine wcF (wg [0,1,5,6] [0] ?_)
    refine wp_exit ?_
    cases h
    exact ⟨kr,rfl⟩
   intro x26 h out hx
   subst hx
   refine rn ?_
   cases h
   exact ⟨_,rfl,(wk_gc (live:=[0,1,5,6]) (keep:=[0]) kr)⟩
  refine wcF (wg [5] [0] ?_)
  refine wp_exit ?_
  cases h
  exact ⟨kr,rfl⟩
 intro x28 h out hx
 subst hx
 refine wp_seq (reg_in (sz 1 1 ?_))
 refine callR (as0:=[.ref 0 0 x28.length]) (ids:=[0]) kr bodyB_92 (msnap_cons (snap_full (w:=1) (bx:=false) (ro:=false) kr) msnap_nil (by rfl)) (fun x29 q30=>g_ref01_cut_ok x28 x29 q30) gF h (fun x29 q30 h=>?_)
 refine sz 1 3 (reg_end rfl (wg [4] [] ?_))
 cases h
 exact wp_ret (show fnOut _ _ _ _=_ from by kernel_rfl)
theorem g_ref01_minus_ok (p0:(List Int)) (p1:(List Int)) (x:(List Int)) (h:g_ref01_minus p0 p1=some x):CallOk Try.prog 106 [z1 p0,z1 p1] (.ret (z1 x) []):=by
 refine fn_ok [[.lst true]] Try.func106 rfl (by decide +kernel) rfl ?_
 unfold g_ref01_minus at h
 refine wp_eqB (base':=0) (st':=⟨[(0,z1 p0),(1,z1 p1)],[],41⟩) kr kr ?_
 refine sq (sq (sq (wp_seq (sq (wp_block ?_)))))
 refine wwh h (fun s1=>⟨[(0,z1 p0),(1,z1 p1),(5,.ref 0 0 s1.2.2.length),(6,vI s1.1),(7,vI s1.2.1)],[oR true 1 eI s1.2.2],41⟩) (fun v out=>out=.go (.exit 0) ⟨[(5,.ref 0 0 v.length)],[oR true 1 eI v],41⟩) (wk_trans (wk_gc (live:=[0,1,5,6,7]) (keep:=[]) (st':=⟨[(0,z1 p0),(1,z1 p1),(5,.nils),(6,vI 0),(7,vI 0)],[],41⟩) kr) (wk_trans (wk_nil 5 1 true true (st':=⟨[(0,z1 p0),(1,z1 p1),(5,.ref 0 0 0),(6,vI 0),(7,vI 0)],[.row false false true true 1 []],41⟩) kr) (wk_gc (live:=[0,1,5,6,7]) (keep:=[0]) kr))) ?_ ?_
 ·intro s1 o h
  unfold g_ref01_minus_b0 at h
  refine wp_seq (wp_seq (reg_in (sz 2 2 ?_)))
  refine lenL (enc:=eI) (l:=p0) (fl:=true) kr gE ?_
  refine sz 1 4 (reg_end rfl ?_)
  refine wb [12] h (fun q3 h=>?_) (fun q3 h=>?_)
  ·refine wcT (wp_skip (wp_seq (wp_block (wp_seq (reg_in (sz 2 2 ?_))))))
   refine bind_elim h (fun a4 q5 h=>?_)
   refine idxL' (enc:=eI) (l:=p0) (n:=s1.2.1) (fl:=true) (w:=1) (a:=a4) kr rfl gE q5 ?_
   refine sz 4 7 (reg_end rfl (wp_seq (wp_seq ?_)))
   refine wgc [0,1,5,7,8] [0] ⟨[(0,z1 p0),(1,z1 p1),(5,.ref 0 0 s1.2.2.length),(7,vI s1.2.1),(8,vI (zw (a4 - s1.1)))],[oR true 1 eI s1.2.2],41⟩ ?_
   refine reg_in (sz 2 2 ?_)
   refine lenL (enc:=eI) (l:=p1) (fl:=true) kr gE ?_
   refine sz 1 4 (reg_end rfl ?_)
   refine wb [24] h (fun q7 h=>?_) (fun q7 h=>?_)
   ·refine wcT (reg_in (sz 3 3 ?_))
    refine bind_elim h (fun a8 q9 h=>?_)
    refine idxL' (enc:=eI) (l:=p1) (n:=s1.2.1) (fl:=true) (w:=1) (a:=a8) kr rfl gE q9 ?_
    refine sz 3 7 (reg_end rfl (wp_seq ?_))
    refine wgc [0,1,5,7,8] [0] ⟨[(0,z1 p0),(1,z1 p1),(5,.ref 0 0 s1.2.2.length),(7,vI s1.2.1),(8,vI (zw ((zw (a4 - s1.1)) - a8)))],[oR true 1 eI s1.2.2],41⟩ ?_
    refine rn (wp_seq (sq ?_))
    refine wb [32] h (fun q11 h=>?_) (fun q11 h=>?_)
    ·refine wcT (sq (wg [0,1,5,7,8] [0] (rn (reg_in (sz 2 2 ?_)))))
     refine sgL false [] [] true gE ?_
     refine appR (enc:=eI) (l:=s1.2.2) (m:=([zw ((zw ((zw (a4 - s1.1)) - a8))+10000)]:(List Int))) (w:=1) (bytes:=8) (ob:=0) (nr:=true) (fl:=true) (nr':=true) (fl':=true) (b:=.ref 1 0 1) (rds:=[1]) false kr kr kr rfl gE kr h (fun h=>?_)
     refine sz 1 5 (reg_end rfl ?_)
     refine wgc [0,1,5,7,6] [2] ⟨[(0,z1 p0),(1,z1 p1),(5,.ref 0 0 ((s1.2.2++([zw ((zw ((zw (a4 - s1.1)) - a8))+10000)]:(List Int))).length)),(7,vI s1.2.1),(6,vI 1)],[oR true 1 eI (s1.2.2++([zw ((zw ((zw (a4 - s1.1)) - a8))+10000)]:(List Int)))],41⟩ ?_
     refine rn ?_
     cases h
     exact ⟨_,rfl,(wk_gc (live:=[0,1,5,6,7]) (keep:=[0]) kr)⟩
    refine wcF (wp_skip (reg_in (sz 2 2 ?_)))
    refine sgL false [] [] true gE ?_
    refine appR (enc:=eI) (l:=s1.2.2) (m:=([zw ((zw (a4 - s1.1)) - a8)]:(List Int))) (w:=1) (bytes:=8) (ob:=0) (nr:=true) (fl:=true) (nr':=true) (fl':=true) (b:=.ref 1 0 1) (rds:=[1]) false kr kr kr rfl gE kr h (fun h=>?_)
    refine sz 1 5 (reg_end rfl ?_)
    refine wgc [0,1,5,7,6] [2] ⟨[(0,z1 p0),(1,z1 p1),(5,.ref 0 0 ((s1.2.2++([zw ((zw (a4 - s1.1)) - a8)]:(List Int))).length)),(7,vI s1.2.1),(6,vI 0)],[oR true 1 eI (s1.2.2++([zw ((zw (a4 - s1.1)) - a8)]:(List Int)))],41⟩ ?_
    refine rn ?_
    cases h
    exact ⟨_,rfl,(wk_gc (live:=[0,1,5,6,7]) (keep:=[0]) kr)⟩
   refine wcF (wp_skip (sq (wp_seq (sq ?_))))
   refine wbz h (fun q13 h=>?_) (fun q13 h=>?_)
   ·refine wp_seq ?_
    refine wgc [0,1,5,7,8] [0] ⟨[(0,z1 p0),(1,z1 p1),(5,.ref 0 0 s1.2.2.length),(7,vI s1.2.1),(8,vI (zw (a4 - s1.1)))],[oR true 1 eI s1.2.2],41⟩ ?_
    refine rn (rn (reg_in (sz 2 2 ?_)))
    refine sgL false [] [] true gE ?_
    refine appR (enc:=eI) (l:=s1.2.2) (m:=([zw ((zw (a4 - s1.1))+10000)]:(List Int))) (w:=1) (bytes:=8) (ob:=0) (nr:=true) (fl:=true) (nr':=true) (fl':=true) (b:=.ref 1 0 1) (rds:=[1]) false kr kr kr rfl gE kr h (fun h=>?_)
    refine sz 1 5 (reg_end rfl (wg [0,1,5,7,6] [2] (rn ?_)))
    cases h
    exact ⟨_,rfl,(wk_gc (live:=[0,1,5,6,7]) (keep:=[0]) kr)⟩
   refine wp_skip ?_
   refine wgc [0,1,5,7,8,6] [0] ⟨[(0,z1 p0),(1,z1 p1),(5,.ref 0 0 s1.2.2.length),(7,vI s1.2.1),(8,vI (zw (a4 - s1.1))),(6,vI 0)],[oR true 1 eI s1.2.2],41⟩ ?_
   refine reg_in (sz 2 2 ?_)
   refine sgL false [] [] true gE ?_
   refine appR (enc:=eI) (l:=s1.2.2) (m:=([zw (a4 - s1.1)]:(List Int))) (w:=1) (bytes:=8) (ob:=0) (nr:=true) (fl:=true) (nr':=true) (fl':=true) (b:=.ref 1 0 1) (rds:=[1]) false kr kr kr rfl gE kr h (fun h=>?_)
   refine sz 1 5 (reg_end rfl (wg [0,1,5,7,6] [2] (rn ?_)))
   cases h
   exact ⟨_,rfl,(wk_gc (live:=[0,1,5,6,7]) (keep:=[0]) kr)⟩
  refine wcF (wg [5] [0] ?_)
  refine wp_exit ?_
  cases h
  exact ⟨kr,rfl⟩
 intro x15 h out hx
 subst hx
 refine wp_seq (reg_in (sz 1 1 ?_))
 refine callR (as0:=[.ref 0 0 x15.length]) (ids:=[0]) kr bodyB_92 (msnap_cons (snap_full (w:=1) (bx:=false) (ro:=false) kr) msnap_nil (by rfl)) (fun x16 q17=>g_ref01_cut_ok x15 x16 q17) gF h (fun x16 q17 h=>?_)
 refine sz 1 3 (reg_end rfl (wg [4] [] ?_))
 cases h
 exact wp_ret (show fnOut _ _ _ _=_ from by kernel_rfl)
theorem g_ref01_divide_ok (p0:(List Int)) (p1:(List Int)) (x:((List Int) × (List Int))) (h:g_ref01_divide p0 p1=some x):CallOk Try.prog 91 [z1 p0,z1 p1] (.ret (.tup [z1 x.1,z1 x.2]) []):=by
 refine fn_ok [[.lst true],[.lst true]] Try.func91 rfl (by decide +kernel) rfl ?_
 unfold g_ref01_divide at h
 refine wp_eqB (base':=0) (st':=⟨[(0,z1 p0),(1,z1 p1)],[],124⟩) kr kr ?_
 refine sq (wp_seq (reg_in (sz 1 1 ?_)))
 refine lenL (enc:=eI) (l:=p1) (fl:=true) kr gE ?_
 refine sz 2 4 (reg_end rfl (wp_seq (wp_seq (wg [0,1,6] [] (reg_in (sz 1 1 ?_))))))
 refine lenL (enc:=eI) (l:=p0) (fl:=true) kr gE ?_
 refine sz 2 4 (reg_end rfl ?_)
 refine wb [22] h (fun q2 h=>?_) (fun q2 h=>?_)
 ·refine wcT (wp_seq ?_)
  refine wgc [0] [] ⟨[(0,z1 p0)],[],124⟩ ?_
  refine reg_in (sz 2 2 ?_)
  refine appN (enc:=eI) (m:=p0) (w:=1) (bytes:=8) (nr':=true) (fl':=true) (a:=.emp) (b:=z1 p0) (rds:=[]) false kr (.inr rfl) (elems_lst (fun _=>rfl)) rfl gE kr h (fun h=>?_)
  refine sz 2 5 (reg_end rfl ?_)
  refine wgc [4,5] [0] ⟨[(4,.nils),(5,.ref 0 0 p0.length)],[oR true 1 eI p0],124⟩ ?_
  refine wp_wk (wk_snap 5 (st':=⟨[(4,.nils),(5,z1 p0)],[.row false true true true 1 (List.map eI p0)],124⟩) (y:=z1 p0) (ids:=[0]) rfl (snap_full (w:=1) (bx:=false) (ro:=false) kr) kr) ?_
  cases h
  exact wp_ret (show fnOut _ _ _ _=_ from by kernel_rfl)
 refine wcF (wp_skip (wp_seq (reg_in (sz 1 1 ?_))))
 refine lenL (enc:=eI) (l:=p0) (fl:=true) kr gE ?_
 refine sz 2 4 ?_
 refine mkL (enc:=eI) (z:=(0:Int)) (z0:=vI 0) (n:=zw ((zn p0) - (zw ((zn p1) - 1)))) (m:=zw ((zn p0) - (zw ((zn p1) - 1)))) (w:=1) (bytes:=8) [] true kr rfl gE kr h (fun h=>?_)
 refine sz 1 6 (reg_end rfl (wp_seq ?_))
 refine wgc [0,1,6,7] [0] ⟨[(0,z1 p0),(1,z1 p1),(6,vI (zw ((zn p1) - 1))),(7,.ref 0 0 ((List.replicate (zt (zw ((zn p0) - (zw ((zn p1) - 1))))) (0:Int)).length))],[oR true 1 eI (List.replicate (zt (zw ((zn p0) - (zw ((zn p1) - 1))))) (0:Int))],124⟩ ?_
 refine reg_in (sz 3 3 ?_)
 refine lenL (enc:=eI) (l:=p0) (fl:=true) kr gE ?_
 refine sz 2 6 ?_
 refine sliceL (enc:=eI) (l:=p0) (fl:=true) (lo:=(some (vI (zw ((zn p0) - (zw ((zn p1) - 1))))))) (hi:=none) (a:=zw ((zn p0) - (zw ((zn p1) - 1)))) (b:=(zn p0)) (w:=1) kr (fun _=>rfl) rfl rfl gE h (fun h=>?_)
 refine appN (enc:=eI) (m:=(sub p0 (zw ((zn p0) - (zw ((zn p1) - 1)))) (zn p0))) (w:=1) (bytes:=8) (nr':=true) (fl':=true) (a:=.emp) (b:=z1 (sub p0 (zw ((zn p0) - (zw ((zn p1) - 1)))) (zn p0))) (rds:=[]) false kr (.inr rfl) (elems_lst (fun _=>rfl)) rfl gE kr h (fun h=>?_)
 refine sz 1 9 (reg_end rfl (wp_seq (wp_seq (wg [0,1,6,7,8] [0,1] ?_))))
 refine rgN (S:=⟨[(0,z1 p0),(1,z1 p1),(6,vI (zw ((zn p1) - 1))),(7,.ref 0 0 ((List.replicate (zt (zw ((zn p0) - (zw ((zn p1) - 1))))) (0:Int)).length)),(8,.ref 1 0 ((sub p0 (zw ((zn p0) - (zw ((zn p1) - 1)))) (zn p0)).length))]++[(39,.ref 0 0 ((List.replicate (zt (zw ((zn p0) - (zw ((zn p1) - 1))))) (0:Int)).length)),(40,vI (((List.replicate (zt (zw ((zn p0) - (zw ((zn p1) - 1))))) (0:Int)).length):Int)),(41,vI (zw ((((List.replicate (zt (zw ((zn p0) - (zw ((zn p1) - 1))))) (0:Int)).length):Int) - 1))),(9,vI (zw ((((List.replicate (zt (zw ((zn p0) - (zw ((zn p1) - 1))))) (0:Int)).length):Int) - 1)))],[oR true 1 eI (List.replicate (zt (zw ((zn p0) - (zw ((zn p1) - 1))))) (0:Int)),oR true 1 eI (sub p0 (zw ((zn p0) - (zw ((zn p1) - 1)))) (zn p0))],124⟩) ?_
 refine wp_block ?_
 refine wwh h (fun s3=>⟨[(0,z1 p0),(1,z1 p1),(6,vI (zw ((zn p1) - 1))),(7,.ref 0 0 s3.2.2.length),(8,z1 s3.1),(9,vI s3.2.1)],[oR true 1 eI s3.2.2],124⟩) (fun v out=>out=.go (.exit 0) ⟨[(7,.ref 0 0 v.2.length),(8,z1 v.1)],[oR true 1 eI v.2],124⟩) (wk_trans (wk_gc (live:=[0,1,6,7,8,9]) (keep:=[0,1]) (st':=⟨[(0,z1 p0),(1,z1 p1),(6,vI (zw ((zn p1) - 1))),(7,.ref 0 0 ((List.replicate (zt (zw ((zn p0) - (zw ((zn p1) - 1))))) (0:Int)).length)),(8,.ref 1 0 ((sub p0 (zw ((zn p0) - (zw ((zn p1) - 1)))) (zn p0)).length))]++[(9,vI (zw ((((List.replicate (zt (zw ((zn p0) - (zw ((zn p1) - 1))))) (0:Int)).length):Int) - 1)))],[oR true 1 eI (List.replicate (zt (zw ((zn p0) - (zw ((zn p1) - 1))))) (0:Int)),oR true 1 eI (sub p0 (zw ((zn p0) - (zw ((zn p1) - 1)))) (zn p0))],124⟩) kr) (wk_trans (wk_snap (st':=⟨[(0,z1 p0),(1,z1 p1),(6,vI (zw ((zn p1) - 1))),(7,.ref 0 0 ((List.replicate (zt (zw ((zn p0) - (zw ((zn p1) - 1))))) (0:Int)).length))]++[(8,z1 (sub p0 (zw ((zn p0) - (zw ((zn p1) - 1)))) (zn p0))),(9,vI (zw ((((List.replicate (zt (zw ((zn p0) - (zw ((zn p1) - 1))))) (0:Int)).length):Int) - 1)))],[oR true 1 eI (List.replicate (zt (zw ((zn p0) - (zw ((zn p1) - 1))))) (0:Int)),.row false true true true 1 (List.map eI (sub p0 (zw ((zn p0) - (zw ((zn p1) - 1)))) (zn p0)))],124⟩) 8 (y:=z1 (sub p0 (zw ((zn p0) - (zw ((zn p1) - 1)))) (zn p0))) (ids:=[1]) rfl (snap_full (w:=1) (bx:=false) (ro:=false) kr) kr) (wk_gc (live:=[0,1,6,7,8,9]) (keep:=[0]) kr))) ?_ ?_
 ·intro s3 o h
  unfold g_ref01_divide_b2 at h
  refine wp_seq (sq ?_)
  refine wb [43] h (fun q5 h=>?_) (fun q5 h=>?_)
  ·refine wcT (wp_skip (wp_seq (wp_block (wp_seq (reg_in (sz 2 2 ?_))))))
   refine bind_elim h (fun a6 q7 h=>?_)
   refine idxL' (enc:=eI) (l:=p0) (n:=s3.2.1) (fl:=true) (w:=1) (a:=a6) kr rfl gE q7 ?_
   refine sz 1 4 ?_
   refine sgL false [] [] true gE ?_
   refine sz 1 6 ?_
   refine appR (enc:=eI) (l:=([a6]:(List Int))) (m:=s3.1) (w:=1) (bytes:=8) (ob:=1) (nr:=true) (fl:=true) (nr':=true) (fl':=true) (b:=z1 s3.1) (rds:=[]) false kr kr (elems_lst (fun _=>rfl)) rfl gE kr h (fun h=>?_)
   refine callR (as0:=[.ref 2 0 ((([a6]:(List Int))++s3.1).length)]) (ids:=[2]) kr bodyB_92 (msnap_cons (snap_full (w:=1) (bx:=false) (ro:=false) kr) msnap_nil (by rfl)) (fun x8 q9=>g_ref01_cut_ok (([a6]:(List Int))++s3.1) x8 q9) gF h (fun x8 q9 h=>?_)
   refine sz 1 9 (reg_end rfl (wp_seq ?_))
   refine wgc [0,1,6,7,8,9] [0] ⟨[(0,z1 p0),(1,z1 p1),(6,vI (zw ((zn p1) - 1))),(7,.ref 0 0 s3.2.2.length),(8,z1 x8),(9,vI s3.2.1)],[oR true 1 eI s3.2.2],124⟩ ?_
   refine rn (wp_seq (sq (wp_block ?_)))
   refine wwh h (fun s10=>⟨[(0,z1 p0),(1,z1 p1),(6,vI (zw ((zn p1) - 1))),(7,.ref 0 0 s3.2.2.length),(8,z1 x8),(9,vI s3.2.1),(10,vI s10.1),(11,vI s10.2.1),(12,vI s10.2.2)],[oR true 1 eI s3.2.2],124⟩) (fun v out=>out=.go (.exit 2) ⟨[(0,z1 p0),(1,z1 p1),(6,vI (zw ((zn p1) - 1))),(7,.ref 0 0 s3.2.2.length),(8,z1 x8),(9,vI s3.2.1)]++[(10,vI v.1),(11,vI v.2)],[oR true 1 eI s3.2.2],124⟩) (wk_gc (live:=[0,1,6,7,8,9,10,11,12]) (keep:=[0]) kr) ?_ ?_
   ·intro s10 o h
    unfold g_ref01_divide_b0 at h
    refine wp_seq (sq ?_)
    refine wbz h (fun q12 h=>?_) (fun q12 h=>?_)
    ·refine wp_skip (wp_seq (wp_block (wp_seq (wg [0,1,6,7,8,9,10,11,12] [0] (rn (wp_seq (wp_seq (reg_in (sz 2 2 ?_)))))))))
     refine lenL (enc:=eI) (l:=x8) (fl:=true) kr gE ?_
     refine sz 1 4 (reg_end rfl ?_)
     refine wbz h (fun q14 h=>?_) (fun q14 h=>?_)
     ·refine wgc [0,1,6,7,8,9,10,11,12] [0] ⟨[(0,z1 p0),(1,z1 p1),(6,vI (zw ((zn p1) - 1))),(7,.ref 0 0 s3.2.2.length),(8,z1 x8),(9,vI s3.2.1),(10,vI s10.1),(11,vI (zw (s10.2.1*10000))),(12,vI s10.2.2)],[oR true 1 eI s3.2.2],124⟩ ?_
      refine reg_in (sz 3 3 ?_)
      refine bind_elim h (fun a15 q16 h=>?_)
      refine idxL' (enc:=eI) (l:=x8) (n:=s10.2.2) (fl:=true) (w:=1) (a:=a15) kr rfl gE q16 ?_
      refine sz 3 7 (reg_end rfl (wp_seq (wg [0,1,6,7,8,9,10,11,12] [0] (rn ?_))))
      refine wb [77] h (fun q18 h=>?_) (fun q18 h=>?_)
      ·refine wcT (reg_in (sz 4 4 ?_))
       refine bind_elim h (fun a19 q20 h=>?_)
       refine idxL' (enc:=eI) (l:=p1) (n:=s10.2.2) (fl:=true) (w:=1) (a:=a19) kr rfl gE q20 ?_
       refine sz 3 8 (reg_end rfl ?_)
       refine wgc [0,1,6,7,8,9,10,11,12] [0] ⟨[(0,z1 p0),(1,z1 p1),(6,vI (zw ((zn p1) - 1))),(7,.ref 0 0 s3.2.2.length),(8,z1 x8),(9,vI s3.2.1),(10,vI (zw ((zw (s10.1*10000))+a19))),(11,vI (zw ((zw (s10.2.1*10000))+a15))),(12,vI s10.2.2)],[oR true 1 eI s3.2.2],124⟩ ?_
       refine rn ?_
       cases h
       exact ⟨_,rfl,(wk_gc (live:=[0,1,6,7,8,9,10,11,12]) (keep:=[0]) kr)⟩
      refine wcF (wp_skip (rn ?_))
      cases h
      exact ⟨_,rfl,(wk_gc (live:=[0,1,6,7,8,9,10,11,12]) (keep:=[0]) kr)⟩
     refine wp_skip (wp_seq ?_)
     refine wgc [0,1,6,7,8,9,10,11,12] [0] ⟨[(0,z1 p0),(1,z1 p1),(6,vI (zw ((zn p1) - 1))),(7,.ref 0 0 s3.2.2.length),(8,z1 x8),(9,vI s3.2.1),(10,vI s10.1),(11,vI (zw (s10.2.1*10000))),(12,vI s10.2.2)],[oR true 1 eI s3.2.2],124⟩ ?_
     refine rn ?_
     refine wb [77] h (fun q22 h=>?_) (fun q22 h=>?_)
     ·refine wcT (reg_in (sz 4 4 ?_))
      refine bind_elim h (fun a23 q24 h=>?_)
      refine idxL' (enc:=eI) (l:=p1) (n:=s10.2.2) (fl:=true) (w:=1) (a:=a23) kr rfl gE q24 ?_
      refine sz 3 8 (reg_end rfl (wg [0,1,6,7,8,9,10,11,12] [0] (rn ?_)))
      cases h
      exact ⟨_,rfl,(wk_gc (live:=[0,1,6,7,8,9,10,11,12]) (keep:=[0]) kr)⟩
     refine wcF (wp_skip (rn ?_))
     cases h
     exact ⟨_,rfl,(wk_gc (live:=[0,1,6,7,8,9,10,11,12]) (keep:=[0]) kr)⟩
    refine wg [0,1,6,7,8,9,10,11] [0] ?_
    refine wp_exit ?_
    cases h
    exact ⟨kr,rfl⟩
   intro x26 h out hx
   subst hx
   refine wp_seq (rga hfol (sy 3 3 ?_))
   refine quoR (k:=.i64) (a:=x26.2) (b:=zw (x26.1+1)) kr gE h (fun h=>?_)
   refine sy 2 6 ?_
   refine quoR (k:=.i64) (a:=x26.2) (b:=x26.1) kr gE h (fun h=>?_)
   refine sy 2 9 (rgd (wp_seq (wp_block ?_)))
   refine wwh h (fun s27=>⟨[(0,z1 p0),(1,z1 p1),(6,vI (zw ((zn p1) - 1))),(7,.ref 0 0 s3.2.2.length),(8,z1 x8),(9,vI s3.2.1),(13,vI s27.1),(14,vI s27.2)],[oR true 1 eI s3.2.2],124⟩) (fun v out=>out=.go (.exit 4) ⟨[(0,z1 p0),(1,z1 p1),(6,vI (zw ((zn p1) - 1))),(7,.ref 0 0 s3.2.2.length),(8,z1 x8),(9,vI s3.2.1)]++[(13,vI v)],[oR true 1 eI s3.2.2],124⟩) (wk_gc (live:=[0,1,6,7,8,9,13,14]) (keep:=[0]) kr) ?_ ?_
   ·intro s27 o h
    unfold g_ref01_divide_b1 at h
    refine wp_seq (sq ?_)
    refine wb [94] h (fun q29 h=>?_) (fun q29 h=>?_)
    ·refine wcT (wp_skip (wp_block (sq (wp_seq (wg [0,1,6,7,8,9,13,14,15] [0] (reg_in (sz 2 2 ?_)))))))
     refine sgL false [] [] true gE ?_
     refine callR (as0:=[z1 p1,.ref 1 0 1]) (ids:=[1]) kr bodyB_67 (msnap_cons rfl (msnap_cons (show snap _ _ _=some (_,[1]) from kr) msnap_nil (by rfl)) (by rfl)) (fun x30 q31=>g_ref01_times_ok p1 [zw (Int.tdiv (zw ((zw (s27.1+s27.2))+1)) 2)] x30 q31) gF h (fun x30 q31 h=>?_)
     refine sz 1 5 ?_
     refine callW bodyB_64 (g_ref01_compare_ok x30 x8) h (fun x32 _ h=>?_)
     refine sz 1 7 (reg_end rfl ?_)
     refine wbz h (fun q35 h=>?_) (fun q35 h=>?_)
     ·refine wgc [0,1,6,7,8,9,14,15] [0] ⟨[(0,z1 p0),(1,z1 p1),(6,vI (zw ((zn p1) - 1))),(7,.ref 0 0 s3.2.2.length),(8,z1 x8),(9,vI s3.2.1),(14,vI s27.2),(15,vI (zw (Int.tdiv (zw ((zw (s27.1+s27.2))+1)) 2)))],[oR true 1 eI s3.2.2],124⟩ ?_
      refine rn ?_
      cases h
      exact ⟨_,rfl,(wk_gc (live:=[0,1,6,7,8,9,13,14]) (keep:=[0]) kr)⟩
     refine wgc [0,1,6,7,8,9,13,15] [0] ⟨[(0,z1 p0),(1,z1 p1),(6,vI (zw ((zn p1) - 1))),(7,.ref 0 0 s3.2.2.length),(8,z1 x8),(9,vI s3.2.1),(13,vI s27.1),(15,vI (zw (Int.tdiv (zw ((zw (s27.1+s27.2))+1)) 2)))],[oR true 1 eI s3.2.2],124⟩ ?_
     refine rn ?_
     cases h
     exact ⟨_,rfl,(wk_gc (live:=[0,1,6,7,8,9,13,14]) (keep:=[0]) kr)⟩
    refine wcF (wg [0,1,6,7,8,9,13] [0] ?_)
    refine wp_exit ?_
    cases h
    exact ⟨kr,rfl⟩
   intro x37 h out hx
   subst hx
   refine wp_seq (reg_in (sz 3 3 ?_))
   refine bind_elim h (fun a38 q39 h=>?_)
   refine idxR' (enc:=eI) (l:=s3.2.2) (n:=s3.2.1) (w:=1) (ob:=0) (ro:=false) (nr:=true) (fl:=true) (a:=a38) kr kr gE q39 ?_
   refine storeR (enc:=eI) (l:=s3.2.2) (n:=s3.2.1) (ob:=0) (w:=1) (bx:=false) (nr:=true) (fl:=true) (c:=0) (a:=a38) (a':=x37) (v:=vI x37) false kr kr q39 kr rfl kr gE kr ?_
   refine rl [7,110] (n:=s3.2.2.length) (m:=(List.set s3.2.2 (zt s3.2.1) x37).length) (by simp only [List.length_set]) ?_
   refine reg_end rfl (reg_in (sz 3 3 ?_))
   refine sgL false [] [] true gE ?_
   refine callR (as0:=[.ref 1 0 1]) (ids:=[1]) kr bodyB_92 (msnap_cons (show snap _ _ _=some (_,[1]) from kr) msnap_nil (by rfl)) (fun x40 q41=>g_ref01_cut_ok [x37] x40 q41) gF h (fun x40 q41 h=>?_)
   refine callW bodyB_67 (g_ref01_times_ok p1 x40) h (fun x42 _ h=>?_)
   refine callW bodyB_106 (g_ref01_minus_ok x8 x42) h (fun x44 _ h=>?_)
   refine sz 1 8 (reg_end rfl ?_)
   refine wgc [0,1,6,7,8,9] [0] ⟨[(0,z1 p0),(1,z1 p1),(6,vI (zw ((zn p1) - 1))),(7,.ref 0 0 ((List.set s3.2.2 (zt s3.2.1) x37).length)),(8,z1 x44),(9,vI s3.2.1)],[oR true 1 eI (List.set s3.2.2 (zt s3.2.1) x37)],124⟩ ?_
   refine rn ?_
   cases h
   exact ⟨_,rfl,(wk_gc (live:=[0,1,6,7,8,9]) (keep:=[0]) kr)⟩
  refine wcF (wg [7,8] [0] ?_)
  refine wp_exit ?_
  cases h
  exact ⟨kr,rfl⟩
 intro x48 h out hx
 subst hx
 refine wp_seq (reg_in (sz 1 1 ?_))
 refine callR (as0:=[.ref 0 0 x48.2.length]) (ids:=[0]) kr bodyB_92 (msnap_cons (snap_full (w:=1) (bx:=false) (ro:=false) kr) msnap_nil (by rfl)) (fun x49 q50=>g_ref01_cut_ok x48.2 x49 q50) gF h (fun x49 q50 h=>?_)
 refine sz 3 5 (reg_end rfl (wg [4,5] [] ?_))
 cases h
 exact wp_ret (show fnOut _ _ _ _=_ from by kernel_rfl)
theorem g_ref01_gcd_ok (p0:(List Int)) (p1:(List Int)) (x:(List Int)) (h:g_ref01_gcd p0 p1=some x):CallOk Try.prog 65 [z1 p0,z1 p1] (.ret (z1 x) []):=by
 refine fn_ok [[.lst true]] Try.func65 rfl (by decide +kernel) rfl ?_
 unfold g_ref01_gcd at h
 refine wp_eqB (base':=0) (st':=⟨[(0,z1 p0),(1,z1 p1)],[],19⟩) kr kr ?_
 refine sq (wp_seq (wp_block ?_))
 refine wwh h (fun s1=>⟨[(0,z1 s1.1),(1,z1 s1.2)],[],19⟩) (fun v out=>out=.go (.exit 0) ⟨[(0,z1 v)],[],19⟩) (wk_gc (live:=[0,1]) (keep:=[]) kr) ?_ ?_
 ·intro s1 o h
  unfold g_ref01_gcd_b0 at h
  refine wp_seq (wp_seq (reg_in (sz 1 1 ?_)))
  refine lenL (enc:=eI) (l:=s1.2) (fl:=true) kr gE ?_
  refine sz 1 3 (reg_end rfl ?_)
  refine wb [9] h (fun q3 h=>?_) (fun q3 h=>?_)
  ·refine wcT (wp_skip (wp_block (wp_seq (reg_in (sz 2 2 ?_)))))
   refine callW bodyB_91 (g_ref01_divide_ok s1.1 s1.2) h (fun x4 _ h=>?_)
   refine sz 5 8 (reg_end rfl (wp_seq ?_))
   refine wgc [1,6] [] ⟨[(1,z1 s1.2),(6,z1 x4.2)],[],19⟩ ?_
   refine rn (rn ?_)
   cases h
   exact ⟨_,rfl,(wk_gc (live:=[0,1]) (keep:=[]) kr)⟩
  refine wcF (wg [0] [] ?_)
  refine wp_exit ?_
  cases h
  exact ⟨kr,rfl⟩
 intro x7 h out hx
 subst hx
 refine sq (wg [4] [] ?_)
 cases h
 exact wp_ret (show fnOut _ _ _ _=_ from by kernel_rfl)
theorem g_ref01_value_ok (p0:(List Int)) (x:(Int × Bool)) (h:g_ref01_value p0=some x):CallOk Try.prog 100 [z1 p0] (.ret (.tup [vI x.1,vB x.2]) []):=by
 refine fn_ok [] Try.func100 rfl (by decide +kernel) rfl ?_
 unfold g_ref01_value at h
 refine wp_eqB (base':=0) (st':=⟨[(0,z1 p0)],[],25⟩) kr kr ?_
 refine sq (wp_seq (wp_seq (reg_in (sz 1 1 ?_))))
 refine callW bodyB_66 (g_ref01_digits_ok 4611686018427387903) h (fun x1 _ h=>?_)
 refine callR (as0:=[z1 p0,.ref 0 0 x1.length]) (ids:=[0]) kr bodyB_64 (msnap_cons rfl (msnap_cons (snap_full (w:=1) (bx:=false) (ro:=false) kr) msnap_nil (by rfl)) (by rfl)) (fun x3 q4=>g_ref01_compare_ok p0 x1 x3 q4) gF h (fun x3 q4 h=>?_)
 refine sz 1 4 (reg_end rfl ?_)
 refine wbz h (fun q6 h=>?_) (fun q6 h=>?_)
 ·refine wp_seq (wg [] [] (rn ?_))
  refine wgc [2,3] [] ⟨[(2,vI 0),(3,vB false)],[],25⟩ ?_
  cases h
  exact wp_ret (show fnOut _ _ _ _=_ from by kernel_rfl)
 refine wp_skip (wp_seq (wg [0] [] (rn (wp_seq (wp_seq (reg_in (sz 1 1 ?_)))))))
 refine lenL (enc:=eI) (l:=p0) (fl:=true) kr gE ?_
 refine sz 2 4 (reg_end rfl (wp_block ?_))
 refine wwh h (fun s7=>⟨[(0,z1 p0),(4,vI s7.1),(5,vI s7.2)],[],25⟩) (fun v out=>out=.go (.exit 0) ⟨[(4,vI v)],[],25⟩) (wk_gc (live:=[0,4,5]) (keep:=[]) kr) ?_ ?_
 ·intro s7 o h
  unfold g_ref01_value_b0 at h
  refine wp_seq (sq ?_)
  refine wb [14] h (fun q9 h=>?_) (fun q9 h=>?_)
  ·refine wcT (wp_skip (wp_seq (wp_block (reg_in (sz 4 4 ?_)))))
   refine bind_elim h (fun a10 q11 h=>?_)
   refine idxL' (enc:=eI) (l:=p0) (n:=s7.2) (fl:=true) (w:=1) (a:=a10) kr rfl gE q11 ?_
   refine sz 3 8 (reg_end rfl ?_)
   refine wgc [0,4,5] [] ⟨[(0,z1 p0),(4,vI (zw ((zw (10000*s7.1))+a10))),(5,vI s7.2)],[],25⟩ ?_
   refine rn ?_
   cases h
   exact ⟨_,rfl,(wk_gc (live:=[0,4,5]) (keep:=[]) kr)⟩
  refine wcF (wg [4] [] ?_)
  refine wp_exit ?_
  cases h
  exact ⟨kr,rfl⟩
 intro x13 h out hx
 subst hx
 refine sq (wg [2,3] [] ?_)
 cases h
 exact wp_ret (show fnOut _ _ _ _=_ from by kernel_rfl)
theorem g_ref01_made_ok (p0:Bool) (p1:(List Int)) (p2:(List Int)) (x:(Tapi_Q × Bool)) (h:g_ref01_made p0 p1 p2=some x):CallOk Try.prog 80 [vB p0,z1 p1,z1 p2] (.ret (.tup [.agg [vI x.1.N,vI x.1.D],vB x.2]) []):=by
 refine fn_ok [] Try.func80 rfl (by decide +kernel) rfl ?_
 unfold g_ref01_made at h
 refine wp_eqB (base':=0) (st':=⟨[(0,vB p0),(1,z1 p1),(2,z1 p2)],[],51⟩) kr kr ?_
 refine sq (wp_seq (reg_in (sz 2 2 ?_)))
 refine callW bodyB_65 (g_ref01_gcd_ok p1 p2) h (fun x1 _ h=>?_)
 refine sz 1 4 (reg_end rfl (wp_seq (reg_in (sz 2 2 ?_))))
 refine callW bodyB_91 (g_ref01_divide_ok p1 x1) h (fun x3 _ h=>?_)
 refine sz 4 7 (reg_end rfl (wp_seq ?_))
 refine wgc [0,1,2,6,8] [0] ⟨[(0,vB p0),(1,z1 x3.1),(2,z1 p2),(6,.ptr 0 0 0),(8,z1 x1)],[oX true true 2 (.agg [vI 0,vI 0])],51⟩ ?_
 refine reg_in (sz 2 2 ?_)
 refine callW bodyB_91 (g_ref01_divide_ok p2 x1) h (fun x5 _ h=>?_)
 refine sz 4 7 (reg_end rfl (wp_seq (wg [0,1,2,6] [0] (reg_in (sz 1 1 ?_)))))
 refine callW bodyB_100 (g_ref01_value_ok x3.1) h (fun x7 _ h=>?_)
 refine sz 5 7 (reg_end rfl (wp_seq ?_))
 refine wgc [0,2,6,9,10] [0] ⟨[(0,vB p0),(2,z1 x5.1),(6,.ptr 0 0 0),(9,vI x7.1),(10,vB x7.2)],[oX true true 2 (.agg [vI 0,vI 0])],51⟩ ?_
 refine reg_in (sz 1 1 ?_)
 refine callW bodyB_100 (g_ref01_value_ok x5.1) h (fun x9 _ h=>?_)
 refine sz 5 7 (reg_end rfl (wp_seq (wp_seq (wg [0,6,9,10,11,12] [0] (reg_in (sz 3 3 ?_))))))
 refine rb [39,40] h (fun q12 h=>?_) (fun q12 h=>?_)
 ·refine sz 3 6 (reg_end rfl (wcT (wp_seq ?_)))
  refine wgc [6] [0] ⟨[(6,.ptr 0 0 0)],[oX true true 2 (.agg [vI 0,vI 0])],51⟩ ?_
  refine rn (wg [6,7] [0] ?_)
  cases h
  exact wp_ret (show fnOut _ _ _ _=_ from by kernel_rfl)
 refine sz 3 6 (reg_end rfl ?_)
 refine wbz h (fun q14 h=>?_) (fun q14 h=>?_)
 ·refine wp_seq ?_
  refine wgc [6] [0] ⟨[(6,.ptr 0 0 0)],[oX true true 2 (.agg [vI 0,vI 0])],51⟩ ?_
  refine rn (wg [6,7] [0] ?_)
  cases h
  exact wp_ret (show fnOut _ _ _ _=_ from by kernel_rfl)
 refine wp_skip (wp_seq (wp_seq ?_))
 refine wgc [0,6,9,11] [0] ⟨[(0,vB p0),(6,.ptr 0 0 0),(9,vI x7.1),(11,vI x9.1)],[oX true true 2 (.agg [vI 0,vI 0])],51⟩ ?_
 refine rn ?_
 refine wb [0,45] h (fun q16 h=>?_) (fun q16 h=>?_)
 ·refine wcT (rn (sq (wg [6,7] [0] ?_)))
  cases h
  exact wp_ret (show fnOut _ _ _ _=_ from by kernel_rfl)
 refine wcF (wp_skip (sq (wg [6,7] [0] ?_)))
 cases h
 exact wp_ret (show fnOut _ _ _ _=_ from by kernel_rfl)
theorem g_ref01_Make_ok (p0:Int) (p1:Int) (x:(Tapi_Q × Bool)) (h:g_ref01_Make p0 p1=some x):CallOk Try.prog 48 [vI p0,vI p1] (.ret (.tup [.agg [vI x.1.N,vI x.1.D],vB x.2]) []):=by
 refine fn_ok [] Try.func48 rfl (by decide +kernel) rfl ?_
 unfold g_ref01_Make at h
 refine wp_eqB (base':=0) (st':=⟨[(0,vI p0),(1,vI p1)],[],18⟩) kr kr ?_
 refine sq (wp_seq (reg_in (sz 6 6 ?_)))
 refine callW bodyB_66 (g_ref01_digits_ok p0) h (fun x1 _ h=>?_)
 refine sz 1 8 ?_
 refine callW bodyB_66 (g_ref01_digits_ok p1) h (fun x3 _ h=>?_)
 refine callR (as0:=[vB (!((decide (p0 < 0))==(decide (p1 < 0)))),.ref 1 0 x1.length,.ref 2 0 x3.length]) (ids:=[1,2]) kr bodyB_80 (msnap_cons rfl (msnap_cons (snap_full (w:=1) (bx:=false) (ro:=false) kr) (msnap_cons (snap_full (w:=1) (bx:=false) (ro:=false) kr) msnap_nil (by rfl)) (by rfl)) (by rfl)) (fun x5 q6=>g_ref01_made_ok (!((decide (p0 < 0))==(decide (p1 < 0)))) x1 x3 x5 q6) gF h (fun x5 q6 h=>?_)
 refine sz 4 14 (reg_end rfl ?_)
 refine wgc [4,5] [0] ⟨[(4,.ptr 0 0 0),(5,vB x5.2)],[oX true true 2 (.agg [vI x5.1.N,vI x5.1.D])],18⟩ ?_
 cases h
 exact wp_ret (show fnOut _ _ _ _=_ from by kernel_rfl)
theorem g_ref01_Of_ok (p0:Int) (p1:Int) (x:Tapi_Q) (h:g_ref01_Of p0 p1=some x):CallOk Try.prog 15 [vI p0,vI p1] (.ret (.agg [vI x.N,vI x.D]) []):=by
 refine fn_ok [] Try.func15 rfl (by decide +kernel) rfl ?_
 unfold g_ref01_Of at h
 refine wp_eqB (base':=0) (st':=⟨[(0,vI p0),(1,vI p1)],[],14⟩) kr kr ?_
 refine sq (wp_seq (reg_in (sz 2 2 ?_)))
 refine callW bodyB_48 (g_ref01_Make_ok p0 p1) h (fun x1 _ h=>?_)
 refine sz 6 9 (reg_end rfl (wp_seq (wg [4,5] [0,1] (rn ?_))))
 refine wgc [4] [0] ⟨[(4,.ptr 0 0 0)],[oX true true 2 (.agg [vI x1.1.N,vI x1.1.D])],14⟩ ?_
 cases h
 exact wp_ret (show fnOut _ _ _ _=_ from by kernel_rfl)
theorem g_ref01_Right_ok (p0:Tapi_Q) (x:Bool) (h:g_ref01_Right p0=some x):CallOk Try.prog 29 [.agg [vI p0.N,vI p0.D]] (.ret (vB x) []):=by
 refine fn_ok [] Try.func29 rfl (by decide +kernel) rfl ?_
 unfold g_ref01_Right at h
 refine wp_eqB (base':=0) (st':=⟨[(0,.agg [vI p0.N,vI p0.D])],[],31⟩) kr kr ?_
 refine sq (wp_seq (wp_seq (reg_in (sz 4 4 (rwg [1,6] [0] ?_)))))
 refine rb [6] h (fun q2 h=>?_) (fun q2 h=>?_)
 ·refine sz 14 18 (reg_end rfl (wcT (wp_seq ?_)))
  refine wgc [] [] ⟨[],[],31⟩ ?_
  refine rn (wg [2] [] ?_)
  cases h
  exact wp_ret (show fnOut _ _ _ _=_ from by kernel_rfl)
 refine sz 5 9 (rwg [1,11] [0] ?_)
 refine rb [11] h (fun q4 h=>?_) (fun q4 h=>?_)
 ·refine sz 9 18 (reg_end rfl (wcT (wp_seq ?_)))
  refine wgc [] [] ⟨[],[],31⟩ ?_
  refine rn (wg [2] [] ?_)
  cases h
  exact wp_ret (show fnOut _ _ _ _=_ from by kernel_rfl)
 refine sz 5 14 ?_
 refine rw_wk (wk_gc (live:=[1,16]) (keep:=[0]) (st':=⟨[(1,.ptr 0 0 0),(16,vB (decide (p0.N > 4611686018427387903)))],[oX true true 2 (.agg [vI p0.N,vI p0.D])],31⟩) kr) ?_
 refine rb [16] h (fun q6 h=>?_) (fun q6 h=>?_)
 ·refine sz 4 18 (reg_end rfl (wcT (wp_seq (wg [] [] (rn (wg [2] [] ?_))))))
  cases h
  exact wp_ret (show fnOut _ _ _ _=_ from by kernel_rfl)
 refine sz 4 18 (reg_end rfl ?_)
 refine wbz h (fun q8 h=>?_) (fun q8 h=>?_)
 ·refine wp_seq (wg [] [] (rn (wg [2] [] ?_)))
  cases h
  exact wp_ret (show fnOut _ _ _ _=_ from by kernel_rfl)
 refine wp_skip (wp_seq (wg [1] [0] (rga hfol (sy 2 2 ?_))))
 refine callW bodyB_66 (fun x9 q10=>CallOk.froz (g_ref01_digits_ok p0.N x9 q10) (snap_full (w:=1) (bx:=false) (ro:=false) rfl)) h (fun x9 q10 h=>?_)
 refine sy 2 5 ?_
 refine callW bodyB_66 (fun x11 q12=>CallOk.froz (g_ref01_digits_ok p0.D x11 q12) (snap_full (w:=1) (bx:=false) (ro:=false) rfl)) h (fun x11 q12 h=>?_)
 refine callW bodyB_65 (g_ref01_gcd_ok x9 x11) h (fun x13 _ h=>?_)
 refine sgL false [] [] true gE ?_
 refine callR (as0:=[z1 x13,.ref 1 0 1]) (ids:=[1]) kr bodyB_64 (msnap_cons rfl (msnap_cons (show snap _ _ _=some (_,[1]) from kr) msnap_nil (by rfl)) (by rfl)) (fun x15 q16=>g_ref01_compare_ok x13 [1] x15 q16) gF h (fun x15 q16 h=>?_)
 refine sy 2 11 (rgd ?_)
 refine wgc [2] [] ⟨[(2,vB (x15==0))],[],31⟩ ?_
 cases h
 exact wp_ret (show fnOut _ _ _ _=_ from by kernel_rfl)
noncomputable abbrev s7_12 (x5:Tapi_Net) (x7:(List Int)) (x9:(Int × Int × Tapi_Shift)) (x13:Tapi_Q):List AObj:=[oX false false 2 (.agg [vI x5.Grain,.ref 4 0 x5.Nodes.length]),oR true 1 eI x7,oX true true 4 (.agg [vI x9.2.2.Node,vI x9.2.2.Row,vI x9.2.2.From,vI x9.2.2.To]),oX true true 2 (.agg [vI x13.N,vI x13.D]),oR false 3 eTapi_Node x5.Nodes]
noncomputable abbrev s7_15 (x5:Tapi_Net) (x7:(List Int)) (x9:(Int × Int × Tapi_Shift)) (x13:Tapi_Q) (x15:(Tapi_Q × Int)):List AObj:=[oX false false 2 (.agg [vI x5.Grain,.ref 5 0 x5.Nodes.length]),oR true 1 eI x7,oX true true 4 (.agg [vI x9.2.2.Node,vI x9.2.2.Row,vI x9.2.2.From,vI x9.2.2.To]),oX true true 2 (.agg [vI x13.N,vI x13.D]),oX true true 2 (.agg [vI x15.1.N,vI x15.1.D]),oR false 3 eTapi_Node x5.Nodes]
noncomputable abbrev s7_31 (x9:(Int × Int × Tapi_Shift)):List AObj:=[oX true true 4 (.agg [vI x9.2.2.Node,vI x9.2.2.Row,vI x9.2.2.From,vI x9.2.2.To])]
theorem g_law24_SensitiveBack_ok (p0:Tharuspexlaw24_Story) (p1:(Int × Int)) (x:Bool) (h:g_law24_SensitiveBack p0 p1=some x):CallOk Try.prog 7 [.agg [.int .u8 p0.N.Grain,eL false eTharuspexref05_Piece p0.N.Nodes,eL true (AV.int .u8) p0.N.Order,.int .u8 p0.C.What,.int .u8 p0.C.At,.int .u8 p0.C.Row,vI p0.C.N,.int .u8 p0.K.Which,.int .u8 p0.K.V.1,.int .u8 p0.K.V.2.1,.int .u8 p0.K.V.2.2.1,.int .u8 p0.K.V.2.2.2.1,.int .u8 p0.K.V.2.2.2.2.1,.int .u8 p0.K.V.2.2.2.2.2.1,.int .u8 p0.K.V.2.2.2.2.2.2.1,.int .u8 p0.K.V.2.2.2.2.2.2.2,.int .u8 p0.D.V,.int .u8 p0.D.Value,.int .u8 p0.D.Node,.int .u8 p0.D.Row,.int .u8 p0.D.From,.int .u8 p0.D.To,z1 p0.Raw,vI p0.V,vI p0.Value,vI p0.S.Node,vI p0.S.Row,vI p0.S.From,vI p0.S.To],.agg [.int .u8 p1.1,.int .u8 p1.2]] (.ret (vB x) []):=by
 refine fn_ok [] Try.func7 rfl (by decide +kernel) rfl ?_
 unfold g_law24_SensitiveBack at h
 refine wp_eqB (base':=0) (st':=⟨[(0,.agg [.int .u8 p0.N.Grain,eL false eTharuspexref05_Piece p0.N.Nodes,eL true (AV.int .u8) p0.N.Order,.int .u8 p0.C.What,.int .u8 p0.C.At,.int .u8 p0.C.Row,vI p0.C.N,.int .u8 p0.K.Which,.int .u8 p0.K.V.1,.int .u8 p0.K.V.2.1,.int .u8 p0.K.V.2.2.1,.int .u8 p0.K.V.2.2.2.1,.int .u8 p0.K.V.2.2.2.2.1,.int .u8 p0.K.V.2.2.2.2.2.1,.int .u8 p0.K.V.2.2.2.2.2.2.1,.int .u8 p0.K.V.2.2.2.2.2.2.2,.int .u8 p0.D.V,.int .u8 p0.D.Value,.int .u8 p0.D.Node,.int .u8 p0.D.Row,.int .u8 p0.D.From,.int .u8 p0.D.To,z1 p0.Raw,vI p0.V,vI p0.Value,vI p0.S.Node,vI p0.S.Row,vI p0.S.From,vI p0.S.To]),(1,.agg [.int .u8 p1.1,.int .u8 p1.2])],[],190⟩) kr kr ?_
 refine wp_seq (reg_in ?_)
 refine sgL false [] [] false gE ?_
 refine sz 2 3 (reg_end rfl (wp_seq (wp_seq (reg_in ?_))))
 refine callW bodyB_20 (g_law24_works_ok ) h (fun x1 _ h=>?_)
 refine sz 1 2 (reg_end rfl ?_)
 refine wbz h (fun q4 h=>?_) (fun q4 h=>?_)
 ·refine wp_seq (wg [] [] (rn ?_))
  refine wgc [4] [] ⟨[(4,vB false)],[],190⟩ ?_
  cases h
  exact wp_ret (show fnOut _ _ _ _=_ from by kernel_rfl)
 refine wp_skip (wp_seq (wg [2,3] [0,1] (reg_in (sz 2 2 ?_))))
 refine callW bodyB_25 (g_ref05_Draft_Net_ok p0.N) h (fun x5 _ h=>?_)
 refine sgL false [] [] false gE ?_
 refine sz 1 5 (reg_end rfl (wp_seq (reg_in (sz 3 3 ?_))))
 refine callR (as0:=[.agg [.int .u8 p0.K.Which,.int .u8 p0.K.V.1,.int .u8 p0.K.V.2.1,.int .u8 p0.K.V.2.2.1,.int .u8 p0.K.V.2.2.2.1,.int .u8 p0.K.V.2.2.2.2.1,.int .u8 p0.K.V.2.2.2.2.2.1,.int .u8 p0.K.V.2.2.2.2.2.2.1,.int .u8 p0.K.V.2.2.2.2.2.2.2],.agg [vI x5.Grain,.ref 2 0 x5.Nodes.length]]) (ids:=[2]) kr bodyB_26 (msnap_cons (snap_agg (msnap_cons rfl (msnap_cons rfl (msnap_cons rfl (msnap_cons rfl (msnap_cons rfl (msnap_cons rfl (msnap_cons rfl (msnap_cons rfl (msnap_cons rfl msnap_nil (by rfl)) (by rfl)) (by rfl)) (by rfl)) (by rfl)) (by rfl)) (by rfl)) (by rfl)) (by rfl))) (msnap_cons (snap_agg (msnap_cons rfl (msnap_cons (snap_full (w:=3) (bx:=false) (ro:=false) kr) msnap_nil (by rfl)) (by rfl))) msnap_nil (by rfl)) (by rfl)) (fun x7 q8=>g_ref05_Known_Of_ok (Tharuspexref05_Known.mk p0.K.Which (p0.K.V.1,p0.K.V.2.1,p0.K.V.2.2.1,p0.K.V.2.2.2.1,p0.K.V.2.2.2.2.1,p0.K.V.2.2.2.2.2.1,p0.K.V.2.2.2.2.2.2.1,p0.K.V.2.2.2.2.2.2.2)) x5 x7 q8) gF h (fun x7 q8 h=>?_)
 refine sz 1 5 (reg_end rfl (wp_seq ?_))
 refine wgc [2,3,5,6] [0,1,3,4,2] ⟨[(2,.ptr 0 0 0),(3,.ptr 1 0 0),(5,.ptr 2 0 0),(6,.ref 3 0 x7.length)],[oX true false 29 (.agg [.int .u8 p0.N.Grain,eL false eTharuspexref05_Piece p0.N.Nodes,eL true (AV.int .u8) p0.N.Order,.int .u8 p0.C.What,.int .u8 p0.C.At,.int .u8 p0.C.Row,vI p0.C.N,.int .u8 p0.K.Which,.int .u8 p0.K.V.1,.int .u8 p0.K.V.2.1,.int .u8 p0.K.V.2.2.1,.int .u8 p0.K.V.2.2.2.1,.int .u8 p0.K.V.2.2.2.2.1,.int .u8 p0.K.V.2.2.2.2.2.1,.int .u8 p0.K.V.2.2.2.2.2.2.1,.int .u8 p0.K.V.2.2.2.2.2.2.2,.int .u8 p0.D.V,.int .u8 p0.D.Value,.int .u8 p0.D.Node,.int .u8 p0.D.Row,.int .u8 p0.D.From,.int .u8 p0.D.To,z1 p0.Raw,vI p0.V,vI p0.Value,vI p0.S.Node,vI p0.S.Row,vI p0.S.From,vI p0.S.To]),oX true true 2 (.agg [.int .u8 p1.1,.int .u8 p1.2]),oX false false 2 (.agg [vI x5.Grain,.ref 4 0 x5.Nodes.length]),oR true 1 eI x7,oR false 3 eTapi_Node x5.Nodes],190⟩ ?_
 refine reg_in (sz 3 3 ?_)
 refine callR (as0:=[.agg [.int .u8 p0.D.V,.int .u8 p0.D.Value,.int .u8 p0.D.Node,.int .u8 p0.D.Row,.int .u8 p0.D.From,.int .u8 p0.D.To],.agg [vI x5.Grain,.ref 4 0 x5.Nodes.length]]) (ids:=[4]) kr bodyB_27 (msnap_cons (snap_agg (msnap_cons rfl (msnap_cons rfl (msnap_cons rfl (msnap_cons rfl (msnap_cons rfl (msnap_cons rfl msnap_nil (by rfl)) (by rfl)) (by rfl)) (by rfl)) (by rfl)) (by rfl))) (msnap_cons (snap_agg (msnap_cons rfl (msnap_cons (snap_full (w:=3) (bx:=false) (ro:=false) kr) msnap_nil (by rfl)) (by rfl))) msnap_nil (by rfl)) (by rfl)) (fun x9 q10=>g_ref24_Draft_Of_ok p0.D x5 x9 q10) gF h (fun x9 q10 h=>?_)
 refine sz 8 12 (reg_end rfl (wp_seq (wp_seq (wg [3,5,6,9,7,8] [1,2,3,5,4] (rn ?_)))))
 refine wbz h (fun q12 h=>?_) (fun q12 h=>?_)
 ·refine wp_seq ?_
  refine wgc [] [] ⟨[],[],190⟩ ?_
  refine rn (wg [4] [] ?_)
  cases h
  exact wp_ret (show fnOut _ _ _ _=_ from by kernel_rfl)
 refine wp_skip (wp_seq ?_)
 refine wgc [3,5,6,9,7,8] [0,1,2,3,4] ⟨[(3,.ptr 0 0 0),(5,.ptr 1 0 0),(6,.ref 2 0 x7.length),(9,.ptr 3 0 0),(7,vI x9.1),(8,vI x9.2.1)],[oX true true 2 (.agg [.int .u8 p1.1,.int .u8 p1.2]),oX false false 2 (.agg [vI x5.Grain,.ref 4 0 x5.Nodes.length]),oR true 1 eI x7,oX true true 4 (.agg [vI x9.2.2.Node,vI x9.2.2.Row,vI x9.2.2.From,vI x9.2.2.To]),oR false 3 eTapi_Node x5.Nodes],190⟩ ?_
 refine rga hfol (sy 8 8 ?_)
 refine remR (k:=.i64) (a:=zw (p1.1)) (b:=zw (2+(zw (Int.tmod p1.2 12)))) kr gE h (fun h=>?_)
 refine sy 5 14 ?_
 refine callW bodyB_15 (g_ref01_Of_ok (Int.tmod (zw (p1.1)) (zw (2+(zw (Int.tmod p1.2 12))))) (zw (1+(zw (Int.tmod p1.2 12))))) h (fun x13 _ h=>?_)
 refine sy 2 17 (rgd (wp_seq ?_))
 refine wgc [5,6,9,7,8,10] [1,2,3,5,4] ⟨[(5,.ptr 0 0 0),(6,.ref 1 0 x7.length),(9,.ptr 2 0 0),(7,vI x9.1),(8,vI x9.2.1),(10,.ptr 3 0 0)],(s7_12 x5 x7 x9 x13),190⟩ ?_
 refine reg_in (sz 6 6 ?_)
 refine callR (as0:=[.agg [vI x5.Grain,.ref 4 0 x5.Nodes.length],.ref 1 0 x7.length,vI x9.1,vI x9.2.1,.agg [vI x9.2.2.Node,vI x9.2.2.Row,vI x9.2.2.From,vI x9.2.2.To],.agg [vI x13.N,vI x13.D]]) (ids:=[4,1]) kr bodyB_21 (msnap_cons (snap_agg (msnap_cons rfl (msnap_cons (snap_full (w:=3) (bx:=false) (ro:=false) kr) msnap_nil (by rfl)) (by rfl))) (msnap_cons (snap_full (w:=1) (bx:=false) (ro:=false) kr) (msnap_cons rfl (msnap_cons rfl (msnap_cons (snap_agg (msnap_cons rfl (msnap_cons rfl (msnap_cons rfl (msnap_cons rfl msnap_nil (by rfl)) (by rfl)) (by rfl)) (by rfl))) (msnap_cons (snap_agg (msnap_cons rfl (msnap_cons rfl msnap_nil (by rfl)) (by rfl))) msnap_nil (by rfl)) (by rfl)) (by rfl)) (by rfl)) (by rfl)) (by rfl)) (fun x15 q16=>g_sensitive_Threshold_ok x5 x7 x9.1 x9.2.1 x9.2.2 x13 x15 q16) gF h (fun x15 q16 h=>?_)
 refine sz 6 13 (reg_end rfl (wp_seq (wp_seq (wg [5,6,9,7,8,10,11,12] [0,1,2,3,5,4] (rn ?_)))))
 refine wb [69] h (fun q18 h=>?_) (fun q18 h=>?_)
 ·refine wcT (wp_seq (wp_seq (reg_in (sz 1 1 ?_))))
  refine callW bodyB_29 (g_ref01_Right_ok x15.1) h (fun x19 _ h=>?_)
  refine sz 1 3 (reg_end rfl ?_)
  refine wbz h (fun q22 h=>?_) (fun q22 h=>?_)
  ·refine wp_seq ?_
   refine wgc [] [] ⟨[],[],190⟩ ?_
   refine rn (wg [4] [] ?_)
   cases h
   exact wp_ret (show fnOut _ _ _ _=_ from by kernel_rfl)
  refine wp_skip (wp_seq (wp_seq ?_))
  refine wgc [5,6,9,7,8,10,11] [0,1,2,3,4,5] ⟨[(5,.ptr 0 0 0),(6,.ref 1 0 x7.length),(9,.ptr 2 0 0),(7,vI x9.1),(8,vI x9.2.1),(10,.ptr 3 0 0),(11,.ptr 4 0 0)],(s7_15 x5 x7 x9 x13 x15),190⟩ ?_
  refine reg_in (sz 4 4 ?_)
  refine rb [75,76] h (fun q24 h=>?_) (fun q24 h=>?_)
  ·refine sz 9 13 (reg_end rfl (wcT (wp_seq (wg [] [] (rn ?_)))))
   refine wgc [4] [] ⟨[(4,vB true)],[],190⟩ ?_
   cases h
   exact wp_ret (show fnOut _ _ _ _=_ from by kernel_rfl)
  refine sz 5 9 (rwg [5,6,9,7,8,10,11,81] [0,1,2,3,4,5] ?_)
  refine rb [81] h (fun q26 h=>?_) (fun q26 h=>?_)
  ·refine sz 4 13 (reg_end rfl (wcT (wp_seq ?_)))
   refine wgc [] [] ⟨[],[],190⟩ ?_
   refine rn (wg [4] [] ?_)
   cases h
   exact wp_ret (show fnOut _ _ _ _=_ from by kernel_rfl)
  refine sz 4 13 (reg_end rfl ?_)
  refine wbz h (fun q28 h=>?_) (fun q28 h=>?_)
  ·refine wp_seq ?_
   refine wgc [] [] ⟨[],[],190⟩ ?_
   refine rn (wg [4] [] ?_)
   cases h
   exact wp_ret (show fnOut _ _ _ _=_ from by kernel_rfl)
  refine wp_skip (wp_seq ?_)
  refine wgc [5,6,9,7,8,10,11] [0,1,2,3,4,5] ⟨[(5,.ptr 0 0 0),(6,.ref 1 0 x7.length),(9,.ptr 2 0 0),(7,vI x9.1),(8,vI x9.2.1),(10,.ptr 3 0 0),(11,.ptr 4 0 0)],(s7_15 x5 x7 x9 x13 x15),190⟩ ?_
  refine reg_in (sz 6 6 ?_)
  refine callR (as0:=[.agg [vI x5.Grain,.ref 5 0 x5.Nodes.length],.ref 1 0 x7.length,vI x9.1,vI x9.2.1,.agg [vI x9.2.2.Node,vI x9.2.2.Row,vI x9.2.2.From,vI x9.2.2.To],.agg [vI x15.1.N,vI x15.1.D]]) (ids:=[5,1]) kr bodyB_16 (msnap_cons (snap_agg (msnap_cons rfl (msnap_cons (snap_full (w:=3) (bx:=false) (ro:=false) kr) msnap_nil (by rfl)) (by rfl))) (msnap_cons (snap_full (w:=1) (bx:=false) (ro:=false) kr) (msnap_cons rfl (msnap_cons rfl (msnap_cons (snap_agg (msnap_cons rfl (msnap_cons rfl (msnap_cons rfl (msnap_cons rfl msnap_nil (by rfl)) (by rfl)) (by rfl)) (by rfl))) (msnap_cons (snap_agg (msnap_cons rfl (msnap_cons rfl msnap_nil (by rfl)) (by rfl))) msnap_nil (by rfl)) (by rfl)) (by rfl)) (by rfl)) (by rfl)) (by rfl)) (fun x29 q30=>g_sensitive_At_ok x5 x7 x9.1 x9.2.1 x9.2.2 x15.1 x29 q30) gF h (fun x29 q30 h=>?_)
  refine sz 6 13 (reg_end rfl (wp_seq (wg [10,13,14] [3,6] (reg_in (sz 3 3 ?_)))))
  refine rb [97,98] h (fun q32 h=>?_) (fun q32 h=>?_)
  ·refine sz 5 8 (reg_end rfl ?_)
   refine wgc [4] [] ⟨[(4,vB ((x29.1.N==x13.N) && ((x29.1.D==x13.D) && true)))],[],190⟩ ?_
   cases h
   exact wp_ret (show fnOut _ _ _ _=_ from by kernel_rfl)
  refine sz 5 8 (reg_end rfl ?_)
  refine wgc [4] [] ⟨[(4,vB false)],[],190⟩ ?_
  cases h
  exact wp_ret (show fnOut _ _ _ _=_ from by kernel_rfl)
 refine wcF (wp_skip (wp_seq (sq ?_)))
 refine wbz h (fun q34 h=>?_) (fun q34 h=>?_)
 ·refine wp_seq ?_
  refine wgc [] [] ⟨[],[],190⟩ ?_
  refine rn (wg [4] [] ?_)
  cases h
  exact wp_ret (show fnOut _ _ _ _=_ from by kernel_rfl)
 refine wp_skip (wp_seq ?_)
 refine wgc [5,6,9,7,8,10] [0,1,2,3,5] ⟨[(5,.ptr 0 0 0),(6,.ref 1 0 x7.length),(9,.ptr 2 0 0),(7,vI x9.1),(8,vI x9.2.1),(10,.ptr 3 0 0)],(s7_12 x5 x7 x9 x13),190⟩ ?_
 refine rga hfol (sy 4 4 ?_)
 refine bind_elim h (fun a35 q36 h=>?_)
 refine idxR' (enc:=eTapi_Node) (l:=x5.Nodes) (n:=x9.2.2.Node) (w:=3) (ob:=4) (ro:=false) (nr:=true) (fl:=false) (a:=a35) kr kr gE q36 ?_
 refine sy 1 6 ?_
 refine loadR (enc:=eTapi_Node) (l:=x5.Nodes) (n:=x9.2.2.Node) (w:=3) (ob:=4) (c:=2) (bx:=false) (ro:=false) (nr:=true) (fl:=false) (a:=a35) kr kr q36 gE ?_
 refine sy 2 9 ?_
 refine bind_elim h (fun a37 q38 h=>?_)
 refine idxL' (enc:=z1) (l:=a35.Rows) (n:=x9.2.2.Row) (fl:=false) (w:=1) (a:=a37) kr rfl gE q38 ?_
 refine sy 2 12 (rgd (wp_seq (wg [5,6,9,7,8,10,15] [0,1,2,3,4] (rn (wp_seq (wp_seq (reg_in (sz 3 3 ?_))))))))
 refine bind_elim h (fun a39 q40 h=>?_)
 refine idxL' (enc:=eI) (l:=a37) (n:=x9.2.2.To) (fl:=true) (w:=1) (a:=a39) kr rfl gE q40 ?_
 refine sz 3 7 (reg_end rfl (wp_block ?_))
 refine wwh h (fun s41=>⟨[(5,.ptr 0 0 0),(6,.ref 1 0 x7.length),(7,vI x9.1),(8,vI x9.2.1),(9,.ptr 2 0 0),(10,.ptr 3 0 0),(15,z1 a37),(16,vI s41.1),(17,vI s41.2.1),(18,vI s41.2.2)],(s7_12 x5 x7 x9 x13),190⟩) (fun x out=>out=match x with | .inl v=>.go (.ret) ⟨[(4,vB false)],[],190⟩ | .inr v=>.go (.exit 0) ⟨[(9,.ptr 0 0 0),(15,z1 a37),(16,vI v.1),(17,vI v.2)],(s7_31 x9),190⟩) (wk_gc (live:=[5,6,7,8,9,10,15,16,17,18]) (keep:=[0,1,2,3,4]) kr) ?_ ?_
 ·intro s41 o h
  unfold g_law24_SensitiveBack_b0 at h
  refine wp_seq (wp_seq (reg_in (sz 4 4 ?_)))
  refine bind_elim h (fun a42 q43 h=>?_)
  refine idxL' (enc:=eI) (l:=a37) (n:=x9.2.2.From) (fl:=true) (w:=1) (a:=a42) kr rfl gE q43 ?_
  refine sz 2 7 (reg_end rfl ?_)
  refine wbz h (fun q45 h=>?_) (fun q45 h=>?_)
  ·refine wp_skip (wp_seq (wp_block (wp_seq (wg [5,6,7,8,9,10,15,16,17,18] [0,1,2,3,4] (reg_in (sz 7 7 ?_))))))
   refine callR (as0:=[.agg [vI x5.Grain,.ref 4 0 x5.Nodes.length],.ref 1 0 x7.length,vI x9.1,vI x9.2.1,.agg [vI x9.2.2.Node,vI x9.2.2.Row,vI x9.2.2.From,vI x9.2.2.To],.agg [vI s41.2.2,vI 1]]) (ids:=[4,1]) kr bodyB_16 (msnap_cons (snap_agg (msnap_cons rfl (msnap_cons (snap_full (w:=3) (bx:=false) (ro:=false) kr) msnap_nil (by rfl)) (by rfl))) (msnap_cons (snap_full (w:=1) (bx:=false) (ro:=false) kr) (msnap_cons rfl (msnap_cons rfl (msnap_cons (snap_agg (msnap_cons rfl (msnap_cons rfl (msnap_cons rfl (msnap_cons rfl msnap_nil (by rfl)) (by rfl)) (by rfl)) (by rfl))) (msnap_cons (snap_agg (msnap_cons rfl (msnap_cons rfl msnap_nil (by rfl)) (by rfl))) msnap_nil (by rfl)) (by rfl)) (by rfl)) (by rfl)) (by rfl)) (by rfl)) (fun x46 q47=>g_sensitive_At_ok x5 x7 x9.1 x9.2.1 x9.2.2 (Tapi_Q.mk s41.2.2 1) x46 q47) gF h (fun x46 q47 h=>?_)
   refine sz 6 14 (reg_end rfl (wp_seq (wp_seq ?_)))
   refine wgc [5,6,7,8,9,10,15,16,17,18,19,20] [0,1,2,3,5,4] ⟨[(5,.ptr 0 0 0),(6,.ref 1 0 x7.length),(7,vI x9.1),(8,vI x9.2.1),(9,.ptr 2 0 0),(10,.ptr 3 0 0),(15,z1 a37),(16,vI s41.1),(17,vI s41.2.1),(18,vI s41.2.2),(19,.ptr 4 0 0),(20,vI x46.2)],[oX false false 2 (.agg [vI x5.Grain,.ref 5 0 x5.Nodes.length]),oR true 1 eI x7,oX true true 4 (.agg [vI x9.2.2.Node,vI x9.2.2.Row,vI x9.2.2.From,vI x9.2.2.To]),oX true true 2 (.agg [vI x13.N,vI x13.D]),oX true true 2 (.agg [vI x46.1.N,vI x46.1.D]),oR false 3 eTapi_Node x5.Nodes],190⟩ ?_
   refine rn ?_
   refine wb [143] h (fun q49 h=>?_) (fun q49 h=>?_)
   ·refine wcT (rn (wp_seq (reg_in (sz 3 3 ?_))))
    refine rk [149,150] q49 ?_
    refine sz 4 7 (reg_end rfl ?_)
    refine wbz h (fun q52 h=>?_) (fun q52 h=>?_)
    ·refine wgc [5,6,7,8,9,10,15,16,17,18] [0,1,2,3,5] ⟨[(5,.ptr 0 0 0),(6,.ref 1 0 x7.length),(7,vI x9.1),(8,vI x9.2.1),(9,.ptr 2 0 0),(10,.ptr 3 0 0),(15,z1 a37),(16,vI s41.1),(17,vI (zw (s41.2.1+1))),(18,vI s41.2.2)],(s7_12 x5 x7 x9 x13),190⟩ ?_
     refine rn (rn ?_)
     cases h
     exact ⟨_,rfl,(wk_gc (live:=[5,6,7,8,9,10,15,16,17,18]) (keep:=[0,1,2,3,4]) kr)⟩
    refine wp_skip ?_
    refine wgc [5,6,7,8,9,10,15,16,17,18] [0,1,2,3,5] ⟨[(5,.ptr 0 0 0),(6,.ref 1 0 x7.length),(7,vI x9.1),(8,vI x9.2.1),(9,.ptr 2 0 0),(10,.ptr 3 0 0),(15,z1 a37),(16,vI s41.1),(17,vI (zw (s41.2.1+1))),(18,vI s41.2.2)],(s7_12 x5 x7 x9 x13),190⟩ ?_
    refine rn ?_
    cases h
    exact ⟨_,rfl,(wk_gc (live:=[5,6,7,8,9,10,15,16,17,18]) (keep:=[0,1,2,3,4]) kr)⟩
   refine wcF (sq ?_)
   refine wb [147] h (fun q54 h=>?_) (fun q54 h=>?_)
   ·refine wcT (wp_seq (wg [] [] (rn (wg [4] [] ?_))))
    refine wp_ret ?_
    cases h
    exact ⟨kr,rfl⟩
   refine wcF (wp_skip (wp_seq (reg_in (sz 3 3 ?_))))
   refine rk [149,150] q49 ?_
   refine sz 4 7 (reg_end rfl (wcF (wp_skip ?_)))
   refine wgc [5,6,7,8,9,10,15,16,17,18] [0,1,2,3,5] ⟨[(5,.ptr 0 0 0),(6,.ref 1 0 x7.length),(7,vI x9.1),(8,vI x9.2.1),(9,.ptr 2 0 0),(10,.ptr 3 0 0),(15,z1 a37),(16,vI s41.1),(17,vI s41.2.1),(18,vI s41.2.2)],(s7_12 x5 x7 x9 x13),190⟩ ?_
   refine rn ?_
   cases h
   exact ⟨_,rfl,(wk_gc (live:=[5,6,7,8,9,10,15,16,17,18]) (keep:=[0,1,2,3,4]) kr)⟩
  refine wg [9,15,16,17] [2] ?_
  refine wp_exit ?_
  cases h
  exact ⟨kr,rfl⟩
 intro x56 h out hx
 subst hx
 rcases x56 with x57 | x58
 ·dsimp only at h ⊢
  cases h
  show fnOut _ _ _ _=_
  kernel_rfl
 ·dsimp only at h ⊢
  refine wp_seq (rga hfol (sy 3 3 ?_))
  refine rb [158,159] h (fun q60 h=>?_) (fun q60 h=>?_)
  ·refine sy 31 34 (rgd ?_)
   refine wgc [4] [] ⟨[(4,vB true)],[],190⟩ ?_
   cases h
   exact wp_ret (show fnOut _ _ _ _=_ from by kernel_rfl)
  refine sy 4 7 ?_
  refine rb [162,163] h (fun q62 h=>?_) (fun q62 h=>?_)
  ·refine sy 5 12 ?_
   refine rb [165,166,167,168] h (fun q64 h=>?_) (fun q64 h=>?_)
   ·refine sy 22 34 (rgd ?_)
    refine wgc [4] [] ⟨[(4,vB true)],[],190⟩ ?_
    cases h
    exact wp_ret (show fnOut _ _ _ _=_ from by kernel_rfl)
   refine sy 3 15 ?_
   refine rb [170,171] h (fun q66 h=>?_) (fun q66 h=>?_)
   ·refine sy 4 19 ?_
    refine rb [173,174,175] h (fun q68 h=>?_) (fun q68 h=>?_)
    ·refine sy 3 22 ?_
     refine idxL' (enc:=eI) (l:=a37) (n:=x9.2.2.To) (fl:=true) (w:=1) (a:=a39) kr rfl gE q40 ?_
     refine sy 4 27 ?_
     refine bind_elim h (fun a69 q70 h=>?_)
     refine idxL' (enc:=eI) (l:=a37) (n:=x9.2.2.From) (fl:=true) (w:=1) (a:=a69) kr rfl gE q70 ?_
     refine sgy 6 34 (S:=⟨[(9,.ptr 0 0 0),(15,z1 a37),(16,vI x58.1),(17,vI x58.2),(157,vI x58.1),(158,vB false),(159,vB false),(160,vI x58.1),(161,vI x58.2),(162,vB true),(163,vB true),(164,vI x58.1),(165,vB false),(166,vB false),(167,vB false),(168,vB false),(169,vI x58.1),(170,vB true),(171,vB true),(172,vI x58.2),(173,vB true),(174,vB true),(175,vB true),(176,z1 a37),(177,.ptr 0 0 3),(178,vI x9.2.2.To)]++[(179,.fz [vI a39]),(180,vI a39),(181,z1 a37),(182,.ptr 0 0 2),(183,vI x9.2.2.From),(184,.fz [vI a69]),(185,vI a69),(186,vI (zw (a39+a69))),(187,vB (decide ((zw (a39+a69)) > 0))),(188,vB (decide ((zw (a39+a69)) > 0))),(189,vB (decide ((zw (a39+a69)) > 0))),(4,vB (decide ((zw (a39+a69)) > 0)))],(s7_31 x9),190⟩) ?_
     refine rgd (wg [4] [] ?_)
     cases h
     exact wp_ret (show fnOut _ _ _ _=_ from by kernel_rfl)
    refine sgy 15 34 (S:=⟨[(9,.ptr 0 0 0),(15,z1 a37),(16,vI x58.1),(17,vI x58.2),(157,vI x58.1),(158,vB false),(159,vB false),(160,vI x58.1),(161,vI x58.2),(162,vB true),(163,vB true),(164,vI x58.1),(165,vB false),(166,vB false),(167,vB false),(168,vB false),(169,vI x58.1),(170,vB true),(171,vB true),(172,vI x58.2),(173,vB false),(174,vB false),(175,vB false),(176,.tup []),(177,.tup []),(178,.tup []),(179,.tup []),(180,.tup []),(181,.tup []),(182,.tup []),(183,.tup []),(184,.tup []),(185,.tup []),(186,.tup []),(187,.tup []),(188,vB false),(189,vB false),(4,vB false)],(s7_31 x9),190⟩) ?_
    refine rgd (wg [4] [] ?_)
    cases h
    exact wp_ret (show fnOut _ _ _ _=_ from by kernel_rfl)
   refine sgy 19 34 (S:=⟨[(9,.ptr 0 0 0),(15,z1 a37),(16,vI x58.1),(17,vI x58.2),(157,vI x58.1),(158,vB false),(159,vB false),(160,vI x58.1),(161,vI x58.2),(162,vB true),(163,vB true),(164,vI x58.1),(165,vB false),(166,vB false),(167,vB false),(168,vB false),(169,vI x58.1),(170,vB false),(171,vB false),(172,.tup []),(173,.tup []),(174,vB false),(175,vB false),(176,.tup []),(177,.tup []),(178,.tup []),(179,.tup []),(180,.tup []),(181,.tup []),(182,.tup []),(183,.tup []),(184,.tup []),(185,.tup []),(186,.tup []),(187,.tup []),(188,vB false),(189,vB false),(4,vB false)],(s7_31 x9),190⟩) ?_
   refine rgd (wg [4] [] ?_)
   cases h
   exact wp_ret (show fnOut _ _ _ _=_ from by kernel_rfl)
  refine sy 8 15 ?_
  refine rb [170,171] h (fun q72 h=>?_) (fun q72 h=>?_)
  ·refine sy 4 19 ?_
   refine rb [173,174,175] h (fun q74 h=>?_) (fun q74 h=>?_)
   ·refine sy 3 22 ?_
    refine idxL' (enc:=eI) (l:=a37) (n:=x9.2.2.To) (fl:=true) (w:=1) (a:=a39) kr rfl gE q40 ?_
    refine sy 4 27 ?_
    refine bind_elim h (fun a75 q76 h=>?_)
    refine idxL' (enc:=eI) (l:=a37) (n:=x9.2.2.From) (fl:=true) (w:=1) (a:=a75) kr rfl gE q76 ?_
    refine sgy 6 34 (S:=⟨[(9,.ptr 0 0 0),(15,z1 a37),(16,vI x58.1),(17,vI x58.2),(157,vI x58.1),(158,vB false),(159,vB false),(160,vI x58.1),(161,vI x58.2),(162,vB false),(163,vB false),(164,.tup []),(165,.tup []),(166,vB false),(167,vB false),(168,vB false),(169,vI x58.1),(170,vB true),(171,vB true),(172,vI x58.2),(173,vB true),(174,vB true),(175,vB true),(176,z1 a37),(177,.ptr 0 0 3),(178,vI x9.2.2.To)]++[(179,.fz [vI a39]),(180,vI a39),(181,z1 a37),(182,.ptr 0 0 2),(183,vI x9.2.2.From),(184,.fz [vI a75]),(185,vI a75),(186,vI (zw (a39+a75))),(187,vB (decide ((zw (a39+a75)) > 0))),(188,vB (decide ((zw (a39+a75)) > 0))),(189,vB (decide ((zw (a39+a75)) > 0))),(4,vB (decide ((zw (a39+a75)) > 0)))],(s7_31 x9),190⟩) ?_
    refine rgd (wg [4] [] ?_)
    cases h
    exact wp_ret (show fnOut _ _ _ _=_ from by kernel_rfl)
   refine sgy 15 34 (S:=⟨[(9,.ptr 0 0 0),(15,z1 a37),(16,vI x58.1),(17,vI x58.2),(157,vI x58.1),(158,vB false),(159,vB false),(160,vI x58.1),(161,vI x58.2),(162,vB false),(163,vB false),(164,.tup []),(165,.tup []),(166,vB false),(167,vB false),(168,vB false),(169,vI x58.1),(170,vB true),(171,vB true),(172,vI x58.2),(173,vB false),(174,vB false),(175,vB false),(176,.tup []),(177,.tup []),(178,.tup []),(179,.tup []),(180,.tup []),(181,.tup []),(182,.tup []),(183,.tup []),(184,.tup []),(185,.tup []),(186,.tup []),(187,.tup []),(188,vB false),(189,vB false),(4,vB false)],(s7_31 x9),190⟩) ?_
   refine rgd (wg [4] [] ?_)
   cases h
   exact wp_ret (show fnOut _ _ _ _=_ from by kernel_rfl)
  refine sy 19 34 (rgd ?_)
  refine wgc [4] [] ⟨[(4,vB false)],[],190⟩ ?_
  cases h
  exact wp_ret (show fnOut _ _ _ _=_ from by kernel_rfl)
end Go.Ab
namespace Go.Ab
open Go
theorem whileN_spec {σ ρ:Type} {body:σ→Option (Step σ ρ)} (I:σ→Prop) (m:σ→Nat) (Q:ρ→Prop)
  (step:∀s,I s→(∃s',body s=some (.next s')∧I s'∧m s' < m s)∨(∃r,body s=some (.done r)∧Q r)) :
  ∀(n:Nat) (s:σ),I s→m s < n→∃r,whileN n body s=some r∧Q r
 | 0,s,_,h=>by omega
 | n+1,s,hI,h=>by
  unfold whileN
  rcases step s hI with ⟨s',h1,h2,h3⟩ | ⟨r,h1,h2⟩
  ·rw [h1]
   exact whileN_spec I m Q step n s' h2 (by omega)
  ·rw [h1]
   exact ⟨r,rfl,h2⟩
theorem whileN_eq {σ ρ:Type} {body:σ→Option (Step σ ρ)} (I:σ→Prop) (m:σ→Nat) (r:ρ)
  (step:∀s,I s→(∃s',body s=some (.next s')∧I s'∧m s' < m s)∨body s=some (.done r)) (s:σ) (hI:I s) (hm:m s < 1152921504606846976):whileN fuel body s=some r:=by
 obtain ⟨r',h1,h2⟩:=whileN_spec I m (fun x=>x=r) (fun s hs=>(step s hs).imp id fun h=>⟨r,h,rfl⟩) fuel s hI hm
 rw [h1,h2]
theorem whileN_ex {σ ρ:Type} {body:σ→Option (Step σ ρ)} (I:σ→Prop) (m:σ→Nat) (Q:ρ→Prop)
  (step:∀s,I s→(∃s',body s=some (.next s')∧I s'∧m s' < m s)∨(∃r,body s=some (.done r)∧Q r)) (s:σ) (hI:I s) (hm:m s < 1152921504606846976):∃r,whileN fuel body s=some r∧Q r :=
 whileN_spec I m Q step fuel s hI hm
theorem whileN_count {σ ρ:Type} {body:σ→Option (Step σ ρ)} (f:Nat → σ) (n:Nat) (r:ρ) (step:∀k,k < n→body (f k)=some (.next (f (k+1)))) (done:body (f n)=some (.done r)) (hn:n < 1152921504606846976) :
  whileN fuel body (f 0)=some r:=by
 have key:∀(j N k:Nat),k+j=n→j < N→whileN N body (f k)=some r:=by
  intro j
  induction j with
  | zero =>
   intro N k hk hN
   obtain ⟨N,rfl⟩:∃M,N=M+1:=⟨N - 1,by omega⟩
   have:k=n:=by omega
   subst this
   simp [whileN,done]
  | succ j ih =>
   intro N k hk hN
   obtain ⟨N,rfl⟩:∃M,N=M+1:=⟨N - 1,by omega⟩
   simp only [whileN,step k (by omega)]
   exact ih N (k+1) (by omega) (by omega)
 exact key n fuel 0 (by omega) hn
theorem whileN_run {σ ρ:Type} {body:σ→Option (Step σ ρ)} {s0:σ} (f:Nat → σ) (n:Nat) (r:ρ) (h0:f 0=s0) (step:∀k,k < n→body (f k)=some (.next (f (k+1)))) (done:body (f n)=some (.done r)) (hn:n < 1152921504606846976) :
  whileN fuel body s0=some r:=by rw [←h0]; exact whileN_count f n r step done hn
theorem w64 {n:Int} (h:-9223372036854775808≤n∧n≤9223372036854775807):IntKind.i64.wrap n=n:=by rw [IntKind.wrap_i64]; omega
theorem lkI_nat {α:Type} {l:List α} {k:Nat} (h:k < l.length):lkI l (k:Int)=some l[k]:=by
 unfold lkI
 rw [if_neg (by omega),Int.toNat_natCast,List.getElem?_eq_getElem h]
theorem tdiv_pos {a b:Int} (h:0≤a):Int.tdiv a b=a / b:=Int.tdiv_eq_ediv_of_nonneg h
theorem tmod_pos {a b:Int} (h:0≤a):Int.tmod a b=a % b:=Int.tmod_eq_emod_of_nonneg h
def dgs (n:Nat):List Int:=if h:n=0 then [] else ((n % 10000:Nat):Int)::dgs (n / 10000)
termination_by n
decreasing_by omega
def dval:List Int→Nat
 | []=>0
 | x::l=>x.toNat + 10000*dval l
def isdg (l:List Int):Prop:=∀x∈l,0≤x∧x < 10000
theorem dgs_zero:dgs 0=[]:=by rw [dgs]; simp
theorem dgs_pos {n:Nat} (h:n≠0):dgs n=((n % 10000:Nat):Int)::dgs (n / 10000):=by rw [dgs]; simp [h]
theorem dval_dgs (n:Nat):dval (dgs n)=n:=by
 induction n using Nat.strongRecOn with
 | _ n ih =>
  by_cases h:n=0
  ·subst h; rw [dgs_zero]; rfl
  ·rw [dgs_pos h]
   simp only [dval]
   rw [ih (n / 10000) (by omega)]
   omega
theorem isdg_dgs (n:Nat):isdg (dgs n):=by
 induction n using Nat.strongRecOn with
 | _ n ih =>
  by_cases h:n=0
  ·subst h; rw [dgs_zero]; intro x hx; cases hx
  ·rw [dgs_pos h]
   intro x hx
   rcases List.mem_cons.1 hx with rfl | hx
   ·omega
   ·exact ih (n / 10000) (by omega) x hx
theorem dgs_eq_nil {n:Nat}:dgs n=[]↔n=0:=by
 constructor
 ·intro h
  have:=dval_dgs n
  rw [h] at this; exact this.symm
 ·intro h; subst h; exact dgs_zero
theorem isdg_cons {x:Int} {l:List Int}:isdg (x::l)↔(0≤x∧x < 10000)∧isdg l:=by simp [isdg]
theorem isdg_nil:isdg []:=fun x h=>by cases h
theorem isdg_append {a b:List Int}:isdg (a++b)↔isdg a∧isdg b:=by
 constructor
 ·exact fun h=>⟨fun x hx=>h x (List.mem_append_left _ hx),fun x hx=>h x (List.mem_append_right _ hx)⟩
 ·rintro ⟨h1,h2⟩ x hx
  rcases List.mem_append.1 hx with h | h
  ·exact h1 x h
  ·exact h2 x h
theorem dval_append (a b:List Int):dval (a++b)=dval a+10000^a.length*dval b:=by
 induction a with
 | nil=>simp [dval]
 | cons x a ih =>
  simp only [List.cons_append,dval,ih,List.length_cons,Nat.pow_succ]
  rw [Nat.mul_add,Nat.add_assoc,←Nat.mul_assoc,Nat.mul_comm 10000 (10000^a.length)]
theorem dval_lt {l:List Int} (h:isdg l):dval l < 10000^l.length:=by
 induction l with
 | nil=>simp [dval]
 | cons x l ih =>
  rw [isdg_cons] at h
  have:=ih h.2
  simp only [dval,List.length_cons,Nat.pow_succ]
  omega
def nolz (l:List Int):Prop:=l.getLast?≠some 0
theorem dgs_of {l:List Int} (h:isdg l) (hn:nolz l):dgs (dval l)=l:=by
 induction l with
 | nil=>exact dgs_zero
 | cons x l ih =>
  rw [isdg_cons] at h
  have hn':nolz l:=by
   unfold nolz at *
   cases l with
   | nil=>simp
   | cons y l=>simpa [List.getLast?_cons_cons] using hn
  have hne:dval (x::l)≠0:=by
   simp only [dval]
   intro h0
   have hx:x=0:=by omega
   have hl:dval l=0:=by omega
   have:=ih h.2 hn'
   rw [hl,dgs_zero] at this
   subst this
   subst hx
   simp [nolz] at hn
  rw [dgs_pos hne]
  simp only [dval] at *
  rw [show (x.toNat + 10000*dval l) / 10000=dval l by omega,ih h.2 hn']
  congr 1
  omega
theorem nolz_dgs (n:Nat):nolz (dgs n):=by
 induction n using Nat.strongRecOn with
 | _ n ih =>
  by_cases h:n=0
  ·subst h; rw [dgs_zero]; simp [nolz]
  ·rw [dgs_pos h]
   have:=ih (n / 10000) (by omega)
   unfold nolz at *
   cases hd:dgs (n / 10000) with
   | nil =>
    rw [dgs_eq_nil] at hd
    intro h1
    simp only [List.getLast?_singleton,Option.some.injEq] at h1
    omega
   | cons y l =>
    rw [hd] at this
    simpa [List.getLast?_cons_cons] using this
theorem dgs_length_le {n K:Nat} (h:n < 10000^K):(dgs n).length≤K:=by
 induction K generalizing n with
 | zero=>simp at h; subst h; rw [dgs_zero]; simp
 | succ K ih =>
  by_cases h0:n=0
  ·subst h0; rw [dgs_zero]; simp
  ·rw [dgs_pos h0]
   simp only [List.length_cons]
   have:=ih (n:=n / 10000) (by rw [Nat.pow_succ] at h; omega)
   omega
theorem lt_dgs (n:Nat):n < 10000^(dgs n).length:=by
 have:=dval_lt (isdg_dgs n)
 rwa [dval_dgs] at this
theorem dgs_le {n:Nat} (h:n≠0):10000^((dgs n).length - 1)≤n:=by
 induction n using Nat.strongRecOn with
 | _ n ih =>
  rw [dgs_pos h]
  simp only [List.length_cons,Nat.add_sub_cancel]
  by_cases h0:n / 10000=0
  ·rw [h0,dgs_zero]; simp; omega
  ·have h1:=ih (n / 10000) (by omega) h0
   have:(dgs (n / 10000)).length≠0:=by rw [Ne,List.length_eq_zero_iff,dgs_eq_nil]; exact h0
   obtain ⟨k,hk⟩:∃k,(dgs (n / 10000)).length=k+1:=⟨(dgs (n / 10000)).length - 1,by omega⟩
   rw [hk] at h1 ⊢
   simp only [Nat.add_sub_cancel] at h1
   rw [Nat.pow_succ]
   omega
theorem isdg_get {l:List Int} (h:isdg l) {k:Nat} (hk:k < l.length):0≤l[k]∧l[k] < 10000:=h _ (List.getElem_mem hk)
theorem dval_take_succ {l:List Int} {k:Nat} (hk:k < l.length):dval (l.take (k+1))=dval (l.take k)+10000^k*l[k].toNat := by
 rw [List.take_succ_eq_append_getElem hk,dval_append]
 simp [dval,Nat.min_eq_left (Nat.le_of_lt hk)]
theorem dval_drop {l:List Int} {k:Nat} (hk:k < l.length):dval (l.drop k)=l[k].toNat + 10000*dval (l.drop (k+1)):=by
 rw [List.drop_eq_getElem_cons hk]; rfl
theorem isdg_take {l:List Int} (h:isdg l) (k:Nat):isdg (l.take k):=fun x hx=>h x (List.mem_of_mem_take hx)
theorem isdg_drop {l:List Int} (h:isdg l) (k:Nat):isdg (l.drop k):=fun x hx=>h x (List.mem_of_mem_drop hx)
end Go.Ab
namespace Go.Ab
open Go
def rowG {α:Type} (n:Nat) (F:Nat → α):List α:=(List.range n).map F
theorem rowG_len {α:Type} {n:Nat} {F:Nat → α}:(rowG n F).length=n:=by simp [rowG]
theorem rowG_get {α:Type} {n:Nat} {F:Nat → α} {k:Nat} (h:k < n):lkI (rowG n F) (k:Int)=some (F k):=by
 rw [lkI_nat (by rw [rowG_len]; exact h)]; simp [rowG]
theorem rowG_congr {α:Type} {n:Nat} {F G:Nat → α} (h:∀k,k < n→F k=G k):rowG n F=rowG n G:=by
 unfold rowG
 apply List.map_congr_left
 intro t ht
 exact h t (by simpa using ht)
theorem rowG_set {α:Type} {n:Nat} {F:Nat → α} {k:Nat} {x:α}:(rowG n F).set k x=rowG n (fun s=>if s=k then x else F s):=by
 apply List.ext_getElem?
 intro s
 rw [List.getElem?_set]
 simp only [rowG,List.getElem?_map,List.length_map,List.length_range]
 by_cases e:k=s
 ·subst e
  rw [if_pos rfl]
  by_cases hk:k < n
  ·rw [if_pos hk,List.getElem?_range hk]; simp
  ·rw [if_neg hk,List.getElem?_eq_none (by simpa using hk)]; rfl
 ·rw [if_neg e]
  by_cases hs:s < n
  ·rw [List.getElem?_range hs]; simp only [Option.map_some]; rw [if_neg (Ne.symm e)]
  ·rw [List.getElem?_eq_none (by simpa using hs)]; rfl
theorem rowG_rep {α:Type} (n:Nat) (x:α):List.replicate n x=rowG n (fun _=>x):=by
 apply List.ext_getElem?
 intro s
 rw [List.getElem?_replicate]
 by_cases hs:s < n
 ·rw [if_pos hs]; simp [rowG,List.getElem?_range hs]
 ·rw [if_neg hs,List.getElem?_eq_none (by rw [rowG_len]; omega)]
theorem rowG_succ {α:Type} {n:Nat} {F:Nat → α}:rowG n F++[F n]=rowG (n+1) F:=by
 unfold rowG; rw [List.range_succ]; simp
def upd {α:Type} (w:Nat → α) (i:Nat) (x:α):Nat → α:=fun s=>if s=i then x else w s
theorem upd_same {α:Type} {w:Nat → α} {i:Nat} {x:α}:upd w i x i=x:=by simp [upd]
theorem upd_ne {α:Type} {w:Nat → α} {i j:Nat} {x:α} (h:j≠i):upd w i x j=w j:=by simp [upd,h]
def sumI:Nat → (Nat → Int)→Int
 | 0,_=>0
 | n+1,f=>sumI n f+f n
theorem sumI_congr {n:Nat} {f g:Nat → Int} (h:∀k,k < n→f k=g k):sumI n f=sumI n g:=by
 induction n with
 | zero=>rfl
 | succ n ih=>simp only [sumI]; rw [ih (fun k hk=>h k (by omega)),h n (by omega)]
theorem sumI_add {n:Nat} {f g:Nat → Int}:sumI n (fun k=>f k+g k)=sumI n f+sumI n g:=by
 induction n with
 | zero=>rfl
 | succ n ih=>simp only [sumI,ih]; omega
theorem sumI_mul {n:Nat} {f:Nat → Int} {c:Int}:sumI n (fun k=>f k*c)=sumI n f*c:=by
 induction n with
 | zero=>simp [sumI]
 | succ n ih=>simp only [sumI,ih]; rw [Int.add_mul]
theorem sumI_zero {n:Nat}:sumI n (fun _=>0)=0:=by
 induction n with
 | zero=>rfl
 | succ n ih=>simp only [sumI,ih]; rfl
theorem sumI_nonneg {n:Nat} {f:Nat → Int} (h:∀k,k < n→0≤f k):0≤sumI n f:=by
 induction n with
 | zero=>exact Int.le_refl 0
 | succ n ih=>simp only [sumI]; have:=ih (fun k hk=>h k (by omega)); have:=h n (by omega); omega
theorem sumI_le {n:Nat} {f g:Nat → Int} (h:∀k,k < n→f k≤g k):sumI n f≤sumI n g:=by
 induction n with
 | zero=>exact Int.le_refl 0
 | succ n ih=>simp only [sumI]; have:=ih (fun k hk=>h k (by omega)); have:=h n (by omega); omega
theorem sumI_one {n k:Nat} {c:Int} (h:k < n):sumI n (fun x=>if k=x then c else 0)=c:=by
 induction n with
 | zero=>omega
 | succ n ih =>
  simp only [sumI]
  by_cases e:k=n
  ·subst e
   rw [if_pos rfl,sumI_congr (g:=fun _=>0) (fun x hx=>if_neg (by omega)),sumI_zero]; omega
  ·rw [if_neg e,ih (by omega)]; omega
theorem sumI_split {a b:Nat} {f:Nat → Int}:sumI (a+b) f=sumI a f+sumI b (fun k=>f (a+k)):=by
 induction b with
 | zero=>simp [sumI]
 | succ b ih=>rw [←Nat.add_assoc]; simp only [sumI,ih]; omega
def prodTo:Nat → (Nat → Nat)→Nat
 | 0,_=>1
 | n+1,f=>prodTo n f*f n
theorem prodTo_congr {n:Nat} {f g:Nat → Nat} (h:∀k,k < n→f k=g k):prodTo n f=prodTo n g:=by
 induction n with
 | zero=>rfl
 | succ n ih=>simp only [prodTo]; rw [ih (fun k hk=>h k (by omega)),h n (by omega)]
theorem prodTo_le {n K:Nat} {f:Nat → Nat} (h:∀k,k < n→f k≤K):prodTo n f≤K^n:=by
 induction n with
 | zero=>simp [prodTo]
 | succ n ih=>simp only [prodTo,Nat.pow_succ]; exact Nat.mul_le_mul (ih fun k hk=>h k (by omega)) (h n (by omega))
theorem prodTo_apart {n j:Nat} {f:Nat → Nat} (h:j < n):prodTo n (fun v=>if v=j then 1 else f v)*f j=prodTo n f:=by
 induction n with
 | zero=>omega
 | succ n ih =>
  simp only [prodTo]
  by_cases e:n=j
  ·subst e
   rw [if_pos rfl,Nat.mul_one,prodTo_congr (g:=f) (fun k hk=>if_neg (by omega))]
  ·rw [if_neg e,←ih (by omega),Nat.mul_assoc,Nat.mul_comm (f n),←Nat.mul_assoc]
end Go.Ab
namespace Go.Ab
open Go
structure NF where
 n:Nat
 g:Nat
 card:Nat → Nat
 par:Nat → List Nat
 W:Nat → Nat → Nat → Nat
def lprod (f:Nat → Nat) (l:List Nat):Nat := l.foldl (fun r p=>r*f p) 1
def NF.rows (D:NF) (v:Nat):Nat := lprod D.card (D.par v)
def NF.node (D:NF) (v:Nat):Tapi_Node:=⟨D.card v,(D.par v).map (fun (p:Nat)=>(p:Int)),rowG (D.rows v) fun r=>rowG (D.card v) fun x=>(D.W v r x:Int)⟩
def NF.net (D:NF):Tapi_Net:=⟨D.g,rowG D.n D.node⟩
def rowI (n:Nat) (w:Nat → Nat):List Int:=rowG n fun j=>(w j:Int)
theorem rowI_get {n k:Nat} {w:Nat → Nat} (h:k < n):lkI (rowI n w) (k:Int)=some (w k:Int):=rowG_get h
theorem rowI_len {n:Nat} {w:Nat → Nat}:(rowI n w).length=n:=rowG_len
structure VN (D:NF):Prop where
 n1:1≤D.n
 n8:D.n≤8
 g1:1≤D.g
 g60:D.g≤60
 card:∀v,v < D.n→1≤D.card v∧D.card v≤4
 par:∀v,v < D.n→∀p∈D.par v,p < D.n
 len:∀v,v < D.n→(D.par v).length≤8
 W:∀v r x,v < D.n→r < D.rows v→x < D.card v→D.W v r x≤D.g
 worlds:prodTo D.n D.card≤1024
def horner (c w:Nat → Nat) (l:List Nat):Nat := l.foldl (fun r p=>r*c p+w p) 0
theorem horner_append {c w:Nat → Nat} {l:List Nat} {p:Nat}:horner c w (l++[p])=horner c w l*c p+w p:=by simp [horner]
theorem lprod_append {f:Nat → Nat} {l:List Nat} {p:Nat}:lprod f (l++[p])=lprod f l*f p:=by simp [lprod]
theorem horner_lt {c w:Nat → Nat} {l:List Nat} (h:∀p∈l,w p < c p):horner c w l < lprod c l:=by
 have key:∀(l:List Nat) (r R:Nat),r < R→(∀p∈l,w p < c p)→l.foldl (fun r p=>r*c p+w p) r < l.foldl (fun r p=>r*c p) R:=by
  intro l
  induction l with
  | nil=>intro r R h _; exact h
  | cons p l ih =>
   intro r R hr hp
   simp only [List.foldl_cons]
   refine ih _ _ ?_ (fun q hq=>hp q (List.mem_cons_of_mem _ hq))
   have h1:=hp p (by simp)
   have h2:(r+1)*c p≤R*c p:=Nat.mul_le_mul_right _ hr
   rw [Nat.succ_mul] at h2
   omega
 exact key l 0 1 (by omega) h
theorem lprod_le {f:Nat → Nat} {l:List Nat} (h:∀p∈l,f p≤4):lprod f l≤4^l.length:=by
 have key:∀(l:List Nat) (R K:Nat),R≤K→(∀p∈l,f p≤4)→l.foldl (fun r p=>r*f p) R≤K*4^l.length:=by
  intro l
  induction l with
  | nil=>intro R K h _; simpa using h
  | cons p l ih =>
   intro R K hr hp
   simp only [List.foldl_cons,List.length_cons,Nat.pow_succ]
   have:=ih (R*f p) (K*4) (Nat.mul_le_mul hr (hp p (by simp))) (fun q hq=>hp q (List.mem_cons_of_mem _ hq))
   rwa [Nat.mul_assoc,Nat.mul_comm 4] at this
 have:=key l 1 1 (by omega) h
 simpa [lprod] using this
def NF.idx (D:NF) (v:Nat) (w:Nat → Nat):Nat := horner D.card w (D.par v)
def NF.wt (D:NF) (w:Nat → Nat) (v:Nat):Nat := D.W v (D.idx v w) (w v)
def NF.ok (D:NF) (w:Nat → Nat):Prop:=∀v,v < D.n→w v < D.card v
section
variable {D:NF} (V:VN D) {w:Nat → Nat}
include V
theorem VN.idx_lt (hw:D.ok w) {v:Nat} (hv:v < D.n):D.idx v w < D.rows v:=horner_lt fun p hp=>hw p (V.par v hv p hp)
theorem VN.wt_le (hw:D.ok w) {v:Nat} (hv:v < D.n):D.wt w v≤60:=Nat.le_trans (V.W v _ _ hv (V.idx_lt hw hv) (hw v hv)) V.g60
theorem VN.rows_le {v:Nat} (hv:v < D.n):D.rows v≤65536:=by
 refine Nat.le_trans (lprod_le fun p hp=>(V.card p (V.par v hv p hp)).2) ?_
 exact Nat.pow_le_pow_right (by omega) (V.len v hv)
omit V in
theorem take_succ' {α:Type} {l:List α} {k:Nat} (h:k < l.length):l.take (k+1)=l.take k++[l[k]]:=by rw [List.take_add_one,List.getElem?_eq_getElem h]; rfl
theorem VN.node {v:Nat} (hv:v < D.n):lkI D.net.Nodes (v:Int)=some (D.node v):=rowG_get hv
theorem VN.weigh0 (hw:D.ok w) {v:Nat} (hv:v < D.n):whileN fuel (g_sensitive_weigh_b0 (D.node v) D.net (rowI D.n w)) (0,0)=some (D.idx v w:Int):=by
 have hl:(D.node v).Parents.length=(D.par v).length:=by simp [NF.node]
 refine whileN_run (fun k=>((horner D.card w ((D.par v).take k):Int),(k:Int))) (D.par v).length _ rfl (fun k hk=>?_) ?_ (by have:=V.len v hv; omega)
 ·have hlen:=V.len v hv
  have hp:=V.par v hv (D.par v)[k] (List.getElem_mem hk)
  have hpar:lkI (D.node v).Parents (k:Int)=some (((D.par v)[k]:Nat):Int):=by rw [lkI_nat (by rw [hl]; exact hk)]; simp [NF.node]
  have h1:horner D.card w ((D.par v).take k) < lprod D.card ((D.par v).take k):=horner_lt fun p hp=>hw p (V.par v hv p (List.mem_of_mem_take hp))
  have h2:lprod D.card ((D.par v).take k)≤4^8:=Nat.le_trans (lprod_le fun p hp=>(V.card p (V.par v hv p (List.mem_of_mem_take hp))).2) (Nat.pow_le_pow_right (by omega) (by rw [List.length_take]; omega))
  have h3:horner D.card w ((D.par v).take (k+1))=horner D.card w ((D.par v).take k)*D.card (D.par v)[k]+w (D.par v)[k]:=by rw [take_succ' hk,horner_append]
  have hc:=(V.card _ hp).2
  have hww:=hw _ hp
  have h4:horner D.card w ((D.par v).take k)*D.card (D.par v)[k]≤65536*4:=Nat.mul_le_mul (by omega) hc
  unfold g_sensitive_weigh_b0
  simp only
  rw [if_pos (by rw [hl]; simpa using hk),hpar]
  simp only [Option.bind_some]
  rw [V.node hp]
  simp only [Option.bind_some]
  rw [rowI_get hp]
  simp only [Option.bind_some]
  have e1:((horner D.card w ((D.par v).take k):Nat):Int)*(D.node (D.par v)[k]).Card=((horner D.card w ((D.par v).take k)*D.card (D.par v)[k]:Nat):Int):=by simp [NF.node]
  have w1:IntKind.i64.wrap ((horner D.card w ((D.par v).take k)*D.card (D.par v)[k]:Nat):Int)=((horner D.card w ((D.par v).take k)*D.card (D.par v)[k]:Nat):Int):=w64 (by omega)
  rw [e1,w1,w64 (by omega),w64 (by omega),h3]
  simp
 ·unfold g_sensitive_weigh_b0
  simp only
  rw [if_neg (by rw [hl]; simp)]
  simp [NF.idx]
end
structure SF where
 N:Nat
 R:Nat
 F:Nat
 T:Nat
def SF.sh (s:SF):Tapi_Shift:=⟨s.N,s.R,s.F,s.T⟩
def NF.hit (D:NF) (s:SF) (w:Nat → Nat):Bool:=D.idx s.N w==s.R
def NF.change (D:NF) (s:SF) (w:Nat → Nat):Int:=if D.hit s w=true then (if w s.N=s.F then -1 else if w s.N=s.T then 1 else 0) else 0
def NF.rest (D:NF) (s:SF) (w:Nat → Nat):Nat → Nat := fun k=>prodTo k fun v=>if v=s.N∧D.hit s w=true then 1 else D.wt w v
def NF.own (D:NF) (s:SF) (w:Nat → Nat):Nat := if D.hit s w=true then D.wt w s.N else 1
def NF.fA (D:NF) (s:SF) (w:Nat → Nat):Int:=(D.rest s w D.n:Int)*D.own s w
def NF.fB (D:NF) (s:SF) (w:Nat → Nat):Int:=(D.rest s w D.n:Int)*D.change s w
section
variable {D:NF} (V:VN D) {w:Nat → Nat} {s:SF}
include V
theorem VN.rest_le (hw:D.ok w) {k:Nat} (hk:k≤D.n):D.rest s w k≤167961600000000:=by
 have h1:D.rest s w k≤60^k:=prodTo_le fun v hv=>by
  split
  ·omega
  ·exact V.wt_le hw (by omega)
 have h2:(60:Nat)^k≤60^8:=Nat.pow_le_pow_right (by omega) (by have:=V.n8; omega)
 exact Nat.le_trans h1 (Nat.le_trans h2 (by decide))
theorem VN.own_le (hw:D.ok w) (hs:s.N < D.n):D.own s w≤60:=by
 unfold NF.own
 split
 ·exact V.wt_le hw hs
 ·omega
theorem VN.weigh_eq (hw:D.ok w) (hs:s.N < D.n):g_sensitive_weigh D.net (rowI D.n w) s.sh=some (D.fA s w,D.fB s w):=by
 have hlen:D.net.Nodes.length=D.n:=rowG_len
 have hn8:=V.n8
 have hrun:whileN fuel (g_sensitive_weigh_b1 D.net (rowI D.n w) s.sh) (1,1,0,0)=some ((D.rest s w D.n:Int),(D.own s w:Int),D.change s w):=by
  refine whileN_run (fun k=>((D.rest s w k:Int),(if s.N < k then (D.own s w:Int) else 1),(if s.N < k then D.change s w else 0),(k:Int))) D.n _ (by simp [NF.rest,prodTo]) (fun k hk=>?_) ?_ (by omega)
  ·have hb:=V.rest_le (s:=s) hw (k:=k) (by omega)
   have hwt:=V.wt_le hw hk
   have hr1:D.rest s w (k+1)=D.rest s w k*(if k=s.N∧D.hit s w=true then 1 else D.wt w k):=rfl
   have hi:=V.idx_lt hw hk
   have hm:D.rest s w k*D.wt w k≤167961600000000*60:=Nat.mul_le_mul hb hwt
   unfold g_sensitive_weigh_b1
   simp only
   rw [if_pos (by rw [hlen]; simpa using hk),V.node hk]
   simp only [Option.bind_some]
   rw [V.weigh0 hw hk]
   simp only [Option.bind_some]
   rw [show lkI (D.node k).Rows (D.idx k w:Int)=some (rowG (D.card k) fun x=>(D.W k (D.idx k w) x:Int)) from rowG_get hi]
   simp only [Option.bind_some]
   rw [rowI_get hk]
   simp only [Option.bind_some]
   rw [show lkI (rowG (D.card k) fun x=>(D.W k (D.idx k w) x:Int)) (w k:Int)=some (D.wt w k:Int) from rowG_get (hw k hk)]
   simp only [Option.bind_some]
   have hi1:IntKind.i64.wrap ((k:Int)+1)=((k+1:Nat):Int):=by rw [w64 (by omega)]; omega
   rw [hi1]
   by_cases hN:k=s.N
   ·subst hN
    by_cases hh:D.hit s w=true
    ·have hR:D.idx s.N w=s.R:=by simpa [NF.hit] using hh
     rw [if_neg (by simp [SF.sh,hR])]
     have hrest:D.rest s w (s.N+1)=D.rest s w s.N:=by rw [hr1,if_pos ⟨rfl,hh⟩,Nat.mul_one]
     rw [hrest]
     simp only [Nat.lt_irrefl,if_false,Nat.lt_succ_self,if_true,NF.own,NF.change,hh]
     by_cases hF:w s.N=s.F
     ·rw [if_pos (by simp [SF.sh,hF])]; simp [hF]
     ·rw [if_neg (by simp [SF.sh]; omega)]
      by_cases hT:w s.N=s.T
      ·rw [if_pos (by simp [SF.sh,hT]),if_neg hF,if_pos hT]
      ·rw [if_neg (by simp [SF.sh]; omega),if_neg hF,if_neg hT]
    ·have hR:D.idx s.N w≠s.R:=by simpa [NF.hit] using hh
     rw [if_pos (by simp [SF.sh]; omega)]
     have hrest:D.rest s w (s.N+1)=D.rest s w s.N*D.wt w s.N:=by rw [hr1,if_neg (fun h=>hh h.2)]
     rw [hrest]
     simp only [Nat.lt_irrefl,if_false,Nat.lt_succ_self,if_true,NF.own,NF.change,hh]
     rw [w64 (by rw [←Int.natCast_mul]; omega)]
     simp
   ·have e1:(s.N < k+1)=(s.N < k):=propext (by omega)
    rw [if_pos (by simp [SF.sh]; omega)]
    have hrest:D.rest s w (k+1)=D.rest s w k*D.wt w k:=by rw [hr1,if_neg (fun h=>hN h.1)]
    rw [hrest]
    simp only [e1]
    rw [w64 (by rw [←Int.natCast_mul]; omega)]
    simp
  ·unfold g_sensitive_weigh_b1
   simp only
   rw [if_neg (by rw [hlen]; simp)]
   simp [hs]
 have hb:=V.rest_le (s:=s) hw (k:=D.n) (Nat.le_refl _)
 have ho:=V.own_le (s:=s) hw hs
 have hm:D.rest s w D.n*D.own s w≤167961600000000*60:=Nat.mul_le_mul hb ho
 have hc:D.change s w=-1∨D.change s w=0∨D.change s w=1:=by
  unfold NF.change
  split
  ·split
   ·exact .inl rfl
   ·split
    ·exact .inr (.inr rfl)
    ·exact .inr (.inl rfl)
  ·exact .inr (.inl rfl)
 unfold g_sensitive_weigh
 rw [hrun]
 simp only [Option.bind_some]
 rw [w64 (by rw [←Int.natCast_mul]; omega),w64 (by rcases hc with h | h | h <;> rw [h] <;> omega)]
 rfl
theorem VN.fB_bound (hw:D.ok w):-167961600000000≤D.fB s w∧D.fB s w≤167961600000000:=by
 have hb:=V.rest_le (s:=s) hw (k:=D.n) (Nat.le_refl _)
 have hc:D.change s w=-1∨D.change s w=0∨D.change s w=1:=by
  unfold NF.change
  split
  ·split
   ·exact .inl rfl
   ·split
    ·exact .inr (.inr rfl)
    ·exact .inr (.inl rfl)
  ·exact .inr (.inl rfl)
 unfold NF.fB
 rcases hc with h | h | h <;> rw [h] <;> omega
theorem VN.fA_eq (hs:s.N < D.n):D.fA s w=(prodTo D.n (D.wt w):Int):=by
 unfold NF.fA NF.rest NF.own
 by_cases hh:D.hit s w=true
 ·rw [if_pos hh,prodTo_congr (g:=fun v=>if v=s.N then 1 else D.wt w v) (fun k _=>by simp [hh]),←Int.natCast_mul,prodTo_apart hs]
 ·rw [if_neg hh,prodTo_congr (g:=D.wt w) (fun k _=>by rw [if_neg (fun h=>hh h.2)])]; simp
end
end Go.Ab
