/- What functions compute. No conditions. -/
import Derived.Test.YtokcpkcoahlkjaaProg
import Derived.Test.YtokcpkcoahlkjaaW8
import Derived.KernelRfl
import Derived.Test.YtokcpkcoahlkjaaW10
import Derived.Test.YtokcpkcoahlkjaaW9
import Derived.Test.YtokcpkcoahlkjaaW11
import Derived.IntWalk
set_option linter.all false
namespace Go.Ab
open Go Go.Proofs
set_option maxRecDepth 100000
set_option maxHeartbeats 4000000
theorem g_ref05_Known_Of_ok (p0:Tharuspexref05_Known) (p1:Tapi_Net) (x:(List Int)) (h:g_ref05_Known_Of p0 p1=some x):CallOk Try.prog 26 [.agg [.int .u8 p0.Which,.int .u8 p0.V.1,.int .u8 p0.V.2.1,.int .u8 p0.V.2.2.1,.int .u8 p0.V.2.2.2.1,.int .u8 p0.V.2.2.2.2.1,.int .u8 p0.V.2.2.2.2.2.1,.int .u8 p0.V.2.2.2.2.2.2.1,.int .u8 p0.V.2.2.2.2.2.2.2],.agg [vI p1.Grain,eL false eTapi_Node p1.Nodes]] (.ret (.ref 0 0 x.length) [oR true 1 eI x]):=by
 refine fn_ok [] Try.func26 rfl (by decide +kernel) rfl ?_
 unfold g_ref05_Known_Of at h
 refine wp_eqB (base':=0) (st':=⟨[(0,.agg [.int .u8 p0.Which,.int .u8 p0.V.1,.int .u8 p0.V.2.1,.int .u8 p0.V.2.2.1,.int .u8 p0.V.2.2.2.1,.int .u8 p0.V.2.2.2.2.1,.int .u8 p0.V.2.2.2.2.2.1,.int .u8 p0.V.2.2.2.2.2.2.1,.int .u8 p0.V.2.2.2.2.2.2.2]),(1,.agg [vI p1.Grain,eL false eTapi_Node p1.Nodes])],[],39⟩) kr kr ?_
 refine wp_seq (reg_in (sz 1 1 ?_))
 refine sgL false [] [] false gE ?_
 refine sz 1 3 (reg_end rfl (sq (wp_seq (sq (wp_block ?_)))))
 refine wwh h (fun s1=>⟨[(2,.ptr 0 0 0),(3,.ptr 1 0 0),(5,.ref 2 0 s1.2.length),(6,vI s1.1)],[oX true true 9 (.agg [.int .u8 p0.Which,.int .u8 p0.V.1,.int .u8 p0.V.2.1,.int .u8 p0.V.2.2.1,.int .u8 p0.V.2.2.2.1,.int .u8 p0.V.2.2.2.2.1,.int .u8 p0.V.2.2.2.2.2.1,.int .u8 p0.V.2.2.2.2.2.2.1,.int .u8 p0.V.2.2.2.2.2.2.2]),oX true false 2 (.agg [vI p1.Grain,eL false eTapi_Node p1.Nodes]),oR true 1 eI s1.2],39⟩) (fun v out=>out=.go (.exit 0) ⟨[(5,.ref 0 0 v.length)],[oR true 1 eI v],39⟩) (wk_trans (wk_gc (live:=[2,3,5,6]) (keep:=[0,1]) (st':=⟨[(2,.ptr 0 0 0),(3,.ptr 1 0 0),(5,.nils),(6,vI 0)],[oX true true 9 (.agg [.int .u8 p0.Which,.int .u8 p0.V.1,.int .u8 p0.V.2.1,.int .u8 p0.V.2.2.1,.int .u8 p0.V.2.2.2.1,.int .u8 p0.V.2.2.2.2.1,.int .u8 p0.V.2.2.2.2.2.1,.int .u8 p0.V.2.2.2.2.2.2.1,.int .u8 p0.V.2.2.2.2.2.2.2]),oX true false 2 (.agg [vI p1.Grain,eL false eTapi_Node p1.Nodes])],39⟩) kr) (wk_trans (wk_nil 5 1 true true (st':=⟨[(2,.ptr 0 0 0),(3,.ptr 1 0 0),(5,.ref 2 0 0),(6,vI 0)],[oX true true 9 (.agg [.int .u8 p0.Which,.int .u8 p0.V.1,.int .u8 p0.V.2.1,.int .u8 p0.V.2.2.1,.int .u8 p0.V.2.2.2.1,.int .u8 p0.V.2.2.2.2.1,.int .u8 p0.V.2.2.2.2.2.1,.int .u8 p0.V.2.2.2.2.2.2.1,.int .u8 p0.V.2.2.2.2.2.2.2]),oX true false 2 (.agg [vI p1.Grain,eL false eTapi_Node p1.Nodes]),.row false false true true 1 []],39⟩) kr) (wk_gc (live:=[2,3,5,6]) (keep:=[0,1,2]) kr))) ?_ ?_
 ·intro s1 o h
  unfold g_ref05_Known_Of_b0 at h
  refine wp_seq (wp_seq (reg_in (sz 3 3 ?_)))
  refine lenL (enc:=eTapi_Node) (l:=p1.Nodes) (fl:=false) kr gE ?_
  refine sz 1 5 (reg_end rfl ?_)
  refine wbz h (fun q3 h=>?_) (fun q3 h=>?_)
  ·refine wp_skip (wp_seq (wp_block (wp_seq (wg [2,3,5,6] [0,1,2] (rn (wp_seq (wp_seq (reg_in (sz 4 4 ?_)))))))))
   refine shrR (k:=.u8) (k':=.u64) (a:=p0.Which) (b:=zv (s1.1)) kr gE h (fun h=>?_)
   refine sz 2 7 (reg_end rfl ?_)
   refine wbz h (fun q5 h=>?_) (fun q5 h=>?_)
   ·refine wgc [2,3,5,6] [0,1,2] ⟨[(2,.ptr 0 0 0),(3,.ptr 1 0 0),(5,.ref 2 0 s1.2.length),(6,vI s1.1)],[oX true true 9 (.agg [.int .u8 p0.Which,.int .u8 p0.V.1,.int .u8 p0.V.2.1,.int .u8 p0.V.2.2.1,.int .u8 p0.V.2.2.2.1,.int .u8 p0.V.2.2.2.2.1,.int .u8 p0.V.2.2.2.2.2.1,.int .u8 p0.V.2.2.2.2.2.2.1,.int .u8 p0.V.2.2.2.2.2.2.2]),oX true false 2 (.agg [vI p1.Grain,eL false eTapi_Node p1.Nodes]),oR true 1 eI s1.2],39⟩ ?_
    refine rga hfol (sy 2 2 ?_)
    refine reqI (n:=s1.1) (m:=0) (S:=fun n6=>⟨[(2,.ptr 0 0 0),(3,.ptr 1 0 0),(5,.ref 2 0 s1.2.length),(6,vI n6),(22,vI n6),(23,.ptr 0 0 1)],[oX true true 9 (.agg [.int .u8 p0.Which,.int .u8 p0.V.1,.int .u8 p0.V.2.1,.int .u8 p0.V.2.2.1,.int .u8 p0.V.2.2.2.1,.int .u8 p0.V.2.2.2.2.1,.int .u8 p0.V.2.2.2.2.2.1,.int .u8 p0.V.2.2.2.2.2.2.1,.int .u8 p0.V.2.2.2.2.2.2.2]),oX true false 2 (.agg [vI p1.Grain,eL false eTapi_Node p1.Nodes]),oR true 1 eI s1.2],39⟩) h (fun _ h=>?_) (fun _ h=>?_)
    ·refine sy 6 8 ?_
     refine bind_elim h (fun a7 q8 h=>?_)
     refine idxL' (enc:=eTapi_Node) (l:=p1.Nodes) (n:=0) (fl:=false) (w:=3) (a:=a7) kr rfl gE q8 ?_
     refine sy 2 11 ?_
     refine remR (k:=.i64) (a:=zw (p0.V.1)) (b:=a7.Card) kr gE h (fun h=>?_)
     refine sy 1 13 (rgd (wg [2,3,5,6,7] [0,1,2] (reg_in (sz 2 2 ?_))))
     refine sgL false [] [] true gE ?_
     refine appR (enc:=eI) (l:=s1.2) (m:=([Int.tmod (zw (p0.V.1)) a7.Card]:(List Int))) (w:=1) (bytes:=8) (ob:=2) (nr:=true) (fl:=true) (nr':=true) (fl':=true) (b:=.ref 3 0 1) (rds:=[3]) false kr kr kr rfl gE kr h (fun h=>?_)
     refine sz 1 5 (reg_end rfl ?_)
     refine wgc [2,3,5,6] [0,1,4] ⟨[(2,.ptr 0 0 0),(3,.ptr 1 0 0),(5,.ref 2 0 ((s1.2++([Int.tmod (zw (p0.V.1)) a7.Card]:(List Int))).length)),(6,vI 0)],[oX true true 9 (.agg [.int .u8 p0.Which,.int .u8 p0.V.1,.int .u8 p0.V.2.1,.int .u8 p0.V.2.2.1,.int .u8 p0.V.2.2.2.1,.int .u8 p0.V.2.2.2.2.1,.int .u8 p0.V.2.2.2.2.2.1,.int .u8 p0.V.2.2.2.2.2.2.1,.int .u8 p0.V.2.2.2.2.2.2.2]),oX true false 2 (.agg [vI p1.Grain,eL false eTapi_Node p1.Nodes]),oR true 1 eI (s1.2++([Int.tmod (zw (p0.V.1)) a7.Card]:(List Int)))],39⟩ ?_
     refine rn ?_
     cases h
     exact ⟨_,rfl,(wk_gc (live:=[2,3,5,6]) (keep:=[0,1,2]) kr)⟩
    refine reqI (n:=s1.1) (m:=1) (S:=fun n9=>⟨[(2,.ptr 0 0 0),(3,.ptr 1 0 0),(5,.ref 2 0 s1.2.length),(6,vI n9),(22,vI n9),(23,.ptr 0 0 1)],[oX true true 9 (.agg [.int .u8 p0.Which,.int .u8 p0.V.1,.int .u8 p0.V.2.1,.int .u8 p0.V.2.2.1,.int .u8 p0.V.2.2.2.1,.int .u8 p0.V.2.2.2.2.1,.int .u8 p0.V.2.2.2.2.2.1,.int .u8 p0.V.2.2.2.2.2.2.1,.int .u8 p0.V.2.2.2.2.2.2.2]),oX true false 2 (.agg [vI p1.Grain,eL false eTapi_Node p1.Nodes]),oR true 1 eI s1.2],39⟩) h (fun _ h=>?_) (fun _ h=>?_)
    ·refine sy 6 8 ?_
     refine bind_elim h (fun a10 q11 h=>?_)
     refine idxL' (enc:=eTapi_Node) (l:=p1.Nodes) (n:=1) (fl:=false) (w:=3) (a:=a10) kr rfl gE q11 ?_
     refine sy 2 11 ?_
     refine remR (k:=.i64) (a:=zw (p0.V.2.1)) (b:=a10.Card) kr gE h (fun h=>?_)
     refine sy 1 13 (rgd (wg [2,3,5,6,7] [0,1,2] (reg_in (sz 2 2 ?_))))
     refine sgL false [] [] true gE ?_
     refine appR (enc:=eI) (l:=s1.2) (m:=([Int.tmod (zw (p0.V.2.1)) a10.Card]:(List Int))) (w:=1) (bytes:=8) (ob:=2) (nr:=true) (fl:=true) (nr':=true) (fl':=true) (b:=.ref 3 0 1) (rds:=[3]) false kr kr kr rfl gE kr h (fun h=>?_)
     refine sz 1 5 (reg_end rfl ?_)
     refine wgc [2,3,5,6] [0,1,4] ⟨[(2,.ptr 0 0 0),(3,.ptr 1 0 0),(5,.ref 2 0 ((s1.2++([Int.tmod (zw (p0.V.2.1)) a10.Card]:(List Int))).length)),(6,vI 1)],[oX true true 9 (.agg [.int .u8 p0.Which,.int .u8 p0.V.1,.int .u8 p0.V.2.1,.int .u8 p0.V.2.2.1,.int .u8 p0.V.2.2.2.1,.int .u8 p0.V.2.2.2.2.1,.int .u8 p0.V.2.2.2.2.2.1,.int .u8 p0.V.2.2.2.2.2.2.1,.int .u8 p0.V.2.2.2.2.2.2.2]),oX true false 2 (.agg [vI p1.Grain,eL false eTapi_Node p1.Nodes]),oR true 1 eI (s1.2++([Int.tmod (zw (p0.V.2.1)) a10.Card]:(List Int)))],39⟩ ?_
     refine rn ?_
     cases h
     exact ⟨_,rfl,(wk_gc (live:=[2,3,5,6]) (keep:=[0,1,2]) kr)⟩
    refine reqI (n:=s1.1) (m:=2) (S:=fun n12=>⟨[(2,.ptr 0 0 0),(3,.ptr 1 0 0),(5,.ref 2 0 s1.2.length),(6,vI n12),(22,vI n12),(23,.ptr 0 0 1)],[oX true true 9 (.agg [.int .u8 p0.Which,.int .u8 p0.V.1,.int .u8 p0.V.2.1,.int .u8 p0.V.2.2.1,.int .u8 p0.V.2.2.2.1,.int .u8 p0.V.2.2.2.2.1,.int .u8 p0.V.2.2.2.2.2.1,.int .u8 p0.V.2.2.2.2.2.2.1,.int .u8 p0.V.2.2.2.2.2.2.2]),oX true false 2 (.agg [vI p1.Grain,eL false eTapi_Node p1.Nodes]),oR true 1 eI s1.2],39⟩) h (fun _ h=>?_) (fun _ h=>?_)
    ·refine sy 6 8 ?_
     refine bind_elim h (fun a13 q14 h=>?_)
     refine idxL' (enc:=eTapi_Node) (l:=p1.Nodes) (n:=2) (fl:=false) (w:=3) (a:=a13) kr rfl gE q14 ?_
     refine sy 2 11 ?_
     refine remR (k:=.i64) (a:=zw (p0.V.2.2.1)) (b:=a13.Card) kr gE h (fun h=>?_)
     refine sy 1 13 (rgd (wg [2,3,5,6,7] [0,1,2] (reg_in (sz 2 2 ?_))))
     refine sgL false [] [] true gE ?_
     refine appR (enc:=eI) (l:=s1.2) (m:=([Int.tmod (zw (p0.V.2.2.1)) a13.Card]:(List Int))) (w:=1) (bytes:=8) (ob:=2) (nr:=true) (fl:=true) (nr':=true) (fl':=true) (b:=.ref 3 0 1) (rds:=[3]) false kr kr kr rfl gE kr h (fun h=>?_)
     refine sz 1 5 (reg_end rfl ?_)
     refine wgc [2,3,5,6] [0,1,4] ⟨[(2,.ptr 0 0 0),(3,.ptr 1 0 0),(5,.ref 2 0 ((s1.2++([Int.tmod (zw (p0.V.2.2.1)) a13.Card]:(List Int))).length)),(6,vI 2)],[oX true true 9 (.agg [.int .u8 p0.Which,.int .u8 p0.V.1,.int .u8 p0.V.2.1,.int .u8 p0.V.2.2.1,.int .u8 p0.V.2.2.2.1,.int .u8 p0.V.2.2.2.2.1,.int .u8 p0.V.2.2.2.2.2.1,.int .u8 p0.V.2.2.2.2.2.2.1,.int .u8 p0.V.2.2.2.2.2.2.2]),oX true false 2 (.agg [vI p1.Grain,eL false eTapi_Node p1.Nodes]),oR true 1 eI (s1.2++([Int.tmod (zw (p0.V.2.2.1)) a13.Card]:(List Int)))],39⟩ ?_
     refine rn ?_
     cases h
     exact ⟨_,rfl,(wk_gc (live:=[2,3,5,6]) (keep:=[0,1,2]) kr)⟩
    refine reqI (n:=s1.1) (m:=3) (S:=fun n15=>⟨[(2,.ptr 0 0 0),(3,.ptr 1 0 0),(5,.ref 2 0 s1.2.length),(6,vI n15),(22,vI n15),(23,.ptr 0 0 1)],[oX true true 9 (.agg [.int .u8 p0.Which,.int .u8 p0.V.1,.int .u8 p0.V.2.1,.int .u8 p0.V.2.2.1,.int .u8 p0.V.2.2.2.1,.int .u8 p0.V.2.2.2.2.1,.int .u8 p0.V.2.2.2.2.2.1,.int .u8 p0.V.2.2.2.2.2.2.1,.int .u8 p0.V.2.2.2.2.2.2.2]),oX true false 2 (.agg [vI p1.Grain,eL false eTapi_Node p1.Nodes]),oR true 1 eI s1.2],39⟩) h (fun _ h=>?_) (fun _ h=>?_)
    ·refine sy 6 8 ?_
     refine bind_elim h (fun a16 q17 h=>?_)
     refine idxL' (enc:=eTapi_Node) (l:=p1.Nodes) (n:=3) (fl:=false) (w:=3) (a:=a16) kr rfl gE q17 ?_
     refine sy 2 11 ?_
     refine remR (k:=.i64) (a:=zw (p0.V.2.2.2.1)) (b:=a16.Card) kr gE h (fun h=>?_)
     refine sy 1 13 (rgd (wg [2,3,5,6,7] [0,1,2] (reg_in (sz 2 2 ?_))))
     refine sgL false [] [] true gE ?_
     refine appR (enc:=eI) (l:=s1.2) (m:=([Int.tmod (zw (p0.V.2.2.2.1)) a16.Card]:(List Int))) (w:=1) (bytes:=8) (ob:=2) (nr:=true) (fl:=true) (nr':=true) (fl':=true) (b:=.ref 3 0 1) (rds:=[3]) false kr kr kr rfl gE kr h (fun h=>?_)
     refine sz 1 5 (reg_end rfl ?_)
     refine wgc [2,3,5,6] [0,1,4] ⟨[(2,.ptr 0 0 0),(3,.ptr 1 0 0),(5,.ref 2 0 ((s1.2++([Int.tmod (zw (p0.V.2.2.2.1)) a16.Card]:(List Int))).length)),(6,vI 3)],[oX true true 9 (.agg [.int .u8 p0.Which,.int .u8 p0.V.1,.int .u8 p0.V.2.1,.int .u8 p0.V.2.2.1,.int .u8 p0.V.2.2.2.1,.int .u8 p0.V.2.2.2.2.1,.int .u8 p0.V.2.2.2.2.2.1,.int .u8 p0.V.2.2.2.2.2.2.1,.int .u8 p0.V.2.2.2.2.2.2.2]),oX true false 2 (.agg [vI p1.Grain,eL false eTapi_Node p1.Nodes]),oR true 1 eI (s1.2++([Int.tmod (zw (p0.V.2.2.2.1)) a16.Card]:(List Int)))],39⟩ ?_
     refine rn ?_
     cases h
     exact ⟨_,rfl,(wk_gc (live:=[2,3,5,6]) (keep:=[0,1,2]) kr)⟩
    refine reqI (n:=s1.1) (m:=4) (S:=fun n18=>⟨[(2,.ptr 0 0 0),(3,.ptr 1 0 0),(5,.ref 2 0 s1.2.length),(6,vI n18),(22,vI n18),(23,.ptr 0 0 1)],[oX true true 9 (.agg [.int .u8 p0.Which,.int .u8 p0.V.1,.int .u8 p0.V.2.1,.int .u8 p0.V.2.2.1,.int .u8 p0.V.2.2.2.1,.int .u8 p0.V.2.2.2.2.1,.int .u8 p0.V.2.2.2.2.2.1,.int .u8 p0.V.2.2.2.2.2.2.1,.int .u8 p0.V.2.2.2.2.2.2.2]),oX true false 2 (.agg [vI p1.Grain,eL false eTapi_Node p1.Nodes]),oR true 1 eI s1.2],39⟩) h (fun _ h=>?_) (fun _ h=>?_)
    ·refine sy 6 8 ?_
     refine bind_elim h (fun a19 q20 h=>?_)
     refine idxL' (enc:=eTapi_Node) (l:=p1.Nodes) (n:=4) (fl:=false) (w:=3) (a:=a19) kr rfl gE q20 ?_
     refine sy 2 11 ?_
     refine remR (k:=.i64) (a:=zw (p0.V.2.2.2.2.1)) (b:=a19.Card) kr gE h (fun h=>?_)
     refine sy 1 13 (rgd (wg [2,3,5,6,7] [0,1,2] (reg_in (sz 2 2 ?_))))
     refine sgL false [] [] true gE ?_
     refine appR (enc:=eI) (l:=s1.2) (m:=([Int.tmod (zw (p0.V.2.2.2.2.1)) a19.Card]:(List Int))) (w:=1) (bytes:=8) (ob:=2) (nr:=true) (fl:=true) (nr':=true) (fl':=true) (b:=.ref 3 0 1) (rds:=[3]) false kr kr kr rfl gE kr h (fun h=>?_)
     refine sz 1 5 (reg_end rfl ?_)
     refine wgc [2,3,5,6] [0,1,4] ⟨[(2,.ptr 0 0 0),(3,.ptr 1 0 0),(5,.ref 2 0 ((s1.2++([Int.tmod (zw (p0.V.2.2.2.2.1)) a19.Card]:(List Int))).length)),(6,vI 4)],[oX true true 9 (.agg [.int .u8 p0.Which,.int .u8 p0.V.1,.int .u8 p0.V.2.1,.int .u8 p0.V.2.2.1,.int .u8 p0.V.2.2.2.1,.int .u8 p0.V.2.2.2.2.1,.int .u8 p0.V.2.2.2.2.2.1,.int .u8 p0.V.2.2.2.2.2.2.1,.int .u8 p0.V.2.2.2.2.2.2.2]),oX true false 2 (.agg [vI p1.Grain,eL false eTapi_Node p1.Nodes]),oR true 1 eI (s1.2++([Int.tmod (zw (p0.V.2.2.2.2.1)) a19.Card]:(List Int)))],39⟩ ?_
     refine rn ?_
     cases h
     exact ⟨_,rfl,(wk_gc (live:=[2,3,5,6]) (keep:=[0,1,2]) kr)⟩
    refine reqI (n:=s1.1) (m:=5) (S:=fun n21=>⟨[(2,.ptr 0 0 0),(3,.ptr 1 0 0),(5,.ref 2 0 s1.2.length),(6,vI n21),(22,vI n21),(23,.ptr 0 0 1)],[oX true true 9 (.agg [.int .u8 p0.Which,.int .u8 p0.V.1,.int .u8 p0.V.2.1,.int .u8 p0.V.2.2.1,.int .u8 p0.V.2.2.2.1,.int .u8 p0.V.2.2.2.2.1,.int .u8 p0.V.2.2.2.2.2.1,.int .u8 p0.V.2.2.2.2.2.2.1,.int .u8 p0.V.2.2.2.2.2.2.2]),oX true false 2 (.agg [vI p1.Grain,eL false eTapi_Node p1.Nodes]),oR true 1 eI s1.2],39⟩) h (fun _ h=>?_) (fun _ h=>?_)
    ·refine sy 6 8 ?_
     refine bind_elim h (fun a22 q23 h=>?_)
     refine idxL' (enc:=eTapi_Node) (l:=p1.Nodes) (n:=5) (fl:=false) (w:=3) (a:=a22) kr rfl gE q23 ?_
     refine sy 2 11 ?_
     refine remR (k:=.i64) (a:=zw (p0.V.2.2.2.2.2.1)) (b:=a22.Card) kr gE h (fun h=>?_)
     refine sy 1 13 (rgd (wg [2,3,5,6,7] [0,1,2] (reg_in (sz 2 2 ?_))))
     refine sgL false [] [] true gE ?_
     refine appR (enc:=eI) (l:=s1.2) (m:=([Int.tmod (zw (p0.V.2.2.2.2.2.1)) a22.Card]:(List Int))) (w:=1) (bytes:=8) (ob:=2) (nr:=true) (fl:=true) (nr':=true) (fl':=true) (b:=.ref 3 0 1) (rds:=[3]) false kr kr kr rfl gE kr h (fun h=>?_)
     refine sz 1 5 (reg_end rfl ?_)
     refine wgc [2,3,5,6] [0,1,4] ⟨[(2,.ptr 0 0 0),(3,.ptr 1 0 0),(5,.ref 2 0 ((s1.2++([Int.tmod (zw (p0.V.2.2.2.2.2.1)) a22.Card]:(List Int))).length)),(6,vI 5)],[oX true true 9 (.agg [.int .u8 p0.Which,.int .u8 p0.V.1,.int .u8 p0.V.2.1,.int .u8 p0.V.2.2.1,.int .u8 p0.V.2.2.2.1,.int .u8 p0.V.2.2.2.2.1,.int .u8 p0.V.2.2.2.2.2.1,.int .u8 p0.V.2.2.2.2.2.2.1,.int .u8 p0.V.2.2.2.2.2.2.2]),oX true false 2 (.agg [vI p1.Grain,eL false eTapi_Node p1.Nodes]),oR true 1 eI (s1.2++([Int.tmod (zw (p0.V.2.2.2.2.2.1)) a22.Card]:(List Int)))],39⟩ ?_
     refine rn ?_
     cases h
     exact ⟨_,rfl,(wk_gc (live:=[2,3,5,6]) (keep:=[0,1,2]) kr)⟩
    refine reqI (n:=s1.1) (m:=6) (S:=fun n24=>⟨[(2,.ptr 0 0 0),(3,.ptr 1 0 0),(5,.ref 2 0 s1.2.length),(6,vI n24),(22,vI n24),(23,.ptr 0 0 1)],[oX true true 9 (.agg [.int .u8 p0.Which,.int .u8 p0.V.1,.int .u8 p0.V.2.1,.int .u8 p0.V.2.2.1,.int .u8 p0.V.2.2.2.1,.int .u8 p0.V.2.2.2.2.1,.int .u8 p0.V.2.2.2.2.2.1,.int .u8 p0.V.2.2.2.2.2.2.1,.int .u8 p0.V.2.2.2.2.2.2.2]),oX true false 2 (.agg [vI p1.Grain,eL false eTapi_Node p1.Nodes]),oR true 1 eI s1.2],39⟩) h (fun _ h=>?_) (fun _ h=>?_)
    ·refine sy 6 8 ?_
     refine bind_elim h (fun a25 q26 h=>?_)
     refine idxL' (enc:=eTapi_Node) (l:=p1.Nodes) (n:=6) (fl:=false) (w:=3) (a:=a25) kr rfl gE q26 ?_
     refine sy 2 11 ?_
     refine remR (k:=.i64) (a:=zw (p0.V.2.2.2.2.2.2.1)) (b:=a25.Card) kr gE h (fun h=>?_)
     refine sy 1 13 (rgd (wg [2,3,5,6,7] [0,1,2] (reg_in (sz 2 2 ?_))))
     refine sgL false [] [] true gE ?_
     refine appR (enc:=eI) (l:=s1.2) (m:=([Int.tmod (zw (p0.V.2.2.2.2.2.2.1)) a25.Card]:(List Int))) (w:=1) (bytes:=8) (ob:=2) (nr:=true) (fl:=true) (nr':=true) (fl':=true) (b:=.ref 3 0 1) (rds:=[3]) false kr kr kr rfl gE kr h (fun h=>?_)
     refine sz 1 5 (reg_end rfl ?_)
     refine wgc [2,3,5,6] [0,1,4] ⟨[(2,.ptr 0 0 0),(3,.ptr 1 0 0),(5,.ref 2 0 ((s1.2++([Int.tmod (zw (p0.V.2.2.2.2.2.2.1)) a25.Card]:(List Int))).length)),(6,vI 6)],[oX true true 9 (.agg [.int .u8 p0.Which,.int .u8 p0.V.1,.int .u8 p0.V.2.1,.int .u8 p0.V.2.2.1,.int .u8 p0.V.2.2.2.1,.int .u8 p0.V.2.2.2.2.1,.int .u8 p0.V.2.2.2.2.2.1,.int .u8 p0.V.2.2.2.2.2.2.1,.int .u8 p0.V.2.2.2.2.2.2.2]),oX true false 2 (.agg [vI p1.Grain,eL false eTapi_Node p1.Nodes]),oR true 1 eI (s1.2++([Int.tmod (zw (p0.V.2.2.2.2.2.2.1)) a25.Card]:(List Int)))],39⟩ ?_
     refine rn ?_
     cases h
     exact ⟨_,rfl,(wk_gc (live:=[2,3,5,6]) (keep:=[0,1,2]) kr)⟩
    refine reqI (n:=s1.1) (m:=7) (S:=fun n27=>⟨[(2,.ptr 0 0 0),(3,.ptr 1 0 0),(5,.ref 2 0 s1.2.length),(6,vI n27),(22,vI n27),(23,.ptr 0 0 1)],[oX true true 9 (.agg [.int .u8 p0.Which,.int .u8 p0.V.1,.int .u8 p0.V.2.1,.int .u8 p0.V.2.2.1,.int .u8 p0.V.2.2.2.1,.int .u8 p0.V.2.2.2.2.1,.int .u8 p0.V.2.2.2.2.2.1,.int .u8 p0.V.2.2.2.2.2.2.1,.int .u8 p0.V.2.2.2.2.2.2.2]),oX true false 2 (.agg [vI p1.Grain,eL false eTapi_Node p1.Nodes]),oR true 1 eI s1.2],39⟩) h (fun _ h=>?_) (fun _ h=>?_)
    ·refine sy 6 8 ?_
     refine bind_elim h (fun a28 q29 h=>?_)
     refine idxL' (enc:=eTapi_Node) (l:=p1.Nodes) (n:=7) (fl:=false) (w:=3) (a:=a28) kr rfl gE q29 ?_
     refine sy 2 11 ?_
     refine remR (k:=.i64) (a:=zw (p0.V.2.2.2.2.2.2.2)) (b:=a28.Card) kr gE h (fun h=>?_)
     refine sy 1 13 (rgd (wg [2,3,5,6,7] [0,1,2] (reg_in (sz 2 2 ?_))))
     refine sgL false [] [] true gE ?_
     refine appR (enc:=eI) (l:=s1.2) (m:=([Int.tmod (zw (p0.V.2.2.2.2.2.2.2)) a28.Card]:(List Int))) (w:=1) (bytes:=8) (ob:=2) (nr:=true) (fl:=true) (nr':=true) (fl':=true) (b:=.ref 3 0 1) (rds:=[3]) false kr kr kr rfl gE kr h (fun h=>?_)
     refine sz 1 5 (reg_end rfl ?_)
     refine wgc [2,3,5,6] [0,1,4] ⟨[(2,.ptr 0 0 0),(3,.ptr 1 0 0),(5,.ref 2 0 ((s1.2++([Int.tmod (zw (p0.V.2.2.2.2.2.2.2)) a28.Card]:(List Int))).length)),(6,vI 7)],[oX true true 9 (.agg [.int .u8 p0.Which,.int .u8 p0.V.1,.int .u8 p0.V.2.1,.int .u8 p0.V.2.2.1,.int .u8 p0.V.2.2.2.1,.int .u8 p0.V.2.2.2.2.1,.int .u8 p0.V.2.2.2.2.2.1,.int .u8 p0.V.2.2.2.2.2.2.1,.int .u8 p0.V.2.2.2.2.2.2.2]),oX true false 2 (.agg [vI p1.Grain,eL false eTapi_Node p1.Nodes]),oR true 1 eI (s1.2++([Int.tmod (zw (p0.V.2.2.2.2.2.2.2)) a28.Card]:(List Int)))],39⟩ ?_
     refine rn ?_
     cases h
     exact ⟨_,rfl,(wk_gc (live:=[2,3,5,6]) (keep:=[0,1,2]) kr)⟩
    cases h
   refine wp_skip ?_
   refine wgc [2,3,5,6,7] [0,1,2] ⟨[(2,.ptr 0 0 0),(3,.ptr 1 0 0),(5,.ref 2 0 s1.2.length),(6,vI s1.1),(7,vI (-1))],[oX true true 9 (.agg [.int .u8 p0.Which,.int .u8 p0.V.1,.int .u8 p0.V.2.1,.int .u8 p0.V.2.2.1,.int .u8 p0.V.2.2.2.1,.int .u8 p0.V.2.2.2.2.1,.int .u8 p0.V.2.2.2.2.2.1,.int .u8 p0.V.2.2.2.2.2.2.1,.int .u8 p0.V.2.2.2.2.2.2.2]),oX true false 2 (.agg [vI p1.Grain,eL false eTapi_Node p1.Nodes]),oR true 1 eI s1.2],39⟩ ?_
   refine reg_in (sz 2 2 ?_)
   refine sgL false [] [] true gE ?_
   refine appR (enc:=eI) (l:=s1.2) (m:=([-1]:(List Int))) (w:=1) (bytes:=8) (ob:=2) (nr:=true) (fl:=true) (nr':=true) (fl':=true) (b:=.ref 3 0 1) (rds:=[3]) false kr kr kr rfl gE kr h (fun h=>?_)
   refine sz 1 5 (reg_end rfl (wg [2,3,5,6] [0,1,4] (rn ?_)))
   cases h
   exact ⟨_,rfl,(wk_gc (live:=[2,3,5,6]) (keep:=[0,1,2]) kr)⟩
  refine wg [5] [2] ?_
  refine wp_exit ?_
  cases h
  exact ⟨kr,rfl⟩
 intro x31 h out hx
 subst hx
 refine sq (wg [4] [0] ?_)
 cases h
 exact wp_ret (show fnOut _ _ _ _=_ from by kernel_rfl)
theorem g_ref24_Draft_Of_ok (p0:Tharuspexref24_Draft) (p1:Tapi_Net) (x:(Int × Int × Tapi_Shift)) (h:g_ref24_Draft_Of p0 p1=some x):CallOk Try.prog 27 [.agg [.int .u8 p0.V,.int .u8 p0.Value,.int .u8 p0.Node,.int .u8 p0.Row,.int .u8 p0.From,.int .u8 p0.To],.agg [vI p1.Grain,eL false eTapi_Node p1.Nodes]] (.ret (.tup [vI x.1,vI x.2.1,.agg [vI x.2.2.Node,vI x.2.2.Row,vI x.2.2.From,vI x.2.2.To]]) []):=by
 refine fn_ok [] Try.func27 rfl (by decide +kernel) rfl ?_
 unfold g_ref24_Draft_Of at h
 refine wp_eqB (base':=0) (st':=⟨[(0,.agg [.int .u8 p0.V,.int .u8 p0.Value,.int .u8 p0.Node,.int .u8 p0.Row,.int .u8 p0.From,.int .u8 p0.To]),(1,.agg [vI p1.Grain,eL false eTapi_Node p1.Nodes])],[],74⟩) kr kr ?_
 refine wp_seq (reg_in (sz 1 1 ?_))
 refine sgL false [] [] false gE ?_
 refine sz 3 5 (reg_end rfl (wp_seq (reg_in (sz 5 5 ?_))))
 refine lenL (enc:=eTapi_Node) (l:=p1.Nodes) (fl:=false) kr gE ?_
 refine remR (k:=.i64) (a:=zw (p0.V)) (b:=(zn p1.Nodes)) kr gE h (fun h=>?_)
 refine sz 1 8 (reg_end rfl (wp_seq ?_))
 refine wgc [2,3,6,7] [0,1,2] ⟨[(2,.ptr 0 0 0),(3,.ptr 1 0 0),(6,.ptr 2 0 0),(7,vI (Int.tmod (zw (p0.V)) (zn p1.Nodes)))],[oX true true 6 (.agg [.int .u8 p0.V,.int .u8 p0.Value,.int .u8 p0.Node,.int .u8 p0.Row,.int .u8 p0.From,.int .u8 p0.To]),oX true false 2 (.agg [vI p1.Grain,eL false eTapi_Node p1.Nodes]),oX true true 4 (.agg [vI 0,vI 0,vI 0,vI 0])],74⟩ ?_
 refine reg_in (sz 5 5 ?_)
 refine lenL (enc:=eTapi_Node) (l:=p1.Nodes) (fl:=false) kr gE ?_
 refine remR (k:=.i64) (a:=zw (p0.Node)) (b:=(zn p1.Nodes)) kr gE h (fun h=>?_)
 refine sz 3 10 (reg_end rfl (wp_seq (wg [2,3,6,7,8] [0,1,2,3] (reg_in (sz 4 4 ?_)))))
 refine bind_elim h (fun a1 q2 h=>?_)
 refine idxL' (enc:=eTapi_Node) (l:=p1.Nodes) (n:=Int.tmod (zw (p0.Node)) (zn p1.Nodes)) (fl:=false) (w:=3) (a:=a1) kr rfl gE q2 ?_
 refine sz 1 6 ?_
 refine sgL false [] [] false gE ?_
 refine sz 1 8 (reg_end rfl (wp_seq ?_))
 refine wgc [2,3,6,7,8,9] [0,1,2,3,4] ⟨[(2,.ptr 0 0 0),(3,.ptr 1 0 0),(6,.ptr 2 0 0),(7,vI (Int.tmod (zw (p0.V)) (zn p1.Nodes))),(8,.ptr 3 0 0),(9,.ptr 4 0 0)],[oX true true 6 (.agg [.int .u8 p0.V,.int .u8 p0.Value,.int .u8 p0.Node,.int .u8 p0.Row,.int .u8 p0.From,.int .u8 p0.To]),oX true false 2 (.agg [vI p1.Grain,eL false eTapi_Node p1.Nodes]),oX true true 4 (.agg [vI 0,vI 0,vI 0,vI 0]),oX true true 4 (.agg [vI (Int.tmod (zw (p0.Node)) (zn p1.Nodes)),vI 0,vI 0,vI 0]),oX true false 3 (.agg [vI a1.Card,z1 a1.Parents,z2 a1.Rows])],74⟩ ?_
 refine rga hfol (sy 5 5 ?_)
 refine lenL (enc:=z1) (l:=a1.Rows) (fl:=false) kr gE ?_
 refine remR (k:=.i64) (a:=zw (p0.Row)) (b:=(zn a1.Rows)) kr gE h (fun h=>?_)
 refine sy 5 12 ?_
 refine remR (k:=.i64) (a:=zw (p0.From)) (b:=a1.Card) kr gE h (fun h=>?_)
 refine sy 4 17 (rgd (wp_seq ?_))
 refine wgc [2,3,6,7,8,9] [0,1,2,3,4] ⟨[(2,.ptr 0 0 0),(3,.ptr 1 0 0),(6,.ptr 2 0 0),(7,vI (Int.tmod (zw (p0.V)) (zn p1.Nodes))),(8,.ptr 3 0 0),(9,.ptr 4 0 0)],[oX true true 6 (.agg [.int .u8 p0.V,.int .u8 p0.Value,.int .u8 p0.Node,.int .u8 p0.Row,.int .u8 p0.From,.int .u8 p0.To]),oX true false 2 (.agg [vI p1.Grain,eL false eTapi_Node p1.Nodes]),oX true true 4 (.agg [vI 0,vI 0,vI 0,vI 0]),oX true true 4 (.agg [vI (Int.tmod (zw (p0.Node)) (zn p1.Nodes)),vI (Int.tmod (zw (p0.Row)) (zn a1.Rows)),vI (Int.tmod (zw (p0.From)) a1.Card),vI 0]),oX true false 3 (.agg [vI a1.Card,z1 a1.Parents,z2 a1.Rows])],74⟩ ?_
 refine rga hfol (sy 10 10 ?_)
 refine remR (k:=.i64) (a:=zw (p0.To)) (b:=(if (zw (a1.Card - 1)) > 1 then (zw (a1.Card - 1)) else 1)) kr gE h (fun h=>?_)
 refine sy 3 14 ?_
 refine remR (k:=.i64) (a:=zw ((zw ((Int.tmod (zw (p0.From)) a1.Card)+1))+(Int.tmod (zw (p0.To)) (if (zw (a1.Card - 1)) > 1 then (zw (a1.Card - 1)) else 1)))) (b:=a1.Card) kr gE h (fun h=>?_)
 refine sy 2 17 (rgd (wp_seq ?_))
 refine wgc [2,3,6,7,8] [0,1,2,3] ⟨[(2,.ptr 0 0 0),(3,.ptr 1 0 0),(6,.ptr 2 0 0),(7,vI (Int.tmod (zw (p0.V)) (zn p1.Nodes))),(8,.ptr 3 0 0)],[oX true true 6 (.agg [.int .u8 p0.V,.int .u8 p0.Value,.int .u8 p0.Node,.int .u8 p0.Row,.int .u8 p0.From,.int .u8 p0.To]),oX true false 2 (.agg [vI p1.Grain,eL false eTapi_Node p1.Nodes]),oX true true 4 (.agg [vI 0,vI 0,vI 0,vI 0]),oX true true 4 (.agg [vI (Int.tmod (zw (p0.Node)) (zn p1.Nodes)),vI (Int.tmod (zw (p0.Row)) (zn a1.Rows)),vI (Int.tmod (zw (p0.From)) a1.Card),vI (Int.tmod (zw ((zw ((Int.tmod (zw (p0.From)) a1.Card)+1))+(Int.tmod (zw (p0.To)) (if (zw (a1.Card - 1)) > 1 then (zw (a1.Card - 1)) else 1)))) a1.Card)])],74⟩ ?_
 refine rga hfol (sy 7 7 ?_)
 refine bind_elim h (fun a3 q4 h=>?_)
 refine idxL' (enc:=eTapi_Node) (l:=p1.Nodes) (n:=Int.tmod (zw (p0.V)) (zn p1.Nodes)) (fl:=false) (w:=3) (a:=a3) kr rfl gE q4 ?_
 refine sy 2 10 ?_
 refine remR (k:=.i64) (a:=zw (p0.Value)) (b:=a3.Card) kr gE h (fun h=>?_)
 refine sy 4 15 (rgd (wg [4,5,6] [2] ?_))
 cases h
 exact wp_ret (show fnOut _ _ _ _=_ from by kernel_rfl)
theorem g_ref05_Worlds_ok (p0:Tapi_Net) (x:Int) (h:g_ref05_Worlds p0=some x):CallOk Try.prog 40 [.agg [vI p0.Grain,eL false eTapi_Node p0.Nodes]] (.ret (vI x) []):=by
 refine fn_ok [] Try.func40 rfl (by decide +kernel) rfl ?_
 unfold g_ref05_Worlds at h
 refine wp_eqB (base':=0) (st':=⟨[(0,.agg [vI p0.Grain,eL false eTapi_Node p0.Nodes])],[],6⟩) kr kr ?_
 refine wp_seq (reg_in ?_)
 refine sgL false [] [] false gE ?_
 refine sz 1 2 (reg_end rfl (wp_seq (reg_in (sz 1 1 ?_))))
 refine callW bodyB_78 (g_ref05_Cards_ok p0) h (fun x1 _ h=>?_)
 refine callR (as0:=[.ref 1 0 x1.length]) (ids:=[1]) kr bodyB_62 (msnap_cons (snap_full (w:=1) (bx:=false) (ro:=false) kr) msnap_nil (by rfl)) (fun x3 q4=>g_ref02_Size_ok x1 x3 q4) gF h (fun x3 q4 h=>?_)
 refine sz 1 4 (reg_end rfl (wg [2] [] ?_))
 cases h
 exact wp_ret (show fnOut _ _ _ _=_ from by kernel_rfl)
theorem g_ref02_Values_ok (p0:(List Int)) (p1:Int) (x:(List Int)) (h:g_ref02_Values p0 p1=some x):CallOk Try.prog 79 [z1 p0,vI p1] (.ret (.ref 0 0 x.length) [oR true 1 eI x]):=by
 refine fn_ok [] Try.func79 rfl (by decide +kernel) rfl ?_
 unfold g_ref02_Values at h
 refine wp_eqB (base':=0) (st':=⟨[(0,z1 p0),(1,vI p1)],[],33⟩) kr kr ?_
 refine sq (wp_seq (reg_in (sz 1 1 ?_)))
 refine lenL (enc:=eI) (l:=p0) (fl:=true) kr gE ?_
 refine mkL (enc:=eI) (z:=(0:Int)) (z0:=vI 0) (n:=(zn p0)) (m:=(zn p0)) (w:=1) (bytes:=8) [] true kr rfl gE kr h (fun h=>?_)
 refine sz 1 4 (reg_end rfl (wp_seq (wp_seq (reg_in (sz 1 1 ?_)))))
 refine lenL (enc:=eI) (l:=p0) (fl:=true) kr gE ?_
 refine sz 2 4 (reg_end rfl (wp_block ?_))
 refine wwh h (fun s1=>⟨[(0,z1 p0),(1,vI s1.1),(5,.ref 0 0 s1.2.2.length),(6,vI s1.2.1)],[oR true 1 eI s1.2.2],33⟩) (fun v out=>out=.go (.exit 0) ⟨[(5,.ref 0 0 v.length)],[oR true 1 eI v],33⟩) (wk_gc (live:=[0,1,5,6]) (keep:=[0]) kr) ?_ ?_
 ·intro s1 o h
  unfold g_ref02_Values_b0 at h
  refine wp_seq (sq ?_)
  refine wb [14] h (fun q3 h=>?_) (fun q3 h=>?_)
  ·refine wcT (wp_skip (wp_seq (wp_block (wp_seq (reg_in (sz 5 5 ?_))))))
   refine bind_elim h (fun a4 q5 h=>?_)
   refine idxL' (enc:=eI) (l:=p0) (n:=s1.2.1) (fl:=true) (w:=1) (a:=a4) kr rfl gE q5 ?_
   refine sz 1 7 ?_
   refine remR (k:=.i64) (a:=s1.1) (b:=a4) kr gE h (fun h=>?_)
   refine bind_elim h (fun a6 q7 h=>?_)
   refine idxR' (enc:=eI) (l:=s1.2.2) (n:=s1.2.1) (w:=1) (ob:=0) (ro:=false) (nr:=true) (fl:=true) (a:=a6) kr kr gE q7 ?_
   refine storeR (enc:=eI) (l:=s1.2.2) (n:=s1.2.1) (ob:=0) (w:=1) (bx:=false) (nr:=true) (fl:=true) (c:=0) (a:=a6) (a':=Int.tmod s1.1 a4) (v:=vI (Int.tmod s1.1 a4)) false kr kr q7 kr rfl kr gE kr ?_
   refine rl [5,17] (n:=s1.2.2.length) (m:=(List.set s1.2.2 (zt s1.2.1) (Int.tmod s1.1 a4)).length) (by simp only [List.length_set]) ?_
   refine reg_end rfl ?_
   refine wgc [0,1,5,6] [0] ⟨[(0,z1 p0),(1,vI s1.1),(5,.ref 0 0 ((List.set s1.2.2 (zt s1.2.1) (Int.tmod s1.1 a4)).length)),(6,vI s1.2.1)],[oR true 1 eI (List.set s1.2.2 (zt s1.2.1) (Int.tmod s1.1 a4))],33⟩ ?_
   refine reg_in (sz 3 3 ?_)
   refine idxL' (enc:=eI) (l:=p0) (n:=s1.2.1) (fl:=true) (w:=1) (a:=a4) kr rfl gE q5 ?_
   refine sz 1 5 ?_
   refine quoR (k:=.i64) (a:=s1.1) (b:=a4) kr gE h (fun h=>?_)
   refine sz 1 7 (reg_end rfl (wg [0,1,5,6] [0] (rn ?_)))
   cases h
   exact ⟨_,rfl,(wk_gc (live:=[0,1,5,6]) (keep:=[0]) kr)⟩
  refine wcF (wg [5] [0] ?_)
  refine wp_exit ?_
  cases h
  exact ⟨kr,rfl⟩
 intro x10 h out hx
 subst hx
 refine sq (wg [4] [0] ?_)
 cases h
 exact wp_ret (show fnOut _ _ _ _=_ from by kernel_rfl)
theorem g_ref05_Values_ok (p0:Tapi_Net) (p1:Int) (x:(List Int)) (h:g_ref05_Values p0 p1=some x):CallOk Try.prog 41 [.agg [vI p0.Grain,eL false eTapi_Node p0.Nodes],vI p1] (.ret (.ref 0 0 x.length) [oR true 1 eI x]):=by
 refine fn_ok [] Try.func41 rfl (by decide +kernel) rfl ?_
 unfold g_ref05_Values at h
 refine wp_eqB (base':=0) (st':=⟨[(0,.agg [vI p0.Grain,eL false eTapi_Node p0.Nodes]),(1,vI p1)],[],9⟩) kr kr ?_
 refine wp_seq (reg_in ?_)
 refine sgL false [] [] false gE ?_
 refine sz 1 2 (reg_end rfl (wp_seq (reg_in (sz 1 1 ?_))))
 refine callW bodyB_78 (g_ref05_Cards_ok p0) h (fun x1 _ h=>?_)
 refine sz 1 3 ?_
 refine callR (as0:=[.ref 1 0 x1.length,vI p1]) (ids:=[1]) kr bodyB_79 (msnap_cons (snap_full (w:=1) (bx:=false) (ro:=false) kr) (msnap_cons rfl msnap_nil (by rfl)) (by rfl)) (fun x3 q4=>g_ref02_Values_ok x1 p1 x3 q4) gF h (fun x3 q4 h=>?_)
 refine sz 1 5 (reg_end rfl (wg [4] [2] ?_))
 cases h
 exact wp_ret (show fnOut _ _ _ _=_ from by kernel_rfl)
theorem g_ref05_Matches_ok (p0:(List Int)) (p1:(List Int)) (x:Bool) (h:g_ref05_Matches p0 p1=some x):CallOk Try.prog 42 [z1 p0,z1 p1] (.ret (vB x) []):=by
 refine fn_ok [] Try.func42 rfl (by decide +kernel) rfl ?_
 unfold g_ref05_Matches at h
 refine wp_eqB (base':=0) (st':=⟨[(0,z1 p0),(1,z1 p1)],[],28⟩) kr kr ?_
 refine sq (wp_seq (sq (wp_block ?_)))
 refine wwh h (fun s1=>⟨[(0,z1 p0),(1,z1 p1),(5,vI s1)],[],28⟩) (fun x out=>out=match x with | .inl v=>.go (.ret) ⟨[(4,vB false)],[],28⟩ | .inr v=>.go (.exit 0) ⟨[],[],28⟩) (wk_gc (live:=[0,1,5]) (keep:=[]) kr) ?_ ?_
 ·intro s1 o h
  unfold g_ref05_Matches_b0 at h
  refine wp_seq (wp_seq (reg_in (sz 2 2 ?_)))
  refine lenL (enc:=eI) (l:=p0) (fl:=true) kr gE ?_
  refine sz 1 4 (reg_end rfl ?_)
  refine wb [9] h (fun q3 h=>?_) (fun q3 h=>?_)
  ·refine wcT (wp_skip (wp_seq (wp_block (wp_seq (rga hfol (sy 2 2 ?_))))))
   refine bind_elim h (fun a4 q5 h=>?_)
   refine idxL' (enc:=eI) (l:=p1) (n:=s1) (fl:=true) (w:=1) (a:=a4) kr rfl gE q5 ?_
   refine sy 3 6 ?_
   refine rb [16,17] h (fun q7 h=>?_) (fun q7 h=>?_)
   ·refine sy 2 8 ?_
    refine idxL' (enc:=eI) (l:=p1) (n:=s1) (fl:=true) (w:=1) (a:=a4) kr rfl gE q5 ?_
    refine sy 3 12 ?_
    refine bind_elim h (fun a8 q9 h=>?_)
    refine idxL' (enc:=eI) (l:=p0) (n:=s1) (fl:=true) (w:=1) (a:=a8) kr rfl gE q9 ?_
    refine sy 3 16 (rgd ?_)
    refine wbz h (fun q11 h=>?_) (fun q11 h=>?_)
    ·refine wp_seq ?_
     refine wgc [] [] ⟨[],[],28⟩ ?_
     refine rn (wg [4] [] ?_)
     refine wp_ret ?_
     cases h
     exact ⟨kr,rfl⟩
    refine wp_skip ?_
    refine wgc [0,1,5] [] ⟨[(0,z1 p0),(1,z1 p1),(5,vI s1)],[],28⟩ ?_
    refine rn ?_
    cases h
    exact ⟨_,rfl,(wk_gc (live:=[0,1,5]) (keep:=[]) kr)⟩
   refine sy 10 16 (rgd (wcF (wp_skip ?_)))
   refine wgc [0,1,5] [] ⟨[(0,z1 p0),(1,z1 p1),(5,vI s1)],[],28⟩ ?_
   refine rn ?_
   cases h
   exact ⟨_,rfl,(wk_gc (live:=[0,1,5]) (keep:=[]) kr)⟩
  refine wcF (wg [] [] ?_)
  refine wp_exit ?_
  cases h
  exact ⟨kr,rfl⟩
 intro x12 h out hx
 subst hx
 rcases x12 with x13 | x14
 ·dsimp only at h ⊢
  cases h
  show fnOut _ _ _ _=_
  kernel_rfl
 ·dsimp only at h ⊢
  refine sq (wg [4] [] ?_)
  cases h
  exact wp_ret (show fnOut _ _ _ _=_ from by kernel_rfl)
theorem g_ref02_Index_ok (p0:(List Int)) (p1:(List Int)) (x:Int) (h:g_ref02_Index p0 p1=some x):CallOk Try.prog 44 [z1 p0,z1 p1] (.ret (vI x) []):=by
 refine fn_ok [] Try.func44 rfl (by decide +kernel) rfl ?_
 unfold g_ref02_Index at h
 refine wp_eqB (base':=0) (st':=⟨[(0,z1 p0),(1,z1 p1)],[],30⟩) kr kr ?_
 refine sq (sq (wp_seq (wp_seq (reg_in (sz 1 1 ?_)))))
 refine lenL (enc:=eI) (l:=p0) (fl:=true) kr gE ?_
 refine sz 2 4 (reg_end rfl (wp_block ?_))
 refine wwh h (fun s1=>⟨[(0,z1 p0),(1,z1 p1),(5,vI s1.1),(6,vI s1.2.1),(7,vI s1.2.2)],[],30⟩) (fun v out=>out=.go (.exit 0) ⟨[(5,vI v)],[],30⟩) (wk_gc (live:=[0,1,5,6,7]) (keep:=[]) kr) ?_ ?_
 ·intro s1 o h
  unfold g_ref02_Index_b0 at h
  refine wp_seq (sq ?_)
  refine wb [12] h (fun q3 h=>?_) (fun q3 h=>?_)
  ·refine wcT (wp_skip (wp_seq (wp_block (wp_seq (reg_in (sz 3 3 ?_))))))
   refine bind_elim h (fun a4 q5 h=>?_)
   refine idxL' (enc:=eI) (l:=p1) (n:=s1.2.2) (fl:=true) (w:=1) (a:=a4) kr rfl gE q5 ?_
   refine sz 5 9 (reg_end rfl ?_)
   refine wgc [0,1,5,6,7] [] ⟨[(0,z1 p0),(1,z1 p1),(5,vI (zw (s1.1+(zw (a4*s1.2.1))))),(6,vI s1.2.1),(7,vI s1.2.2)],[],30⟩ ?_
   refine reg_in (sz 3 3 ?_)
   refine bind_elim h (fun a6 q7 h=>?_)
   refine idxL' (enc:=eI) (l:=p0) (n:=s1.2.2) (fl:=true) (w:=1) (a:=a6) kr rfl gE q7 ?_
   refine sz 3 7 (reg_end rfl (wg [0,1,5,6,7] [] (rn ?_)))
   cases h
   exact ⟨_,rfl,(wk_gc (live:=[0,1,5,6,7]) (keep:=[]) kr)⟩
  refine wcF (wg [5] [] ?_)
  refine wp_exit ?_
  cases h
  exact ⟨kr,rfl⟩
 intro x9 h out hx
 subst hx
 refine sq (wg [4] [] ?_)
 cases h
 exact wp_ret (show fnOut _ _ _ _=_ from by kernel_rfl)
theorem g_ref05_Row_ok (p0:Tapi_Net) (p1:Int) (p2:(List Int)) (x:(List Int)) (h:g_ref05_Row p0 p1 p2=some x):CallOk Try.prog 47 [.agg [vI p0.Grain,eL false eTapi_Node p0.Nodes],vI p1,z1 p2] (.ret (z1 x) []):=by
 refine fn_ok [[.lst true]] Try.func47 rfl (by decide +kernel) rfl ?_
 unfold g_ref05_Row at h
 refine wp_eqB (base':=0) (st':=⟨[(0,.agg [vI p0.Grain,eL false eTapi_Node p0.Nodes]),(1,vI p1),(2,z1 p2)],[],27⟩) kr kr ?_
 refine wp_seq (reg_in ?_)
 refine sgL false [] [] false gE ?_
 refine sz 1 2 (reg_end rfl (wp_seq (rga hfol (sy 3 3 ?_))))
 refine bind_elim h (fun a1 q2 h=>?_)
 refine idxL' (enc:=eTapi_Node) (l:=p0.Nodes) (n:=p1) (fl:=false) (w:=3) (a:=a1) kr rfl gE q2 ?_
 refine sy 4 8 ?_
 refine callW bodyB_45 (fun x3 q4=>CallOk.froz (g_ref05_ParentCards_ok p0 p1 x3 q4) (snap_full (w:=1) (bx:=false) (ro:=false) rfl)) h (fun x3 q4 h=>?_)
 refine sy 4 13 ?_
 refine idxL' (enc:=eTapi_Node) (l:=p0.Nodes) (n:=p1) (fl:=false) (w:=3) (a:=a1) kr rfl gE q2 ?_
 refine sy 2 16 ?_
 refine callW bodyB_46 (fun x5 q6=>CallOk.froz (g_ref02_At_ok p2 a1.Parents x5 q6) (snap_full (w:=1) (bx:=false) (ro:=false) rfl)) h (fun x5 q6 h=>?_)
 refine callW bodyB_44 (g_ref02_Index_ok x3 x5) h (fun x7 _ h=>?_)
 refine bind_elim h (fun a9 q10 h=>?_)
 refine idxL' (enc:=z1) (l:=a1.Rows) (n:=x7) (fl:=false) (w:=1) (a:=a9) kr rfl gE q10 ?_
 refine sy 2 21 (rgd ?_)
 refine wgc [6] [] ⟨[(6,z1 a9)],[],27⟩ ?_
 cases h
 exact wp_ret (show fnOut _ _ _ _=_ from by kernel_rfl)
theorem g_ref05_Weight_ok (p0:Tapi_Net) (p1:Int) (x:Int) (h:g_ref05_Weight p0 p1=some x):CallOk Try.prog 43 [.agg [vI p0.Grain,eL false eTapi_Node p0.Nodes],vI p1] (.ret (vI x) []):=by
 refine fn_ok [] Try.func43 rfl (by decide +kernel) rfl ?_
 unfold g_ref05_Weight at h
 refine wp_eqB (base':=0) (st':=⟨[(0,.agg [vI p0.Grain,eL false eTapi_Node p0.Nodes]),(1,vI p1)],[],31⟩) kr kr ?_
 refine wp_seq (reg_in ?_)
 refine sgL false [] [] false gE ?_
 refine sz 1 2 (reg_end rfl (wp_seq (reg_in (sz 2 2 ?_))))
 refine callW bodyB_41 (g_ref05_Values_ok p0 p1) h (fun x1 _ h=>?_)
 refine sz 1 4 (reg_end rfl (wp_seq (wg [2,5] [0,1] (rn (wp_seq ?_)))))
 refine sqN (S:=⟨[(2,.ptr 0 0 0),(5,.ref 1 0 x1.length),(6,vI 1),(7,vI 0)],[oX true false 2 (.agg [vI p0.Grain,eL false eTapi_Node p0.Nodes]),oR true 1 eI x1],31⟩) ?_
 refine wp_block ?_
 refine wwh h (fun s3=>⟨[(2,.ptr 0 0 0),(5,z1 x1),(6,vI s3.1),(7,vI s3.2)],[oX true false 2 (.agg [vI p0.Grain,eL false eTapi_Node p0.Nodes])],31⟩) (fun v out=>out=.go (.exit 0) ⟨[(6,vI v)],[],31⟩) (wk_trans (wk_gc (live:=[2,5,6,7]) (keep:=[0,1]) (st':=⟨[(2,.ptr 0 0 0),(5,.ref 1 0 x1.length),(6,vI 1),(7,vI 0)],[oX true false 2 (.agg [vI p0.Grain,eL false eTapi_Node p0.Nodes]),oR true 1 eI x1],31⟩) kr) (wk_trans (wk_snap (st':=⟨[(2,.ptr 0 0 0),(5,z1 x1),(6,vI 1),(7,vI 0)],[oX true false 2 (.agg [vI p0.Grain,eL false eTapi_Node p0.Nodes]),.row false true true true 1 (List.map eI x1)],31⟩) 5 (y:=z1 x1) (ids:=[1]) rfl (snap_full (w:=1) (bx:=false) (ro:=false) kr) kr) (wk_gc (live:=[2,5,6,7]) (keep:=[0]) kr))) ?_ ?_
 ·intro s3 o h
  unfold g_ref05_Weight_b0 at h
  refine wp_seq (wp_seq (reg_in (sz 3 3 ?_)))
  refine lenL (enc:=eTapi_Node) (l:=p0.Nodes) (fl:=false) kr gE ?_
  refine sz 1 5 (reg_end rfl ?_)
  refine wbz h (fun q5 h=>?_) (fun q5 h=>?_)
  ·refine wp_skip (wp_seq (wp_block (wg [2,5,6,7] [0] (rga hfol (sy 4 4 ?_)))))
   refine callW bodyB_47 (g_ref05_Row_ok p0 s3.2 x1) h (fun x6 _ h=>?_)
   refine sy 2 7 ?_
   refine bind_elim h (fun a8 q9 h=>?_)
   refine idxL' (enc:=eI) (l:=x1) (n:=s3.2) (fl:=true) (w:=1) (a:=a8) kr rfl gE q9 ?_
   refine sy 1 9 ?_
   refine bind_elim h (fun a10 q11 h=>?_)
   refine idxL' (enc:=eI) (l:=x6) (n:=a8) (fl:=true) (w:=1) (a:=a10) kr rfl gE q11 ?_
   refine sy 3 13 (rgd ?_)
   refine wgc [2,5,6,7] [0] ⟨[(2,.ptr 0 0 0),(5,z1 x1),(6,vI (zw (s3.1*a10))),(7,vI s3.2)],[oX true false 2 (.agg [vI p0.Grain,eL false eTapi_Node p0.Nodes])],31⟩ ?_
   refine rn ?_
   cases h
   exact ⟨_,rfl,(wk_gc (live:=[2,5,6,7]) (keep:=[0]) kr)⟩
  refine wg [6] [] ?_
  refine wp_exit ?_
  cases h
  exact ⟨kr,rfl⟩
 intro x13 h out hx
 subst hx
 refine sq (wg [4] [] ?_)
 cases h
 exact wp_ret (show fnOut _ _ _ _=_ from by kernel_rfl)
noncomputable abbrev s28_1 (p0:Tapi_Net):List AObj:=[oX true false 2 (.agg [vI p0.Grain,eL false eTapi_Node p0.Nodes])]
theorem g_ref05_Mass_ok (p0:Tapi_Net) (p1:(List Int)) (x:Int) (h:g_ref05_Mass p0 p1=some x):CallOk Try.prog 28 [.agg [vI p0.Grain,eL false eTapi_Node p0.Nodes],z1 p1] (.ret (vI x) []):=by
 refine fn_ok [] Try.func28 rfl (by decide +kernel) rfl ?_
 unfold g_ref05_Mass at h
 refine wp_eqB (base':=0) (st':=⟨[(0,.agg [vI p0.Grain,eL false eTapi_Node p0.Nodes]),(1,z1 p1)],[],24⟩) kr kr ?_
 refine wp_seq (reg_in ?_)
 refine sgL false [] [] false gE ?_
 refine sz 1 2 (reg_end rfl (sq (wp_seq (sq (wp_block ?_)))))
 refine wwh h (fun s1=>⟨[(1,z1 p1),(2,.ptr 0 0 0),(5,vI s1.1),(6,vI s1.2)],(s28_1 p0),24⟩) (fun v out=>out=.go (.exit 0) ⟨[(5,vI v)],[],24⟩) (wk_gc (live:=[1,2,5,6]) (keep:=[0]) kr) ?_ ?_
 ·intro s1 o h
  unfold g_ref05_Mass_b0 at h
  refine wp_seq (wp_seq (reg_in (sz 2 2 ?_)))
  refine callW bodyB_40 (g_ref05_Worlds_ok p0) h (fun x2 _ h=>?_)
  refine sz 1 4 (reg_end rfl ?_)
  refine wb [10] h (fun q5 h=>?_) (fun q5 h=>?_)
  ·refine wcT (wp_skip (wp_seq (wp_block (wp_seq (reg_in (sz 2 2 ?_))))))
   refine callW bodyB_41 (g_ref05_Values_ok p0 s1.2) h (fun x6 _ h=>?_)
   refine sz 1 4 ?_
   refine callR (as0:=[.ref 1 0 x6.length,z1 p1]) (ids:=[1]) kr bodyB_42 (msnap_cons (snap_full (w:=1) (bx:=false) (ro:=false) kr) (msnap_cons rfl msnap_nil (by rfl)) (by rfl)) (fun x8 q9=>g_ref05_Matches_ok x6 p1 x8 q9) gF h (fun x8 q9 h=>?_)
   refine reg_end rfl ?_
   refine wbz h (fun q11 h=>?_) (fun q11 h=>?_)
   ·refine wgc [1,2,5,6] [0] ⟨[(1,z1 p1),(2,.ptr 0 0 0),(5,vI s1.1),(6,vI s1.2)],(s28_1 p0),24⟩ ?_
    refine reg_in (sz 3 3 ?_)
    refine callW bodyB_43 (g_ref05_Weight_ok p0 s1.2) h (fun x12 _ h=>?_)
    refine sz 2 6 (reg_end rfl (wg [1,2,5,6] [0] (rn ?_)))
    cases h
    exact ⟨_,rfl,(wk_gc (live:=[1,2,5,6]) (keep:=[0]) kr)⟩
   refine wp_skip ?_
   refine wgc [1,2,5,6] [0] ⟨[(1,z1 p1),(2,.ptr 0 0 0),(5,vI s1.1),(6,vI s1.2)],(s28_1 p0),24⟩ ?_
   refine rn ?_
   cases h
   exact ⟨_,rfl,(wk_gc (live:=[1,2,5,6]) (keep:=[0]) kr)⟩
  refine wcF (wg [5] [] ?_)
  refine wp_exit ?_
  cases h
  exact ⟨kr,rfl⟩
 intro x15 h out hx
 subst hx
 refine sq (wg [4] [] ?_)
 cases h
 exact wp_ret (show fnOut _ _ _ _=_ from by kernel_rfl)
theorem g_ref01_digits_ok (p0:Int) (x:(List Int)) (h:g_ref01_digits p0=some x):CallOk Try.prog 66 [vI p0] (.ret (.ref 0 0 x.length) [oR true 1 eI x]):=by
 refine fn_ok [] Try.func66 rfl (by decide +kernel) rfl ?_
 unfold g_ref01_digits at h
 refine wp_eqB (base':=0) (st':=⟨[(0,vI p0)],[],19⟩) kr kr ?_
 refine sq (sq (wp_seq (wp_block ?_)))
 refine wwh h (fun s1=>⟨[(0,vI s1.1),(3,.ref 0 0 s1.2.length)],[oR true 1 eI s1.2],19⟩) (fun v out=>out=.go (.exit 0) ⟨[(3,.ref 0 0 v.length)],[oR true 1 eI v],19⟩) (wk_trans (wk_gc (live:=[0,3]) (keep:=[]) (st':=⟨[(0,vI p0),(3,.nils)],[],19⟩) kr) (wk_trans (wk_nil 3 1 true true (st':=⟨[(0,vI p0),(3,.ref 0 0 0)],[.row false false true true 1 []],19⟩) kr) (wk_gc (live:=[0,3]) (keep:=[0]) kr))) ?_ ?_
 ·intro s1 o h
  unfold g_ref01_digits_b0 at h
  refine wp_seq (sq ?_)
  refine wb [6] h (fun q3 h=>?_) (fun q3 h=>?_)
  ·refine wcT (wp_skip (wp_block (sq (wp_seq (reg_in (sz 5 5 ?_))))))
   refine sgL false [] [] true gE ?_
   refine appR (enc:=eI) (l:=s1.2) (m:=([(if (zw (0 - (Int.tmod s1.1 10000))) > (Int.tmod s1.1 10000) then (zw (0 - (Int.tmod s1.1 10000))) else (Int.tmod s1.1 10000))]:(List Int))) (w:=1) (bytes:=8) (ob:=0) (nr:=true) (fl:=true) (nr':=true) (fl':=true) (b:=.ref 1 0 1) (rds:=[1]) false kr kr kr rfl gE kr h (fun h=>?_)
   refine sz 1 8 (reg_end rfl ?_)
   refine wgc [0,3] [2] ⟨[(0,vI s1.1),(3,.ref 0 0 ((s1.2++([(if (zw (0 - (Int.tmod s1.1 10000))) > (Int.tmod s1.1 10000) then (zw (0 - (Int.tmod s1.1 10000))) else (Int.tmod s1.1 10000))]:(List Int))).length))],[oR true 1 eI (s1.2++([(if (zw (0 - (Int.tmod s1.1 10000))) > (Int.tmod s1.1 10000) then (zw (0 - (Int.tmod s1.1 10000))) else (Int.tmod s1.1 10000))]:(List Int)))],19⟩ ?_
   refine rn ?_
   cases h
   exact ⟨_,rfl,(wk_gc (live:=[0,3]) (keep:=[0]) kr)⟩
  refine wcF (wg [3] [0] ?_)
  refine wp_exit ?_
  cases h
  exact ⟨kr,rfl⟩
 intro x5 h out hx
 subst hx
 refine sq (wg [2] [0] ?_)
 cases h
 exact wp_ret (show fnOut _ _ _ _=_ from by kernel_rfl)
theorem g_ref01_compare_ok (p0:(List Int)) (p1:(List Int)) (x:Int) (h:g_ref01_compare p0 p1=some x):CallOk Try.prog 64 [z1 p0,z1 p1] (.ret (vI x) []):=by
 refine fn_ok [] Try.func64 rfl (by decide +kernel) rfl ?_
 unfold g_ref01_compare at h
 refine wp_eqB (base':=0) (st':=⟨[(0,z1 p0),(1,z1 p1)],[],41⟩) kr kr ?_
 refine sq (wp_seq (wp_seq (reg_in (sz 1 1 ?_))))
 refine lenL (enc:=eI) (l:=p0) (fl:=true) kr gE ?_
 refine sz 1 3 ?_
 refine lenL (enc:=eI) (l:=p1) (fl:=true) kr gE ?_
 refine sz 1 5 (reg_end rfl ?_)
 refine wbz h (fun q2 h=>?_) (fun q2 h=>?_)
 ·refine wp_seq (wp_seq (wg [0,1] [] (reg_in (sz 1 1 ?_))))
  refine lenL (enc:=eI) (l:=p0) (fl:=true) kr gE ?_
  refine sz 1 3 ?_
  refine lenL (enc:=eI) (l:=p1) (fl:=true) kr gE ?_
  refine sz 1 5 (reg_end rfl ?_)
  refine wbz h (fun q4 h=>?_) (fun q4 h=>?_)
  ·refine wp_seq ?_
   refine wgc [] [] ⟨[],[],41⟩ ?_
   refine rn (wg [4] [] ?_)
   cases h
   exact wp_ret (show fnOut _ _ _ _=_ from by kernel_rfl)
  refine wp_skip (wp_seq ?_)
  refine wgc [] [] ⟨[],[],41⟩ ?_
  refine rn (wg [4] [] ?_)
  cases h
  exact wp_ret (show fnOut _ _ _ _=_ from by kernel_rfl)
 refine wp_skip (wp_seq (wp_seq (wg [0,1] [] (reg_in (sz 1 1 ?_)))))
 refine lenL (enc:=eI) (l:=p0) (fl:=true) kr gE ?_
 refine sz 2 4 (reg_end rfl (wp_block ?_))
 refine wwh h (fun s5=>⟨[(0,z1 p0),(1,z1 p1),(5,vI s5)],[],41⟩) (fun x out=>out=match x with | .inl v=>.go (.ret) ⟨[(4,vI v)],[],41⟩ | .inr v=>.go (.exit 0) ⟨[],[],41⟩) (wk_gc (live:=[0,1,5]) (keep:=[]) kr) ?_ ?_
 ·intro s5 o h
  unfold g_ref01_compare_b0 at h
  refine wp_seq (sq ?_)
  refine wb [20] h (fun q7 h=>?_) (fun q7 h=>?_)
  ·refine wcT (wp_skip (wp_seq (wp_block (wp_seq (rga hfol (sy 2 2 ?_))))))
   refine bind_elim h (fun a8 q9 h=>?_)
   refine idxL' (enc:=eI) (l:=p0) (n:=s5) (fl:=true) (w:=1) (a:=a8) kr rfl gE q9 ?_
   refine sy 3 6 ?_
   refine bind_elim h (fun a10 q11 h=>?_)
   refine idxL' (enc:=eI) (l:=p1) (n:=s5) (fl:=true) (w:=1) (a:=a10) kr rfl gE q11 ?_
   refine sy 2 9 (rgd ?_)
   refine wbz h (fun q13 h=>?_) (fun q13 h=>?_)
   ·refine wp_seq (wp_seq ?_)
    refine wgc [0,1,5] [] ⟨[(0,z1 p0),(1,z1 p1),(5,vI s5)],[],41⟩ ?_
    refine rga hfol (sy 2 2 ?_)
    refine idxL' (enc:=eI) (l:=p0) (n:=s5) (fl:=true) (w:=1) (a:=a8) kr rfl gE q9 ?_
    refine sy 3 6 ?_
    refine idxL' (enc:=eI) (l:=p1) (n:=s5) (fl:=true) (w:=1) (a:=a10) kr rfl gE q11 ?_
    refine sy 2 9 (rgd ?_)
    refine wbz h (fun q15 h=>?_) (fun q15 h=>?_)
    ·refine wp_seq (wg [] [] (rn (wg [4] [] ?_)))
     refine wp_ret ?_
     cases h
     exact ⟨kr,rfl⟩
    refine wp_skip (wp_seq (wg [] [] (rn ?_)))
    refine wgc [4] [] ⟨[(4,vI 1)],[],41⟩ ?_
    refine wp_ret ?_
    cases h
    exact ⟨kr,rfl⟩
   refine wp_skip ?_
   refine wgc [0,1,5] [] ⟨[(0,z1 p0),(1,z1 p1),(5,vI s5)],[],41⟩ ?_
   refine rn ?_
   cases h
   exact ⟨_,rfl,(wk_gc (live:=[0,1,5]) (keep:=[]) kr)⟩
  refine wcF (wg [] [] ?_)
  refine wp_exit ?_
  cases h
  exact ⟨kr,rfl⟩
 intro x16 h out hx
 subst hx
 rcases x16 with x17 | x18
 ·dsimp only at h ⊢
  cases h
  show fnOut _ _ _ _=_
  kernel_rfl
 ·dsimp only at h ⊢
  refine sq (wg [4] [] ?_)
  cases h
  exact wp_ret (show fnOut _ _ _ _=_ from by kernel_rfl)
theorem g_ref01_cut_ok (p0:(List Int)) (x:(List Int)) (h:g_ref01_cut p0=some x):CallOk Try.prog 92 [z1 p0] (.ret (z1 x) []):=by
 refine fn_ok [[.lst true]] Try.func92 rfl (by decide +kernel) rfl ?_
 unfold g_ref01_cut at h
 refine wp_eqB (base':=0) (st':=⟨[(0,z1 p0)],[],21⟩) kr kr ?_
 refine sq (wp_seq (wp_block ?_))
 refine wwh h (fun s1=>⟨[(0,z1 s1)],[],21⟩) (fun v out=>out=.go (.exit 0) ⟨[(0,z1 v)],[],21⟩) (wk_gc (live:=[0]) (keep:=[]) kr) ?_ ?_
 ·intro s1 o h
  unfold g_ref01_cut_b0 at h
  refine wp_seq (wp_seq (reg_in (sz 1 1 ?_)))
  refine lenL (enc:=eI) (l:=s1) (fl:=true) kr gE ?_
  refine sz 2 4 ?_
  refine rb [5,6] h (fun q3 h=>?_) (fun q3 h=>?_)
  ·refine sz 2 6 ?_
   refine lenL (enc:=eI) (l:=s1) (fl:=true) kr gE ?_
   refine sz 1 8 ?_
   refine bind_elim h (fun a4 q5 h=>?_)
   refine idxL' (enc:=eI) (l:=s1) (n:=zw ((zn s1) - 1)) (fl:=true) (w:=1) (a:=a4) kr rfl gE q5 ?_
   refine sz 3 12 (reg_end rfl ?_)
   refine wbz h (fun q7 h=>?_) (fun q7 h=>?_)
   ·refine wp_skip (wp_block ?_)
    refine wgc [0] [] ⟨[(0,z1 s1)],[],21⟩ ?_
    refine reg_in (sz 2 2 ?_)
    refine lenL (enc:=eI) (l:=s1) (fl:=true) kr gE ?_
    refine sz 1 4 ?_
    refine sliceL (enc:=eI) (l:=s1) (fl:=true) (lo:=none) (hi:=(some (vI (zw ((zn s1) - 1))))) (a:=0) (b:=zw ((zn s1) - 1)) (w:=1) kr (fun _=>rfl) rfl rfl gE h (fun h=>?_)
    refine sz 1 6 (reg_end rfl ?_)
    cases h
    exact ⟨_,rfl,(wk_gc (live:=[0]) (keep:=[]) kr)⟩
   refine wgc [0] [] ⟨[(0,z1 s1)],[],21⟩ ?_
   refine wp_exit ?_
   cases h
   exact ⟨kr,rfl⟩
  refine sz 8 12 (reg_end rfl (wcF (wg [0] [] ?_)))
  refine wp_exit ?_
  cases h
  exact ⟨kr,rfl⟩
 intro x9 h out hx
 subst hx
 refine sq (wg [2] [] ?_)
 cases h
 exact wp_ret (show fnOut _ _ _ _=_ from by kernel_rfl)
theorem g_ref01_times_ok (p0:(List Int)) (p1:(List Int)) (x:(List Int)) (h:g_ref01_times p0 p1=some x):CallOk Try.prog 67 [z1 p0,z1 p1] (.ret (z1 x) []):=by
 refine fn_ok [[.lst true]] Try.func67 rfl (by decide +kernel) rfl ?_
 unfold g_ref01_times at h
 refine wp_eqB (base':=0) (st':=⟨[(0,z1 p0),(1,z1 p1)],[],65⟩) kr kr ?_
 refine sq (wp_seq (reg_in (sz 1 1 ?_)))
 refine lenL (enc:=eI) (l:=p0) (fl:=true) kr gE ?_
 refine sz 1 3 ?_
 refine lenL (enc:=eI) (l:=p1) (fl:=true) kr gE ?_
 refine sz 1 5 ?_
 refine mkL (enc:=eI) (z:=(0:Int)) (z0:=vI 0) (n:=zw ((zn p0)+(zn p1))) (m:=zw ((zn p0)+(zn p1))) (w:=1) (bytes:=8) [] true kr rfl gE kr h (fun h=>?_)
 refine sz 1 7 (reg_end rfl (wp_seq (wp_seq (wg [0,1,5] [0] (rn (wp_block ?_))))))
 refine wwh h (fun s1=>⟨[(0,z1 p0),(1,z1 p1),(5,.ref 0 0 s1.2.length),(6,vI s1.1)],[oR true 1 eI s1.2],65⟩) (fun v out=>out=.go (.exit 0) ⟨[(5,.ref 0 0 v.length)],[oR true 1 eI v],65⟩) (wk_gc (live:=[0,1,5,6]) (keep:=[0]) kr) ?_ ?_
 ·intro s1 o h
  unfold g_ref01_times_b1 at h
  refine wp_seq (wp_seq (reg_in (sz 2 2 ?_)))
  refine lenL (enc:=eI) (l:=p0) (fl:=true) kr gE ?_
  refine sz 1 4 (reg_end rfl ?_)
  refine wb [18] h (fun q3 h=>?_) (fun q3 h=>?_)
  ·refine wcT (wp_skip (wp_seq (wp_block (sq (sq (wp_block ?_))))))
   refine wwh h (fun s4=>⟨[(0,z1 p0),(1,z1 p1),(5,.ref 0 0 s4.2.2.length),(6,vI s1.1),(7,vI s4.1),(8,vI s4.2.1)],[oR true 1 eI s4.2.2],65⟩) (fun v out=>out=.go (.exit 2) ⟨[(0,z1 p0),(1,z1 p1),(5,.ref 0 0 v.length),(6,vI s1.1)],[oR true 1 eI v],65⟩) (wk_gc (live:=[0,1,5,6,7,8]) (keep:=[0]) kr) ?_ ?_
   ·intro s4 o h
    unfold g_ref01_times_b0 at h
    refine wp_seq (wp_seq (reg_in (sz 2 2 ?_)))
    refine lenL (enc:=eI) (l:=p1) (fl:=true) kr gE ?_
    refine sz 2 5 (rwg [0,1,5,6,7,8,25] [0] ?_)
    refine rb [25] h (fun q6 h=>?_) (fun q6 h=>?_)
    ·refine sz 3 8 (reg_end rfl (wcT (wp_skip (wp_seq (wp_block (wp_seq (reg_in (sz 5 5 ?_))))))))
     refine bind_elim h (fun a7 q8 h=>?_)
     refine idxR' (enc:=eI) (l:=s4.2.2) (n:=zw (s1.1+s4.2.1)) (w:=1) (ob:=0) (ro:=false) (nr:=true) (fl:=true) (a:=a7) kr kr gE q8 ?_
     refine loadR (enc:=eI) (l:=s4.2.2) (n:=zw (s1.1+s4.2.1)) (w:=1) (ob:=0) (c:=0) (bx:=false) (ro:=false) (nr:=true) (fl:=true) (a:=a7) kr kr q8 gE ?_
     refine sz 2 9 (reg_end rfl (wp_seq (wp_seq ?_)))
     refine wgc [0,1,5,6,7,8] [0] ⟨[(0,z1 p0),(1,z1 p1),(5,.ref 0 0 s4.2.2.length),(6,vI s1.1),(7,vI (zw (s4.1+a7))),(8,vI s4.2.1)],[oR true 1 eI s4.2.2],65⟩ ?_
     refine reg_in (sz 2 2 ?_)
     refine lenL (enc:=eI) (l:=p1) (fl:=true) kr gE ?_
     refine sz 1 4 (reg_end rfl ?_)
     refine wk [42] q6 ?_
     refine wcT (rga hfol (sy 3 3 ?_))
     refine bind_elim h (fun a10 q11 h=>?_)
     refine idxL' (enc:=eI) (l:=p0) (n:=s1.1) (fl:=true) (w:=1) (a:=a10) kr rfl gE q11 ?_
     refine sy 3 7 ?_
     refine bind_elim h (fun a12 q13 h=>?_)
     refine idxL' (enc:=eI) (l:=p1) (n:=s4.2.1) (fl:=true) (w:=1) (a:=a12) kr rfl gE q13 ?_
     refine sy 4 12 (rgd (wp_seq ?_))
     refine wgc [0,1,5,6,7,8] [0] ⟨[(0,z1 p0),(1,z1 p1),(5,.ref 0 0 s4.2.2.length),(6,vI s1.1),(7,vI (zw ((zw (s4.1+a7))+(zw (a10*a12))))),(8,vI s4.2.1)],[oR true 1 eI s4.2.2],65⟩ ?_
     refine reg_in (sz 6 6 ?_)
     refine idxR' (enc:=eI) (l:=s4.2.2) (n:=zw (s1.1+s4.2.1)) (w:=1) (ob:=0) (ro:=false) (nr:=true) (fl:=true) (a:=a7) kr kr gE q8 ?_
     refine bind_elim h (fun a14 q15 h=>?_)
     refine storeR (enc:=eI) (l:=s4.2.2) (n:=(zw (s1.1+s4.2.1))) (ob:=0) (w:=1) (bx:=false) (nr:=true) (fl:=true) (c:=0) (a:=a14) (a':=Int.tmod (zw ((zw (s4.1+a7))+(zw (a10*a12)))) 10000) (v:=vI (Int.tmod (zw ((zw (s4.1+a7))+(zw (a10*a12)))) 10000)) false kr kr q15 kr rfl kr gE kr ?_
     refine rl [5,54] (n:=s4.2.2.length) (m:=(List.set s4.2.2 (zt (zw (s1.1+s4.2.1))) (Int.tmod (zw ((zw (s4.1+a7))+(zw (a10*a12)))) 10000)).length) (by simp only [List.length_set]) ?_
     refine reg_end rfl (wg [0,1,5,6,7,8] [0] (rn (rn ?_)))
     cases h
     exact ⟨_,rfl,(wk_gc (live:=[0,1,5,6,7,8]) (keep:=[0]) kr)⟩
    refine sz 3 8 (reg_end rfl ?_)
    refine wb [27,28] h (fun q18 h=>?_) (fun q18 h=>?_)
    ·refine wcT (wp_skip (wp_seq (wp_block (wp_seq (reg_in (sz 5 5 ?_))))))
     refine bind_elim h (fun a19 q20 h=>?_)
     refine idxR' (enc:=eI) (l:=s4.2.2) (n:=zw (s1.1+s4.2.1)) (w:=1) (ob:=0) (ro:=false) (nr:=true) (fl:=true) (a:=a19) kr kr gE q20 ?_
     refine loadR (enc:=eI) (l:=s4.2.2) (n:=zw (s1.1+s4.2.1)) (w:=1) (ob:=0) (c:=0) (bx:=false) (ro:=false) (nr:=true) (fl:=true) (a:=a19) kr kr q20 gE ?_
     refine sz 2 9 (reg_end rfl (wp_seq (wp_seq ?_)))
     refine wgc [0,1,5,6,7,8] [0] ⟨[(0,z1 p0),(1,z1 p1),(5,.ref 0 0 s4.2.2.length),(6,vI s1.1),(7,vI (zw (s4.1+a19))),(8,vI s4.2.1)],[oR true 1 eI s4.2.2],65⟩ ?_
     refine reg_in (sz 2 2 ?_)
     refine lenL (enc:=eI) (l:=p1) (fl:=true) kr gE ?_
     refine sz 1 4 (reg_end rfl ?_)
     refine wk [42] q6 ?_
     refine wcF (wp_skip (wp_seq (reg_in (sz 6 6 ?_))))
     refine idxR' (enc:=eI) (l:=s4.2.2) (n:=zw (s1.1+s4.2.1)) (w:=1) (ob:=0) (ro:=false) (nr:=true) (fl:=true) (a:=a19) kr kr gE q20 ?_
     refine bind_elim h (fun a22 q23 h=>?_)
     refine storeR (enc:=eI) (l:=s4.2.2) (n:=(zw (s1.1+s4.2.1))) (ob:=0) (w:=1) (bx:=false) (nr:=true) (fl:=true) (c:=0) (a:=a22) (a':=Int.tmod (zw (s4.1+a19)) 10000) (v:=vI (Int.tmod (zw (s4.1+a19)) 10000)) false kr kr q23 kr rfl kr gE kr ?_
     refine rl [5,54] (n:=s4.2.2.length) (m:=(List.set s4.2.2 (zt (zw (s1.1+s4.2.1))) (Int.tmod (zw (s4.1+a19)) 10000)).length) (by simp only [List.length_set]) ?_
     refine reg_end rfl ?_
     refine wgc [0,1,5,6,7,8] [0] ⟨[(0,z1 p0),(1,z1 p1),(5,.ref 0 0 ((List.set s4.2.2 (zt (zw (s1.1+s4.2.1))) (Int.tmod (zw (s4.1+a19)) 10000)).length)),(6,vI s1.1),(7,vI (zw (s4.1+a19))),(8,vI s4.2.1)],[oR true 1 eI (List.set s4.2.2 (zt (zw (s1.1+s4.2.1))) (Int.tmod (zw (s4.1+a19)) 10000))],65⟩ ?_
     refine rn (rn ?_)
     cases h
     exact ⟨_,rfl,(wk_gc (live:=[0,1,5,6,7,8]) (keep:=[0]) kr)⟩
    refine wcF (wg [0,1,5,6] [0] ?_)
    refine wp_exit ?_
    cases h
    exact ⟨kr,rfl⟩
   intro x26 h out hx
   subst hx
   refine rn ?_
   cases h
   exact ⟨_,rfl,(wk_gc (live:=[0,1,5,6]) (keep:=[0]) kr)⟩
  refine wcF (wg [5] [0] ?_)
  refine wp_exit ?_
  cases h
  exact ⟨kr,rfl⟩
 intro x28 h out hx
 subst hx
 refine wp_seq (reg_in (sz 1 1 ?_))
 refine callR (as0:=[.ref 0 0 x28.length]) (ids:=[0]) kr bodyB_92 (msnap_cons (snap_full (w:=1) (bx:=false) (ro:=false) kr) msnap_nil (by rfl)) (fun x29 q30=>g_ref01_cut_ok x28 x29 q30) gF h (fun x29 q30 h=>?_)
 refine sz 1 3 (reg_end rfl (wg [4] [] ?_))
 cases h
 exact wp_ret (show fnOut _ _ _ _=_ from by kernel_rfl)
theorem g_ref01_minus_ok (p0:(List Int)) (p1:(List Int)) (x:(List Int)) (h:g_ref01_minus p0 p1=some x):CallOk Try.prog 106 [z1 p0,z1 p1] (.ret (z1 x) []):=by
 refine fn_ok [[.lst true]] Try.func106 rfl (by decide +kernel) rfl ?_
 unfold g_ref01_minus at h
 refine wp_eqB (base':=0) (st':=⟨[(0,z1 p0),(1,z1 p1)],[],41⟩) kr kr ?_
 refine sq (sq (sq (wp_seq (sq (wp_block ?_)))))
 refine wwh h (fun s1=>⟨[(0,z1 p0),(1,z1 p1),(5,.ref 0 0 s1.2.2.length),(6,vI s1.1),(7,vI s1.2.1)],[oR true 1 eI s1.2.2],41⟩) (fun v out=>out=.go (.exit 0) ⟨[(5,.ref 0 0 v.length)],[oR true 1 eI v],41⟩) (wk_trans (wk_gc (live:=[0,1,5,6,7]) (keep:=[]) (st':=⟨[(0,z1 p0),(1,z1 p1),(5,.nils),(6,vI 0),(7,vI 0)],[],41⟩) kr) (wk_trans (wk_nil 5 1 true true (st':=⟨[(0,z1 p0),(1,z1 p1),(5,.ref 0 0 0),(6,vI 0),(7,vI 0)],[.row false false true true 1 []],41⟩) kr) (wk_gc (live:=[0,1,5,6,7]) (keep:=[0]) kr))) ?_ ?_
 ·intro s1 o h
  unfold g_ref01_minus_b0 at h
  refine wp_seq (wp_seq (reg_in (sz 2 2 ?_)))
  refine lenL (enc:=eI) (l:=p0) (fl:=true) kr gE ?_
  refine sz 1 4 (reg_end rfl ?_)
  refine wb [12] h (fun q3 h=>?_) (fun q3 h=>?_)
  ·refine wcT (wp_skip (wp_seq (wp_block (wp_seq (reg_in (sz 2 2 ?_))))))
   refine bind_elim h (fun a4 q5 h=>?_)
   refine idxL' (enc:=eI) (l:=p0) (n:=s1.2.1) (fl:=true) (w:=1) (a:=a4) kr rfl gE q5 ?_
   refine sz 4 7 (reg_end rfl (wp_seq (wp_seq ?_)))
   refine wgc [0,1,5,7,8] [0] ⟨[(0,z1 p0),(1,z1 p1),(5,.ref 0 0 s1.2.2.length),(7,vI s1.2.1),(8,vI (zw (a4 - s1.1)))],[oR true 1 eI s1.2.2],41⟩ ?_
   refine reg_in (sz 2 2 ?_)
   refine lenL (enc:=eI) (l:=p1) (fl:=true) kr gE ?_
   refine sz 1 4 (reg_end rfl ?_)
   refine wb [24] h (fun q7 h=>?_) (fun q7 h=>?_)
   ·refine wcT (reg_in (sz 3 3 ?_))
    refine bind_elim h (fun a8 q9 h=>?_)
    refine idxL' (enc:=eI) (l:=p1) (n:=s1.2.1) (fl:=true) (w:=1) (a:=a8) kr rfl gE q9 ?_
    refine sz 3 7 (reg_end rfl (wp_seq ?_))
    refine wgc [0,1,5,7,8] [0] ⟨[(0,z1 p0),(1,z1 p1),(5,.ref 0 0 s1.2.2.length),(7,vI s1.2.1),(8,vI (zw ((zw (a4 - s1.1)) - a8)))],[oR true 1 eI s1.2.2],41⟩ ?_
    refine rn (wp_seq (sq ?_))
    refine wb [32] h (fun q11 h=>?_) (fun q11 h=>?_)
    ·refine wcT (sq (wg [0,1,5,7,8] [0] (rn (reg_in (sz 2 2 ?_)))))
     refine sgL false [] [] true gE ?_
     refine appR (enc:=eI) (l:=s1.2.2) (m:=([zw ((zw ((zw (a4 - s1.1)) - a8))+10000)]:(List Int))) (w:=1) (bytes:=8) (ob:=0) (nr:=true) (fl:=true) (nr':=true) (fl':=true) (b:=.ref 1 0 1) (rds:=[1]) false kr kr kr rfl gE kr h (fun h=>?_)
     refine sz 1 5 (reg_end rfl ?_)
     refine wgc [0,1,5,7,6] [2] ⟨[(0,z1 p0),(1,z1 p1),(5,.ref 0 0 ((s1.2.2++([zw ((zw ((zw (a4 - s1.1)) - a8))+10000)]:(List Int))).length)),(7,vI s1.2.1),(6,vI 1)],[oR true 1 eI (s1.2.2++([zw ((zw ((zw (a4 - s1.1)) - a8))+10000)]:(List Int)))],41⟩ ?_
     refine rn ?_
     cases h
     exact ⟨_,rfl,(wk_gc (live:=[0,1,5,6,7]) (keep:=[0]) kr)⟩
    refine wcF (wp_skip (reg_in (sz 2 2 ?_)))
    refine sgL false [] [] true gE ?_
    refine appR (enc:=eI) (l:=s1.2.2) (m:=([zw ((zw (a4 - s1.1)) - a8)]:(List Int))) (w:=1) (bytes:=8) (ob:=0) (nr:=true) (fl:=true) (nr':=true) (fl':=true) (b:=.ref 1 0 1) (rds:=[1]) false kr kr kr rfl gE kr h (fun h=>?_)
    refine sz 1 5 (reg_end rfl ?_)
    refine wgc [0,1,5,7,6] [2] ⟨[(0,z1 p0),(1,z1 p1),(5,.ref 0 0 ((s1.2.2++([zw ((zw (a4 - s1.1)) - a8)]:(List Int))).length)),(7,vI s1.2.1),(6,vI 0)],[oR true 1 eI (s1.2.2++([zw ((zw (a4 - s1.1)) - a8)]:(List Int)))],41⟩ ?_
    refine rn ?_
    cases h
    exact ⟨_,rfl,(wk_gc (live:=[0,1,5,6,7]) (keep:=[0]) kr)⟩
   refine wcF (wp_skip (sq (wp_seq (sq ?_))))
   refine wbz h (fun q13 h=>?_) (fun q13 h=>?_)
   ·refine wp_seq ?_
    refine wgc [0,1,5,7,8] [0] ⟨[(0,z1 p0),(1,z1 p1),(5,.ref 0 0 s1.2.2.length),(7,vI s1.2.1),(8,vI (zw (a4 - s1.1)))],[oR true 1 eI s1.2.2],41⟩ ?_
    refine rn (rn (reg_in (sz 2 2 ?_)))
    refine sgL false [] [] true gE ?_
    refine appR (enc:=eI) (l:=s1.2.2) (m:=([zw ((zw (a4 - s1.1))+10000)]:(List Int))) (w:=1) (bytes:=8) (ob:=0) (nr:=true) (fl:=true) (nr':=true) (fl':=true) (b:=.ref 1 0 1) (rds:=[1]) false kr kr kr rfl gE kr h (fun h=>?_)
    refine sz 1 5 (reg_end rfl (wg [0,1,5,7,6] [2] (rn ?_)))
    cases h
    exact ⟨_,rfl,(wk_gc (live:=[0,1,5,6,7]) (keep:=[0]) kr)⟩
   refine wp_skip ?_
   refine wgc [0,1,5,7,8,6] [0] ⟨[(0,z1 p0),(1,z1 p1),(5,.ref 0 0 s1.2.2.length),(7,vI s1.2.1),(8,vI (zw (a4 - s1.1))),(6,vI 0)],[oR true 1 eI s1.2.2],41⟩ ?_
   refine reg_in (sz 2 2 ?_)
   refine sgL false [] [] true gE ?_
   refine appR (enc:=eI) (l:=s1.2.2) (m:=([zw (a4 - s1.1)]:(List Int))) (w:=1) (bytes:=8) (ob:=0) (nr:=true) (fl:=true) (nr':=true) (fl':=true) (b:=.ref 1 0 1) (rds:=[1]) false kr kr kr rfl gE kr h (fun h=>?_)
   refine sz 1 5 (reg_end rfl (wg [0,1,5,7,6] [2] (rn ?_)))
   cases h
   exact ⟨_,rfl,(wk_gc (live:=[0,1,5,6,7]) (keep:=[0]) kr)⟩
  refine wcF (wg [5] [0] ?_)
  refine wp_exit ?_
  cases h
  exact ⟨kr,rfl⟩
 intro x15 h out hx
 subst hx
 refine wp_seq (reg_in (sz 1 1 ?_))
 refine callR (as0:=[.ref 0 0 x15.length]) (ids:=[0]) kr bodyB_92 (msnap_cons (snap_full (w:=1) (bx:=false) (ro:=false) kr) msnap_nil (by rfl)) (fun x16 q17=>g_ref01_cut_ok x15 x16 q17) gF h (fun x16 q17 h=>?_)
 refine sz 1 3 (reg_end rfl (wg [4] [] ?_))
 cases h
 exact wp_ret (show fnOut _ _ _ _=_ from by kernel_rfl)
theorem g_ref01_divide_ok (p0:(List Int)) (p1:(List Int)) (x:((List Int) × (List Int))) (h:g_ref01_divide p0 p1=some x):CallOk Try.prog 91 [z1 p0,z1 p1] (.ret (.tup [z1 x.1,z1 x.2]) []):=by
 refine fn_ok [[.lst true],[.lst true]] Try.func91 rfl (by decide +kernel) rfl ?_
 unfold g_ref01_divide at h
 refine wp_eqB (base':=0) (st':=⟨[(0,z1 p0),(1,z1 p1)],[],124⟩) kr kr ?_
 refine sq (wp_seq (reg_in (sz 1 1 ?_)))
 refine lenL (enc:=eI) (l:=p1) (fl:=true) kr gE ?_
 refine sz 2 4 (reg_end rfl (wp_seq (wp_seq (wg [0,1,6] [] (reg_in (sz 1 1 ?_))))))
 refine lenL (enc:=eI) (l:=p0) (fl:=true) kr gE ?_
 refine sz 2 4 (reg_end rfl ?_)
 refine wb [22] h (fun q2 h=>?_) (fun q2 h=>?_)
 ·refine wcT (wp_seq ?_)
  refine wgc [0] [] ⟨[(0,z1 p0)],[],124⟩ ?_
  refine reg_in (sz 2 2 ?_)
  refine appN (enc:=eI) (m:=p0) (w:=1) (bytes:=8) (nr':=true) (fl':=true) (a:=.emp) (b:=z1 p0) (rds:=[]) false kr (.inr rfl) (elems_lst (fun _=>rfl)) rfl gE kr h (fun h=>?_)
  refine sz 2 5 (reg_end rfl ?_)
  refine wgc [4,5] [0] ⟨[(4,.nils),(5,.ref 0 0 p0.length)],[oR true 1 eI p0],124⟩ ?_
  refine wp_wk (wk_snap 5 (st':=⟨[(4,.nils),(5,z1 p0)],[.row false true true true 1 (List.map eI p0)],124⟩) (y:=z1 p0) (ids:=[0]) rfl (snap_full (w:=1) (bx:=false) (ro:=false) kr) kr) ?_
  cases h
  exact wp_ret (show fnOut _ _ _ _=_ from by kernel_rfl)
 refine wcF (wp_skip (wp_seq (reg_in (sz 1 1 ?_))))
 refine lenL (enc:=eI) (l:=p0) (fl:=true) kr gE ?_
 refine sz 2 4 ?_
 refine mkL (enc:=eI) (z:=(0:Int)) (z0:=vI 0) (n:=zw ((zn p0) - (zw ((zn p1) - 1)))) (m:=zw ((zn p0) - (zw ((zn p1) - 1)))) (w:=1) (bytes:=8) [] true kr rfl gE kr h (fun h=>?_)
 refine sz 1 6 (reg_end rfl (wp_seq ?_))
 refine wgc [0,1,6,7] [0] ⟨[(0,z1 p0),(1,z1 p1),(6,vI (zw ((zn p1) - 1))),(7,.ref 0 0 ((List.replicate (zt (zw ((zn p0) - (zw ((zn p1) - 1))))) (0:Int)).length))],[oR true 1 eI (List.replicate (zt (zw ((zn p0) - (zw ((zn p1) - 1))))) (0:Int))],124⟩ ?_
 refine reg_in (sz 3 3 ?_)
 refine lenL (enc:=eI) (l:=p0) (fl:=true) kr gE ?_
 refine sz 2 6 ?_
 refine sliceL (enc:=eI) (l:=p0) (fl:=true) (lo:=(some (vI (zw ((zn p0) - (zw ((zn p1) - 1))))))) (hi:=none) (a:=zw ((zn p0) - (zw ((zn p1) - 1)))) (b:=(zn p0)) (w:=1) kr (fun _=>rfl) rfl rfl gE h (fun h=>?_)
 refine appN (enc:=eI) (m:=(sub p0 (zw ((zn p0) - (zw ((zn p1) - 1)))) (zn p0))) (w:=1) (bytes:=8) (nr':=true) (fl':=true) (a:=.emp) (b:=z1 (sub p0 (zw ((zn p0) - (zw ((zn p1) - 1)))) (zn p0))) (rds:=[]) false kr (.inr rfl) (elems_lst (fun _=>rfl)) rfl gE kr h (fun h=>?_)
 refine sz 1 9 (reg_end rfl (wp_seq (wp_seq (wg [0,1,6,7,8] [0,1] ?_))))
 refine rgN (S:=⟨[(0,z1 p0),(1,z1 p1),(6,vI (zw ((zn p1) - 1))),(7,.ref 0 0 ((List.replicate (zt (zw ((zn p0) - (zw ((zn p1) - 1))))) (0:Int)).length)),(8,.ref 1 0 ((sub p0 (zw ((zn p0) - (zw ((zn p1) - 1)))) (zn p0)).length))]++[(39,.ref 0 0 ((List.replicate (zt (zw ((zn p0) - (zw ((zn p1) - 1))))) (0:Int)).length)),(40,vI (((List.replicate (zt (zw ((zn p0) - (zw ((zn p1) - 1))))) (0:Int)).length):Int)),(41,vI (zw ((((List.replicate (zt (zw ((zn p0) - (zw ((zn p1) - 1))))) (0:Int)).length):Int) - 1))),(9,vI (zw ((((List.replicate (zt (zw ((zn p0) - (zw ((zn p1) - 1))))) (0:Int)).length):Int) - 1)))],[oR true 1 eI (List.replicate (zt (zw ((zn p0) - (zw ((zn p1) - 1))))) (0:Int)),oR true 1 eI (sub p0 (zw ((zn p0) - (zw ((zn p1) - 1)))) (zn p0))],124⟩) ?_
 refine wp_block ?_
 refine wwh h (fun s3=>⟨[(0,z1 p0),(1,z1 p1),(6,vI (zw ((zn p1) - 1))),(7,.ref 0 0 s3.2.2.length),(8,z1 s3.1),(9,vI s3.2.1)],[oR true 1 eI s3.2.2],124⟩) (fun v out=>out=.go (.exit 0) ⟨[(7,.ref 0 0 v.2.length),(8,z1 v.1)],[oR true 1 eI v.2],124⟩) (wk_trans (wk_gc (live:=[0,1,6,7,8,9]) (keep:=[0,1]) (st':=⟨[(0,z1 p0),(1,z1 p1),(6,vI (zw ((zn p1) - 1))),(7,.ref 0 0 ((List.replicate (zt (zw ((zn p0) - (zw ((zn p1) - 1))))) (0:Int)).length)),(8,.ref 1 0 ((sub p0 (zw ((zn p0) - (zw ((zn p1) - 1)))) (zn p0)).length))]++[(9,vI (zw ((((List.replicate (zt (zw ((zn p0) - (zw ((zn p1) - 1))))) (0:Int)).length):Int) - 1)))],[oR true 1 eI (List.replicate (zt (zw ((zn p0) - (zw ((zn p1) - 1))))) (0:Int)),oR true 1 eI (sub p0 (zw ((zn p0) - (zw ((zn p1) - 1)))) (zn p0))],124⟩) kr) (wk_trans (wk_snap (st':=⟨[(0,z1 p0),(1,z1 p1),(6,vI (zw ((zn p1) - 1))),(7,.ref 0 0 ((List.replicate (zt (zw ((zn p0) - (zw ((zn p1) - 1))))) (0:Int)).length))]++[(8,z1 (sub p0 (zw ((zn p0) - (zw ((zn p1) - 1)))) (zn p0))),(9,vI (zw ((((List.replicate (zt (zw ((zn p0) - (zw ((zn p1) - 1))))) (0:Int)).length):Int) - 1)))],[oR true 1 eI (List.replicate (zt (zw ((zn p0) - (zw ((zn p1) - 1))))) (0:Int)),.row false true true true 1 (List.map eI (sub p0 (zw ((zn p0) - (zw ((zn p1) - 1)))) (zn p0)))],124⟩) 8 (y:=z1 (sub p0 (zw ((zn p0) - (zw ((zn p1) - 1)))) (zn p0))) (ids:=[1]) rfl (snap_full (w:=1) (bx:=false) (ro:=false) kr) kr) (wk_gc (live:=[0,1,6,7,8,9]) (keep:=[0]) kr))) ?_ ?_
 ·intro s3 o h
  unfold g_ref01_divide_b2 at h
  refine wp_seq (sq ?_)
  refine wb [43] h (fun q5 h=>?_) (fun q5 h=>?_)
  ·refine wcT (wp_skip (wp_seq (wp_block (wp_seq (reg_in (sz 2 2 ?_))))))
   refine bind_elim h (fun a6 q7 h=>?_)
   refine idxL' (enc:=eI) (l:=p0) (n:=s3.2.1) (fl:=true) (w:=1) (a:=a6) kr rfl gE q7 ?_
   refine sz 1 4 ?_
   refine sgL false [] [] true gE ?_
   refine sz 1 6 ?_
   refine appR (enc:=eI) (l:=([a6]:(List Int))) (m:=s3.1) (w:=1) (bytes:=8) (ob:=1) (nr:=true) (fl:=true) (nr':=true) (fl':=true) (b:=z1 s3.1) (rds:=[]) false kr kr (elems_lst (fun _=>rfl)) rfl gE kr h (fun h=>?_)
   refine callR (as0:=[.ref 2 0 ((([a6]:(List Int))++s3.1).length)]) (ids:=[2]) kr bodyB_92 (msnap_cons (snap_full (w:=1) (bx:=false) (ro:=false) kr) msnap_nil (by rfl)) (fun x8 q9=>g_ref01_cut_ok (([a6]:(List Int))++s3.1) x8 q9) gF h (fun x8 q9 h=>?_)
   refine sz 1 9 (reg_end rfl (wp_seq ?_))
   refine wgc [0,1,6,7,8,9] [0] ⟨[(0,z1 p0),(1,z1 p1),(6,vI (zw ((zn p1) - 1))),(7,.ref 0 0 s3.2.2.length),(8,z1 x8),(9,vI s3.2.1)],[oR true 1 eI s3.2.2],124⟩ ?_
   refine rn (wp_seq (sq (wp_block ?_)))
   refine wwh h (fun s10=>⟨[(0,z1 p0),(1,z1 p1),(6,vI (zw ((zn p1) - 1))),(7,.ref 0 0 s3.2.2.length),(8,z1 x8),(9,vI s3.2.1),(10,vI s10.1),(11,vI s10.2.1),(12,vI s10.2.2)],[oR true 1 eI s3.2.2],124⟩) (fun v out=>out=.go (.exit 2) ⟨[(0,z1 p0),(1,z1 p1),(6,vI (zw ((zn p1) - 1))),(7,.ref 0 0 s3.2.2.length),(8,z1 x8),(9,vI s3.2.1)]++[(10,vI v.1),(11,vI v.2)],[oR true 1 eI s3.2.2],124⟩) (wk_gc (live:=[0,1,6,7,8,9,10,11,12]) (keep:=[0]) kr) ?_ ?_
   ·intro s10 o h
    unfold g_ref01_divide_b0 at h
    refine wp_seq (sq ?_)
    refine wbz h (fun q12 h=>?_) (fun q12 h=>?_)
    ·refine wp_skip (wp_seq (wp_block (wp_seq (wg [0,1,6,7,8,9,10,11,12] [0] (rn (wp_seq (wp_seq (reg_in (sz 2 2 ?_)))))))))
     refine lenL (enc:=eI) (l:=x8) (fl:=true) kr gE ?_
     refine sz 1 4 (reg_end rfl ?_)
     refine wbz h (fun q14 h=>?_) (fun q14 h=>?_)
     ·refine wgc [0,1,6,7,8,9,10,11,12] [0] ⟨[(0,z1 p0),(1,z1 p1),(6,vI (zw ((zn p1) - 1))),(7,.ref 0 0 s3.2.2.length),(8,z1 x8),(9,vI s3.2.1),(10,vI s10.1),(11,vI (zw (s10.2.1*10000))),(12,vI s10.2.2)],[oR true 1 eI s3.2.2],124⟩ ?_
      refine reg_in (sz 3 3 ?_)
      refine bind_elim h (fun a15 q16 h=>?_)
      refine idxL' (enc:=eI) (l:=x8) (n:=s10.2.2) (fl:=true) (w:=1) (a:=a15) kr rfl gE q16 ?_
      refine sz 3 7 (reg_end rfl (wp_seq (wg [0,1,6,7,8,9,10,11,12] [0] (rn ?_))))
      refine wb [77] h (fun q18 h=>?_) (fun q18 h=>?_)
      ·refine wcT (reg_in (sz 4 4 ?_))
       refine bind_elim h (fun a19 q20 h=>?_)
       refine idxL' (enc:=eI) (l:=p1) (n:=s10.2.2) (fl:=true) (w:=1) (a:=a19) kr rfl gE q20 ?_
       refine sz 3 8 (reg_end rfl ?_)
       refine wgc [0,1,6,7,8,9,10,11,12] [0] ⟨[(0,z1 p0),(1,z1 p1),(6,vI (zw ((zn p1) - 1))),(7,.ref 0 0 s3.2.2.length),(8,z1 x8),(9,vI s3.2.1),(10,vI (zw ((zw (s10.1*10000))+a19))),(11,vI (zw ((zw (s10.2.1*10000))+a15))),(12,vI s10.2.2)],[oR true 1 eI s3.2.2],124⟩ ?_
       refine rn ?_
       cases h
       exact ⟨_,rfl,(wk_gc (live:=[0,1,6,7,8,9,10,11,12]) (keep:=[0]) kr)⟩
      refine wcF (wp_skip (rn ?_))
      cases h
      exact ⟨_,rfl,(wk_gc (live:=[0,1,6,7,8,9,10,11,12]) (keep:=[0]) kr)⟩
     refine wp_skip (wp_seq ?_)
     refine wgc [0,1,6,7,8,9,10,11,12] [0] ⟨[(0,z1 p0),(1,z1 p1),(6,vI (zw ((zn p1) - 1))),(7,.ref 0 0 s3.2.2.length),(8,z1 x8),(9,vI s3.2.1),(10,vI s10.1),(11,vI (zw (s10.2.1*10000))),(12,vI s10.2.2)],[oR true 1 eI s3.2.2],124⟩ ?_
     refine rn ?_
     refine wb [77] h (fun q22 h=>?_) (fun q22 h=>?_)
     ·refine wcT (reg_in (sz 4 4 ?_))
      refine bind_elim h (fun a23 q24 h=>?_)
      refine idxL' (enc:=eI) (l:=p1) (n:=s10.2.2) (fl:=true) (w:=1) (a:=a23) kr rfl gE q24 ?_
      refine sz 3 8 (reg_end rfl (wg [0,1,6,7,8,9,10,11,12] [0] (rn ?_)))
      cases h
      exact ⟨_,rfl,(wk_gc (live:=[0,1,6,7,8,9,10,11,12]) (keep:=[0]) kr)⟩
     refine wcF (wp_skip (rn ?_))
     cases h
     exact ⟨_,rfl,(wk_gc (live:=[0,1,6,7,8,9,10,11,12]) (keep:=[0]) kr)⟩
    refine wg [0,1,6,7,8,9,10,11] [0] ?_
    refine wp_exit ?_
    cases h
    exact ⟨kr,rfl⟩
   intro x26 h out hx
   subst hx
   refine wp_seq (rga hfol (sy 3 3 ?_))
   refine quoR (k:=.i64) (a:=x26.2) (b:=zw (x26.1+1)) kr gE h (fun h=>?_)
   refine sy 2 6 ?_
   refine quoR (k:=.i64) (a:=x26.2) (b:=x26.1) kr gE h (fun h=>?_)
   refine sy 2 9 (rgd (wp_seq (wp_block ?_)))
   refine wwh h (fun s27=>⟨[(0,z1 p0),(1,z1 p1),(6,vI (zw ((zn p1) - 1))),(7,.ref 0 0 s3.2.2.length),(8,z1 x8),(9,vI s3.2.1),(13,vI s27.1),(14,vI s27.2)],[oR true 1 eI s3.2.2],124⟩) (fun v out=>out=.go (.exit 4) ⟨[(0,z1 p0),(1,z1 p1),(6,vI (zw ((zn p1) - 1))),(7,.ref 0 0 s3.2.2.length),(8,z1 x8),(9,vI s3.2.1)]++[(13,vI v)],[oR true 1 eI s3.2.2],124⟩) (wk_gc (live:=[0,1,6,7,8,9,13,14]) (keep:=[0]) kr) ?_ ?_
   ·intro s27 o h
    unfold g_ref01_divide_b1 at h
    refine wp_seq (sq ?_)
    refine wb [94] h (fun q29 h=>?_) (fun q29 h=>?_)
    ·refine wcT (wp_skip (wp_block (sq (wp_seq (wg [0,1,6,7,8,9,13,14,15] [0] (reg_in (sz 2 2 ?_)))))))
     refine sgL false [] [] true gE ?_
     refine callR (as0:=[z1 p1,.ref 1 0 1]) (ids:=[1]) kr bodyB_67 (msnap_cons rfl (msnap_cons (show snap _ _ _=some (_,[1]) from kr) msnap_nil (by rfl)) (by rfl)) (fun x30 q31=>g_ref01_times_ok p1 [zw (Int.tdiv (zw ((zw (s27.1+s27.2))+1)) 2)] x30 q31) gF h (fun x30 q31 h=>?_)
     refine sz 1 5 ?_
     refine callW bodyB_64 (g_ref01_compare_ok x30 x8) h (fun x32 _ h=>?_)
     refine sz 1 7 (reg_end rfl ?_)
     refine wbz h (fun q35 h=>?_) (fun q35 h=>?_)
     ·refine wgc [0,1,6,7,8,9,14,15] [0] ⟨[(0,z1 p0),(1,z1 p1),(6,vI (zw ((zn p1) - 1))),(7,.ref 0 0 s3.2.2.length),(8,z1 x8),(9,vI s3.2.1),(14,vI s27.2),(15,vI (zw (Int.tdiv (zw ((zw (s27.1+s27.2))+1)) 2)))],[oR true 1 eI s3.2.2],124⟩ ?_
      refine rn ?_
      cases h
      exact ⟨_,rfl,(wk_gc (live:=[0,1,6,7,8,9,13,14]) (keep:=[0]) kr)⟩
     refine wgc [0,1,6,7,8,9,13,15] [0] ⟨[(0,z1 p0),(1,z1 p1),(6,vI (zw ((zn p1) - 1))),(7,.ref 0 0 s3.2.2.length),(8,z1 x8),(9,vI s3.2.1),(13,vI s27.1),(15,vI (zw (Int.tdiv (zw ((zw (s27.1+s27.2))+1)) 2)))],[oR true 1 eI s3.2.2],124⟩ ?_
     refine rn ?_
     cases h
     exact ⟨_,rfl,(wk_gc (live:=[0,1,6,7,8,9,13,14]) (keep:=[0]) kr)⟩
    refine wcF (wg [0,1,6,7,8,9,13] [0] ?_)
    refine wp_exit ?_
    cases h
    exact ⟨kr,rfl⟩
   intro x37 h out hx
   subst hx
   refine wp_seq (reg_in (sz 3 3 ?_))
   refine bind_elim h (fun a38 q39 h=>?_)
   refine idxR' (enc:=eI) (l:=s3.2.2) (n:=s3.2.1) (w:=1) (ob:=0) (ro:=false) (nr:=true) (fl:=true) (a:=a38) kr kr gE q39 ?_
   refine storeR (enc:=eI) (l:=s3.2.2) (n:=s3.2.1) (ob:=0) (w:=1) (bx:=false) (nr:=true) (fl:=true) (c:=0) (a:=a38) (a':=x37) (v:=vI x37) false kr kr q39 kr rfl kr gE kr ?_
   refine rl [7,110] (n:=s3.2.2.length) (m:=(List.set s3.2.2 (zt s3.2.1) x37).length) (by simp only [List.length_set]) ?_
   refine reg_end rfl (reg_in (sz 3 3 ?_))
   refine sgL false [] [] true gE ?_
   refine callR (as0:=[.ref 1 0 1]) (ids:=[1]) kr bodyB_92 (msnap_cons (show snap _ _ _=some (_,[1]) from kr) msnap_nil (by rfl)) (fun x40 q41=>g_ref01_cut_ok [x37] x40 q41) gF h (fun x40 q41 h=>?_)
   refine callW bodyB_67 (g_ref01_times_ok p1 x40) h (fun x42 _ h=>?_)
   refine callW bodyB_106 (g_ref01_minus_ok x8 x42) h (fun x44 _ h=>?_)
   refine sz 1 8 (reg_end rfl ?_)
   refine wgc [0,1,6,7,8,9] [0] ⟨[(0,z1 p0),(1,z1 p1),(6,vI (zw ((zn p1) - 1))),(7,.ref 0 0 ((List.set s3.2.2 (zt s3.2.1) x37).length)),(8,z1 x44),(9,vI s3.2.1)],[oR true 1 eI (List.set s3.2.2 (zt s3.2.1) x37)],124⟩ ?_
   refine rn ?_
   cases h
   exact ⟨_,rfl,(wk_gc (live:=[0,1,6,7,8,9]) (keep:=[0]) kr)⟩
  refine wcF (wg [7,8] [0] ?_)
  refine wp_exit ?_
  cases h
  exact ⟨kr,rfl⟩
 intro x48 h out hx
 subst hx
 refine wp_seq (reg_in (sz 1 1 ?_))
 refine callR (as0:=[.ref 0 0 x48.2.length]) (ids:=[0]) kr bodyB_92 (msnap_cons (snap_full (w:=1) (bx:=false) (ro:=false) kr) msnap_nil (by rfl)) (fun x49 q50=>g_ref01_cut_ok x48.2 x49 q50) gF h (fun x49 q50 h=>?_)
 refine sz 3 5 (reg_end rfl (wg [4,5] [] ?_))
 cases h
 exact wp_ret (show fnOut _ _ _ _=_ from by kernel_rfl)
theorem g_ref01_gcd_ok (p0:(List Int)) (p1:(List Int)) (x:(List Int)) (h:g_ref01_gcd p0 p1=some x):CallOk Try.prog 65 [z1 p0,z1 p1] (.ret (z1 x) []):=by
 refine fn_ok [[.lst true]] Try.func65 rfl (by decide +kernel) rfl ?_
 unfold g_ref01_gcd at h
 refine wp_eqB (base':=0) (st':=⟨[(0,z1 p0),(1,z1 p1)],[],19⟩) kr kr ?_
 refine sq (wp_seq (wp_block ?_))
 refine wwh h (fun s1=>⟨[(0,z1 s1.1),(1,z1 s1.2)],[],19⟩) (fun v out=>out=.go (.exit 0) ⟨[(0,z1 v)],[],19⟩) (wk_gc (live:=[0,1]) (keep:=[]) kr) ?_ ?_
 ·intro s1 o h
  unfold g_ref01_gcd_b0 at h
  refine wp_seq (wp_seq (reg_in (sz 1 1 ?_)))
  refine lenL (enc:=eI) (l:=s1.2) (fl:=true) kr gE ?_
  refine sz 1 3 (reg_end rfl ?_)
  refine wb [9] h (fun q3 h=>?_) (fun q3 h=>?_)
  ·refine wcT (wp_skip (wp_block (wp_seq (reg_in (sz 2 2 ?_)))))
   refine callW bodyB_91 (g_ref01_divide_ok s1.1 s1.2) h (fun x4 _ h=>?_)
   refine sz 5 8 (reg_end rfl (wp_seq ?_))
   refine wgc [1,6] [] ⟨[(1,z1 s1.2),(6,z1 x4.2)],[],19⟩ ?_
   refine rn (rn ?_)
   cases h
   exact ⟨_,rfl,(wk_gc (live:=[0,1]) (keep:=[]) kr)⟩
  refine wcF (wg [0] [] ?_)
  refine wp_exit ?_
  cases h
  exact ⟨kr,rfl⟩
 intro x7 h out hx
 subst hx
 refine sq (wg [4] [] ?_)
 cases h
 exact wp_ret (show fnOut _ _ _ _=_ from by kernel_rfl)
theorem g_ref01_Right_ok (p0:Tapi_Q) (x:Bool) (h:g_ref01_Right p0=some x):CallOk Try.prog 29 [.agg [vI p0.N,vI p0.D]] (.ret (vB x) []):=by
 refine fn_ok [] Try.func29 rfl (by decide +kernel) rfl ?_
 unfold g_ref01_Right at h
 refine wp_eqB (base':=0) (st':=⟨[(0,.agg [vI p0.N,vI p0.D])],[],31⟩) kr kr ?_
 refine sq (wp_seq (wp_seq (reg_in (sz 4 4 (rwg [1,6] [0] ?_)))))
 refine rb [6] h (fun q2 h=>?_) (fun q2 h=>?_)
 ·refine sz 14 18 (reg_end rfl (wcT (wp_seq ?_)))
  refine wgc [] [] ⟨[],[],31⟩ ?_
  refine rn (wg [2] [] ?_)
  cases h
  exact wp_ret (show fnOut _ _ _ _=_ from by kernel_rfl)
 refine sz 5 9 (rwg [1,11] [0] ?_)
 refine rb [11] h (fun q4 h=>?_) (fun q4 h=>?_)
 ·refine sz 9 18 (reg_end rfl (wcT (wp_seq ?_)))
  refine wgc [] [] ⟨[],[],31⟩ ?_
  refine rn (wg [2] [] ?_)
  cases h
  exact wp_ret (show fnOut _ _ _ _=_ from by kernel_rfl)
 refine sz 5 14 ?_
 refine rw_wk (wk_gc (live:=[1,16]) (keep:=[0]) (st':=⟨[(1,.ptr 0 0 0),(16,vB (decide (p0.N > 4611686018427387903)))],[oX true true 2 (.agg [vI p0.N,vI p0.D])],31⟩) kr) ?_
 refine rb [16] h (fun q6 h=>?_) (fun q6 h=>?_)
 ·refine sz 4 18 (reg_end rfl (wcT (wp_seq (wg [] [] (rn (wg [2] [] ?_))))))
  cases h
  exact wp_ret (show fnOut _ _ _ _=_ from by kernel_rfl)
 refine sz 4 18 (reg_end rfl ?_)
 refine wbz h (fun q8 h=>?_) (fun q8 h=>?_)
 ·refine wp_seq (wg [] [] (rn (wg [2] [] ?_)))
  cases h
  exact wp_ret (show fnOut _ _ _ _=_ from by kernel_rfl)
 refine wp_skip (wp_seq (wg [1] [0] (rga hfol (sy 2 2 ?_))))
 refine callW bodyB_66 (fun x9 q10=>CallOk.froz (g_ref01_digits_ok p0.N x9 q10) (snap_full (w:=1) (bx:=false) (ro:=false) rfl)) h (fun x9 q10 h=>?_)
 refine sy 2 5 ?_
 refine callW bodyB_66 (fun x11 q12=>CallOk.froz (g_ref01_digits_ok p0.D x11 q12) (snap_full (w:=1) (bx:=false) (ro:=false) rfl)) h (fun x11 q12 h=>?_)
 refine callW bodyB_65 (g_ref01_gcd_ok x9 x11) h (fun x13 _ h=>?_)
 refine sgL false [] [] true gE ?_
 refine callR (as0:=[z1 x13,.ref 1 0 1]) (ids:=[1]) kr bodyB_64 (msnap_cons rfl (msnap_cons (show snap _ _ _=some (_,[1]) from kr) msnap_nil (by rfl)) (by rfl)) (fun x15 q16=>g_ref01_compare_ok x13 [1] x15 q16) gF h (fun x15 q16 h=>?_)
 refine sy 2 11 (rgd ?_)
 refine wgc [2] [] ⟨[(2,vB (x15==0))],[],31⟩ ?_
 cases h
 exact wp_ret (show fnOut _ _ _ _=_ from by kernel_rfl)
theorem g_ref01_Cmp_ok (p0:Tapi_Q) (p1:Tapi_Q) (x:Int) (h:g_ref01_Cmp p0 p1=some x):CallOk Try.prog 30 [.agg [vI p0.N,vI p0.D],.agg [vI p1.N,vI p1.D]] (.ret (vI x) []):=by
 refine fn_ok [] Try.func30 rfl (by decide +kernel) rfl ?_
 unfold g_ref01_Cmp at h
 refine wp_eqB (base':=0) (st':=⟨[(0,.agg [vI p0.N,vI p0.D]),(1,.agg [vI p1.N,vI p1.D])],[],44⟩) kr kr ?_
 refine sq (wp_seq (rga hfol (sy 2 2 ?_)))
 refine callW bodyB_66 (fun x1 q2=>CallOk.froz (g_ref01_digits_ok p0.N x1 q2) (snap_full (w:=1) (bx:=false) (ro:=false) rfl)) h (fun x1 q2 h=>?_)
 refine sy 2 5 ?_
 refine callW bodyB_66 (fun x3 q4=>CallOk.froz (g_ref01_digits_ok p1.D x3 q4) (snap_full (w:=1) (bx:=false) (ro:=false) rfl)) h (fun x3 q4 h=>?_)
 refine callW bodyB_67 (g_ref01_times_ok x1 x3) h (fun x5 _ h=>?_)
 refine sy 2 9 ?_
 refine callW bodyB_66 (fun x7 q8=>CallOk.froz (g_ref01_digits_ok p1.N x7 q8) (snap_full (w:=1) (bx:=false) (ro:=false) rfl)) h (fun x7 q8 h=>?_)
 refine sy 2 12 ?_
 refine callW bodyB_66 (fun x9 q10=>CallOk.froz (g_ref01_digits_ok p0.D x9 q10) (snap_full (w:=1) (bx:=false) (ro:=false) rfl)) h (fun x9 q10 h=>?_)
 refine callW bodyB_67 (g_ref01_times_ok x7 x9) h (fun x11 _ h=>?_)
 refine sy 2 16 (rgd (wp_seq (wp_block (wp_seq ?_))))
 refine wgc [2,3,5,6] [0,1] ⟨[(2,.ptr 0 0 0),(3,.ptr 1 0 0),(5,z1 x5),(6,z1 x11)],[oX true true 2 (.agg [vI p0.N,vI p0.D]),oX true true 2 (.agg [vI p1.N,vI p1.D])],44⟩ ?_
 refine reg_in (sz 4 4 ?_)
 refine rb [24,25] h (fun q14 h=>?_) (fun q14 h=>?_)
 ·refine sz 5 9 (reg_end rfl ?_)
  refine wbz h (fun q16 h=>?_) (fun q16 h=>?_)
  ·refine wp_seq (wg [5,6] [] (reg_in (sz 2 2 ?_)))
   refine callW bodyB_64 (g_ref01_compare_ok x11 x5) h (fun x17 _ h=>?_)
   refine sz 1 4 (reg_end rfl ?_)
   refine wgc [4] [] ⟨[(4,vI x17)],[],44⟩ ?_
   cases h
   exact wp_ret (show fnOut _ _ _ _=_ from by kernel_rfl)
  refine wp_seq (wg [2,3,5,6] [0,1] (rn ?_))
  refine wk [36,33] q14 ?_
  refine wcT (wp_seq ?_)
  refine wgc [] [] ⟨[],[],44⟩ ?_
  refine rn (wg [4] [] ?_)
  cases h
  exact wp_ret (show fnOut _ _ _ _=_ from by kernel_rfl)
 refine sz 5 9 (reg_end rfl (wcF (wp_seq (wg [2,3,5,6] [0,1] (rn ?_)))))
 refine wk [36,33] q14 ?_
 refine wcF (wp_seq ?_)
 refine wgc [3,5,6] [1] ⟨[(3,.ptr 0 0 0),(5,z1 x5),(6,z1 x11)],[oX true true 2 (.agg [vI p1.N,vI p1.D])],44⟩ ?_
 refine rn ?_
 refine wbz h (fun q22 h=>?_) (fun q22 h=>?_)
 ·refine wp_seq (wg [] [] (rn (wg [4] [] ?_)))
  cases h
  exact wp_ret (show fnOut _ _ _ _=_ from by kernel_rfl)
 refine wp_skip (wp_seq (wg [5,6] [] (reg_in (sz 2 2 ?_))))
 refine callW bodyB_64 (g_ref01_compare_ok x5 x11) h (fun x23 _ h=>?_)
 refine sz 1 4 (reg_end rfl (wg [4] [] ?_))
 cases h
 exact wp_ret (show fnOut _ _ _ _=_ from by kernel_rfl)
noncomputable abbrev s8_11 (x5:Tapi_Net) (x7:(List Int)) (x9:(Int × Int × Tapi_Shift)) (x13:(Tapi_Q × Tapi_Q × Int)):List AObj:=[oX false false 2 (.agg [vI x5.Grain,.ref 5 0 x5.Nodes.length]),oR true 1 eI x7,oX true true 4 (.agg [vI x9.2.2.Node,vI x9.2.2.Row,vI x9.2.2.From,vI x9.2.2.To]),oX true true 2 (.agg [vI x13.1.N,vI x13.1.D]),oX true true 2 (.agg [vI x13.2.1.N,vI x13.2.1.D]),oR false 3 eTapi_Node x5.Nodes]
noncomputable abbrev s8_66 (x5:Tapi_Net) (x7:(List Int)) (x9:(Int × Int × Tapi_Shift)) (x13:(Tapi_Q × Tapi_Q × Int)) (s35:(Int × Int × (List (Int × Int × Int × Int)))) (x38:((Int × Int × Int × Int) × Int)):List AObj:=[oX false false 2 (.agg [vI x5.Grain,.ref 6 0 x5.Nodes.length]),oR true 1 eI x7,oX true true 4 (.agg [vI x9.2.2.Node,vI x9.2.2.Row,vI x9.2.2.From,vI x9.2.2.To]),oX true true 2 (.agg [vI x13.1.N,vI x13.1.D]),oX true true 2 (.agg [vI x13.2.1.N,vI x13.2.1.D]),oR true 4 (fun x=>AV.agg [vI x.1,vI x.2.1,vI x.2.2.1,vI x.2.2.2]) (s35.2.2++([(x38.1.1,x38.1.2.1,x38.1.2.2.1,x38.1.2.2.2)]:(List (Int × Int × Int × Int)))),oR false 3 eTapi_Node x5.Nodes]
noncomputable abbrev s8_89 (x9:(Int × Int × Tapi_Shift)) (x13:(Tapi_Q × Tapi_Q × Int)) (x48:(Int × (List (Int × Int × Int × Int)))):List AObj:=[oX true true 4 (.agg [vI x9.2.2.Node,vI x9.2.2.Row,vI x9.2.2.From,vI x9.2.2.To]),oX true true 2 (.agg [vI x13.1.N,vI x13.1.D]),oX true true 2 (.agg [vI x13.2.1.N,vI x13.2.1.D]),oR true 4 (fun x=>AV.agg [vI x.1,vI x.2.1,vI x.2.2.1,vI x.2.2.2]) x48.2]
noncomputable abbrev s8_116 (x9:(Int × Int × Tapi_Shift)) (x13:(Tapi_Q × Tapi_Q × Int)) (x48:(Int × (List (Int × Int × Int × Int)))) (a63:(Int × Int × Int × Int)):List AObj:=[oX true true 4 (.agg [vI x9.2.2.Node,vI x9.2.2.Row,vI x9.2.2.From,vI x9.2.2.To]),oX true true 2 (.agg [vI x13.1.N,vI x13.1.D]),oX true true 2 (.agg [vI x13.2.1.N,vI x13.2.1.D]),oR true 4 (fun x=>AV.agg [vI x.1,vI x.2.1,vI x.2.2.1,vI x.2.2.2]) x48.2,oX true true 4 (.agg [vI a63.1,vI a63.2.1,vI a63.2.2.1,vI a63.2.2.2])]
theorem g_law24_SensitiveKeeps_ok (p0:Tharuspexlaw24_Story) (x:Bool) (h:g_law24_SensitiveKeeps p0=some x):CallOk Try.prog 8 [.agg [.int .u8 p0.N.Grain,eL false eTharuspexref05_Piece p0.N.Nodes,eL true (AV.int .u8) p0.N.Order,.int .u8 p0.C.What,.int .u8 p0.C.At,.int .u8 p0.C.Row,vI p0.C.N,.int .u8 p0.K.Which,.int .u8 p0.K.V.1,.int .u8 p0.K.V.2.1,.int .u8 p0.K.V.2.2.1,.int .u8 p0.K.V.2.2.2.1,.int .u8 p0.K.V.2.2.2.2.1,.int .u8 p0.K.V.2.2.2.2.2.1,.int .u8 p0.K.V.2.2.2.2.2.2.1,.int .u8 p0.K.V.2.2.2.2.2.2.2,.int .u8 p0.D.V,.int .u8 p0.D.Value,.int .u8 p0.D.Node,.int .u8 p0.D.Row,.int .u8 p0.D.From,.int .u8 p0.D.To,z1 p0.Raw,vI p0.V,vI p0.Value,vI p0.S.Node,vI p0.S.Row,vI p0.S.From,vI p0.S.To]] (.ret (vB x) []):=by
 refine fn_ok [] Try.func8 rfl (by decide +kernel) rfl ?_
 unfold g_law24_SensitiveKeeps at h
 refine wp_eqB (base':=0) (st':=⟨[(0,.agg [.int .u8 p0.N.Grain,eL false eTharuspexref05_Piece p0.N.Nodes,eL true (AV.int .u8) p0.N.Order,.int .u8 p0.C.What,.int .u8 p0.C.At,.int .u8 p0.C.Row,vI p0.C.N,.int .u8 p0.K.Which,.int .u8 p0.K.V.1,.int .u8 p0.K.V.2.1,.int .u8 p0.K.V.2.2.1,.int .u8 p0.K.V.2.2.2.1,.int .u8 p0.K.V.2.2.2.2.1,.int .u8 p0.K.V.2.2.2.2.2.1,.int .u8 p0.K.V.2.2.2.2.2.2.1,.int .u8 p0.K.V.2.2.2.2.2.2.2,.int .u8 p0.D.V,.int .u8 p0.D.Value,.int .u8 p0.D.Node,.int .u8 p0.D.Row,.int .u8 p0.D.From,.int .u8 p0.D.To,z1 p0.Raw,vI p0.V,vI p0.Value,vI p0.S.Node,vI p0.S.Row,vI p0.S.From,vI p0.S.To])],[],188⟩) kr kr ?_
 refine wp_seq (reg_in ?_)
 refine sgL false [] [] false gE ?_
 refine sz 1 2 (reg_end rfl (wp_seq (wp_seq (reg_in ?_))))
 refine callW bodyB_20 (g_law24_works_ok ) h (fun x1 _ h=>?_)
 refine sz 1 2 (reg_end rfl ?_)
 refine wb [24] h (fun q4 h=>?_) (fun q4 h=>?_)
 ·refine wcT (wp_seq (wg [] [] (rn ?_)))
  refine wgc [2] [] ⟨[(2,vB false)],[],188⟩ ?_
  cases h
  exact wp_ret (show fnOut _ _ _ _=_ from by kernel_rfl)
 refine wcF (wp_skip (wp_seq (reg_in (sz 2 2 ?_))))
 refine callW bodyB_25 (g_ref05_Draft_Net_ok p0.N) h (fun x5 _ h=>?_)
 refine sgL false [] [] false gE ?_
 refine sz 1 5 (reg_end rfl (wp_seq ?_))
 refine wgc [1,3] [0,2,1] ⟨[(1,.ptr 0 0 0),(3,.ptr 1 0 0)],[oX true false 29 (.agg [.int .u8 p0.N.Grain,eL false eTharuspexref05_Piece p0.N.Nodes,eL true (AV.int .u8) p0.N.Order,.int .u8 p0.C.What,.int .u8 p0.C.At,.int .u8 p0.C.Row,vI p0.C.N,.int .u8 p0.K.Which,.int .u8 p0.K.V.1,.int .u8 p0.K.V.2.1,.int .u8 p0.K.V.2.2.1,.int .u8 p0.K.V.2.2.2.1,.int .u8 p0.K.V.2.2.2.2.1,.int .u8 p0.K.V.2.2.2.2.2.1,.int .u8 p0.K.V.2.2.2.2.2.2.1,.int .u8 p0.K.V.2.2.2.2.2.2.2,.int .u8 p0.D.V,.int .u8 p0.D.Value,.int .u8 p0.D.Node,.int .u8 p0.D.Row,.int .u8 p0.D.From,.int .u8 p0.D.To,z1 p0.Raw,vI p0.V,vI p0.Value,vI p0.S.Node,vI p0.S.Row,vI p0.S.From,vI p0.S.To]),oX false false 2 (.agg [vI x5.Grain,.ref 2 0 x5.Nodes.length]),oR false 3 eTapi_Node x5.Nodes],188⟩ ?_
 refine reg_in (sz 3 3 ?_)
 refine callR (as0:=[.agg [.int .u8 p0.K.Which,.int .u8 p0.K.V.1,.int .u8 p0.K.V.2.1,.int .u8 p0.K.V.2.2.1,.int .u8 p0.K.V.2.2.2.1,.int .u8 p0.K.V.2.2.2.2.1,.int .u8 p0.K.V.2.2.2.2.2.1,.int .u8 p0.K.V.2.2.2.2.2.2.1,.int .u8 p0.K.V.2.2.2.2.2.2.2],.agg [vI x5.Grain,.ref 2 0 x5.Nodes.length]]) (ids:=[2]) kr bodyB_26 (msnap_cons (snap_agg (msnap_cons rfl (msnap_cons rfl (msnap_cons rfl (msnap_cons rfl (msnap_cons rfl (msnap_cons rfl (msnap_cons rfl (msnap_cons rfl (msnap_cons rfl msnap_nil (by rfl)) (by rfl)) (by rfl)) (by rfl)) (by rfl)) (by rfl)) (by rfl)) (by rfl)) (by rfl))) (msnap_cons (snap_agg (msnap_cons rfl (msnap_cons (snap_full (w:=3) (bx:=false) (ro:=false) kr) msnap_nil (by rfl)) (by rfl))) msnap_nil (by rfl)) (by rfl)) (fun x7 q8=>g_ref05_Known_Of_ok (Tharuspexref05_Known.mk p0.K.Which (p0.K.V.1,p0.K.V.2.1,p0.K.V.2.2.1,p0.K.V.2.2.2.1,p0.K.V.2.2.2.2.1,p0.K.V.2.2.2.2.2.1,p0.K.V.2.2.2.2.2.2.1,p0.K.V.2.2.2.2.2.2.2)) x5 x7 q8) gF h (fun x7 q8 h=>?_)
 refine sz 1 5 (reg_end rfl (wp_seq (reg_in (sz 3 3 ?_))))
 refine callR (as0:=[.agg [.int .u8 p0.D.V,.int .u8 p0.D.Value,.int .u8 p0.D.Node,.int .u8 p0.D.Row,.int .u8 p0.D.From,.int .u8 p0.D.To],.agg [vI x5.Grain,.ref 2 0 x5.Nodes.length]]) (ids:=[2]) kr bodyB_27 (msnap_cons (snap_agg (msnap_cons rfl (msnap_cons rfl (msnap_cons rfl (msnap_cons rfl (msnap_cons rfl (msnap_cons rfl msnap_nil (by rfl)) (by rfl)) (by rfl)) (by rfl)) (by rfl)) (by rfl))) (msnap_cons (snap_agg (msnap_cons rfl (msnap_cons (snap_full (w:=3) (bx:=false) (ro:=false) kr) msnap_nil (by rfl)) (by rfl))) msnap_nil (by rfl)) (by rfl)) (fun x9 q10=>g_ref24_Draft_Of_ok p0.D x5 x9 q10) gF h (fun x9 q10 h=>?_)
 refine sz 8 12 (reg_end rfl (wp_seq (wp_seq ?_)))
 refine wgc [3,4,7,5] [1,3,4,2] ⟨[(3,.ptr 0 0 0),(4,.ref 1 0 x7.length),(7,.ptr 2 0 0),(5,vI x9.1)],[oX false false 2 (.agg [vI x5.Grain,.ref 3 0 x5.Nodes.length]),oR true 1 eI x7,oX true true 4 (.agg [vI x9.2.2.Node,vI x9.2.2.Row,vI x9.2.2.From,vI x9.2.2.To]),oR false 3 eTapi_Node x5.Nodes],188⟩ ?_
 refine rn ?_
 refine wbz h (fun q12 h=>?_) (fun q12 h=>?_)
 ·refine wp_seq (wg [] [] (rn (wg [2] [] ?_)))
  cases h
  exact wp_ret (show fnOut _ _ _ _=_ from by kernel_rfl)
 refine wp_skip (wp_seq (wg [3,4,7,5] [0,1,2,3] (reg_in (sz 4 4 ?_))))
 refine callR (as0:=[.agg [vI x5.Grain,.ref 3 0 x5.Nodes.length],.ref 1 0 x7.length,vI x9.1,.agg [vI x9.2.2.Node,vI x9.2.2.Row,vI x9.2.2.From,vI x9.2.2.To]]) (ids:=[3,1]) kr bodyB_23 (msnap_cons (snap_agg (msnap_cons rfl (msnap_cons (snap_full (w:=3) (bx:=false) (ro:=false) kr) msnap_nil (by rfl)) (by rfl))) (msnap_cons (snap_full (w:=1) (bx:=false) (ro:=false) kr) (msnap_cons rfl (msnap_cons (snap_agg (msnap_cons rfl (msnap_cons rfl (msnap_cons rfl (msnap_cons rfl msnap_nil (by rfl)) (by rfl)) (by rfl)) (by rfl))) msnap_nil (by rfl)) (by rfl)) (by rfl)) (by rfl)) (fun x13 q14=>g_sensitive_Stay_ok x5 x7 x9.1 x9.2.2 x13 q14) gF h (fun x13 q14 h=>?_)
 refine sz 9 14 (reg_end rfl (wp_seq (wp_seq ?_)))
 refine wgc [3,4,7,5,8,9,10] [0,1,2,4,5,3] ⟨[(3,.ptr 0 0 0),(4,.ref 1 0 x7.length),(7,.ptr 2 0 0),(5,vI x9.1),(8,.ptr 3 0 0),(9,.ptr 4 0 0),(10,vI x13.2.2)],(s8_11 x5 x7 x9 x13),188⟩ ?_
 refine rn ?_
 refine wb [55] h (fun q16 h=>?_) (fun q16 h=>?_)
 ·refine wcT (wp_seq (wg [3,4,10] [0,1,5] (reg_in (sz 3 3 ?_))))
  refine rb [57,58] h (fun q18 h=>?_) (fun q18 h=>?_)
  ·refine sz 2 5 ?_
   refine callR (as0:=[.agg [vI x5.Grain,.ref 2 0 x5.Nodes.length],.ref 1 0 x7.length]) (ids:=[2,1]) kr bodyB_28 (msnap_cons (snap_agg (msnap_cons rfl (msnap_cons (snap_full (w:=3) (bx:=false) (ro:=false) kr) msnap_nil (by rfl)) (by rfl))) (msnap_cons (snap_full (w:=1) (bx:=false) (ro:=false) kr) msnap_nil (by rfl)) (by rfl)) (fun x19 q20=>g_ref05_Mass_ok x5 x7 x19 q20) gF h (fun x19 q20 h=>?_)
   refine sz 3 9 (reg_end rfl ?_)
   refine wgc [2] [] ⟨[(2,vB (x19==0))],[],188⟩ ?_
   cases h
   exact wp_ret (show fnOut _ _ _ _=_ from by kernel_rfl)
  refine sz 6 9 (reg_end rfl ?_)
  refine wgc [2] [] ⟨[(2,vB false)],[],188⟩ ?_
  cases h
  exact wp_ret (show fnOut _ _ _ _=_ from by kernel_rfl)
 refine wcF (wp_skip (wp_seq (wp_seq (reg_in (sz 1 1 ?_)))))
 refine callW bodyB_29 (g_ref01_Right_ok x13.1) h (fun x21 _ h=>?_)
 refine sz 2 4 (rwg [3,4,7,5,8,9,67] [0,1,2,3,4,5] ?_)
 refine rb [67] h (fun q24 h=>?_) (fun q24 h=>?_)
 ·refine sz 14 18 (reg_end rfl (wcT (wp_seq ?_)))
  refine wgc [] [] ⟨[],[],188⟩ ?_
  refine rn (wg [2] [] ?_)
  cases h
  exact wp_ret (show fnOut _ _ _ _=_ from by kernel_rfl)
 refine sz 1 5 ?_
 refine callW bodyB_29 (g_ref01_Right_ok x13.2.1) h (fun x25 _ h=>?_)
 refine sz 3 9 ?_
 refine rw_wk (wk_gc (live:=[3,4,7,5,8,9,72]) (keep:=[0,1,2,3,4,5]) (st':=⟨[(3,.ptr 0 0 0),(4,.ref 1 0 x7.length),(7,.ptr 2 0 0),(5,vI x9.1),(8,.ptr 3 0 0),(9,.ptr 4 0 0),(72,vB (!x25))],(s8_11 x5 x7 x9 x13),188⟩) kr) ?_
 refine rb [72] h (fun q28 h=>?_) (fun q28 h=>?_)
 ·refine sz 9 18 (reg_end rfl (wcT (wp_seq (wg [] [] (rn (wg [2] [] ?_))))))
  cases h
  exact wp_ret (show fnOut _ _ _ _=_ from by kernel_rfl)
 refine sz 5 14 (rwg [3,4,7,5,8,9,77] [0,1,2,3,4,5] ?_)
 refine rb [77] h (fun q30 h=>?_) (fun q30 h=>?_)
 ·refine sz 4 18 (reg_end rfl (wcT (wp_seq (wg [] [] (rn ?_)))))
  refine wgc [2] [] ⟨[(2,vB false)],[],188⟩ ?_
  cases h
  exact wp_ret (show fnOut _ _ _ _=_ from by kernel_rfl)
 refine sz 4 18 (reg_end rfl ?_)
 refine wbz h (fun q32 h=>?_) (fun q32 h=>?_)
 ·refine wp_seq (wg [] [] (rn ?_))
  refine wgc [2] [] ⟨[(2,vB false)],[],188⟩ ?_
  cases h
  exact wp_ret (show fnOut _ _ _ _=_ from by kernel_rfl)
 refine wp_skip (wp_seq (wg [3,4,7,5,8,9] [0,1,2,3,4,5] (rn (sq (wp_seq (wp_seq (reg_in (sz 3 3 ?_))))))))
 refine bind_elim h (fun a33 q34 h=>?_)
 refine idxR' (enc:=eTapi_Node) (l:=x5.Nodes) (n:=x9.1) (w:=3) (ob:=5) (ro:=false) (nr:=true) (fl:=false) (a:=a33) kr kr gE q34 ?_
 refine sz 1 5 ?_
 refine loadR (enc:=eTapi_Node) (l:=x5.Nodes) (n:=x9.1) (w:=3) (ob:=5) (c:=0) (bx:=false) (ro:=false) (nr:=true) (fl:=false) (a:=a33) kr kr q34 gE ?_
 refine sz 1 7 (reg_end rfl (wp_block ?_))
 refine wwh h (fun s35=>⟨[(3,.ptr 0 0 0),(4,.ref 1 0 x7.length),(5,vI x9.1),(7,.ptr 2 0 0),(8,.ptr 3 0 0),(9,.ptr 4 0 0),(11,.ref 5 0 s35.2.2.length),(12,vI s35.1),(87,vI a33.Card),(88,vI s35.2.1)],[oX false false 2 (.agg [vI x5.Grain,.ref 6 0 x5.Nodes.length]),oR true 1 eI x7,oX true true 4 (.agg [vI x9.2.2.Node,vI x9.2.2.Row,vI x9.2.2.From,vI x9.2.2.To]),oX true true 2 (.agg [vI x13.1.N,vI x13.1.D]),oX true true 2 (.agg [vI x13.2.1.N,vI x13.2.1.D]),oR true 4 (fun x=>AV.agg [vI x.1,vI x.2.1,vI x.2.2.1,vI x.2.2.2]) s35.2.2,oR false 3 eTapi_Node x5.Nodes],188⟩) (fun x out=>out=match x with | .inl v=>.go (.ret) ⟨[(2,vB false)],[],188⟩ | .inr v=>.go (.exit 0) ⟨[(3,.ptr 0 0 0),(7,.ptr 1 0 0),(8,.ptr 2 0 0),(9,.ptr 3 0 0),(11,.ref 4 0 v.2.length),(12,vI v.1)],[oX false false 2 (.agg [vI x5.Grain,.ref 5 0 x5.Nodes.length]),oX true true 4 (.agg [vI x9.2.2.Node,vI x9.2.2.Row,vI x9.2.2.From,vI x9.2.2.To]),oX true true 2 (.agg [vI x13.1.N,vI x13.1.D]),oX true true 2 (.agg [vI x13.2.1.N,vI x13.2.1.D]),oR true 4 (fun x=>AV.agg [vI x.1,vI x.2.1,vI x.2.2.1,vI x.2.2.2]) v.2,oR false 3 eTapi_Node x5.Nodes],188⟩) (wk_trans (wk_gc (live:=[3,4,5,7,8,9,11,12,87,88]) (keep:=[0,1,2,3,4,5]) (st':=⟨[(3,.ptr 0 0 0),(4,.ref 1 0 x7.length),(5,vI x9.1),(7,.ptr 2 0 0),(8,.ptr 3 0 0),(9,.ptr 4 0 0),(11,.nils),(12,vI 0),(87,vI a33.Card),(88,vI 0)],(s8_11 x5 x7 x9 x13),188⟩) kr) (wk_trans (wk_nil 11 4 true true (st':=⟨[(3,.ptr 0 0 0),(4,.ref 1 0 x7.length),(5,vI x9.1),(7,.ptr 2 0 0),(8,.ptr 3 0 0),(9,.ptr 4 0 0),(11,.ref 6 0 0),(12,vI 0),(87,vI a33.Card),(88,vI 0)],[oX false false 2 (.agg [vI x5.Grain,.ref 5 0 x5.Nodes.length]),oR true 1 eI x7,oX true true 4 (.agg [vI x9.2.2.Node,vI x9.2.2.Row,vI x9.2.2.From,vI x9.2.2.To]),oX true true 2 (.agg [vI x13.1.N,vI x13.1.D]),oX true true 2 (.agg [vI x13.2.1.N,vI x13.2.1.D]),oR false 3 eTapi_Node x5.Nodes,.row false false true true 4 []],188⟩) kr) (wk_gc (live:=[3,4,5,7,8,9,11,12,87,88]) (keep:=[0,1,2,3,4,6,5]) kr))) ?_ ?_
 ·intro s35 o h
  unfold g_law24_SensitiveKeeps_b0 at h
  refine sq (wp_seq ?_)
  refine wb [89] h (fun q37 h=>?_) (fun q37 h=>?_)
  ·refine wcT (wp_skip (wp_seq (wp_block (sq (wp_seq (reg_in (sz 5 5 ?_)))))))
   refine callR (as0:=[.agg [vI x5.Grain,.ref 6 0 x5.Nodes.length],.ref 1 0 x7.length,vI x9.1,vI s35.2.1,.agg [vI x9.2.2.Node,vI x9.2.2.Row,vI x9.2.2.From,vI x9.2.2.To]]) (ids:=[6,1]) kr bodyB_12 (msnap_cons (snap_agg (msnap_cons rfl (msnap_cons (snap_full (w:=3) (bx:=false) (ro:=false) kr) msnap_nil (by rfl)) (by rfl))) (msnap_cons (snap_full (w:=1) (bx:=false) (ro:=false) kr) (msnap_cons rfl (msnap_cons rfl (msnap_cons (snap_agg (msnap_cons rfl (msnap_cons rfl (msnap_cons rfl (msnap_cons rfl msnap_nil (by rfl)) (by rfl)) (by rfl)) (by rfl))) msnap_nil (by rfl)) (by rfl)) (by rfl)) (by rfl)) (by rfl)) (fun x38 q39=>g_sensitive_Line_ok x5 x7 x9.1 s35.2.1 x9.2.2 x38 q39) gF h (fun x38 q39 h=>?_)
   refine sz 6 12 (reg_end rfl (wp_seq (wp_seq ?_)))
   refine wgc [3,4,5,7,8,9,11,12,87,88,13,14,15] [0,1,2,3,4,5,7,6] ⟨[(3,.ptr 0 0 0),(4,.ref 1 0 x7.length),(5,vI x9.1),(7,.ptr 2 0 0),(8,.ptr 3 0 0),(9,.ptr 4 0 0),(11,.ref 5 0 s35.2.2.length),(12,vI s35.1),(87,vI a33.Card),(88,vI s35.2.1),(13,vI s35.2.1),(14,.ptr 6 0 0),(15,vI x38.2)],[oX false false 2 (.agg [vI x5.Grain,.ref 7 0 x5.Nodes.length]),oR true 1 eI x7,oX true true 4 (.agg [vI x9.2.2.Node,vI x9.2.2.Row,vI x9.2.2.From,vI x9.2.2.To]),oX true true 2 (.agg [vI x13.1.N,vI x13.1.D]),oX true true 2 (.agg [vI x13.2.1.N,vI x13.2.1.D]),oR true 4 (fun x=>AV.agg [vI x.1,vI x.2.1,vI x.2.2.1,vI x.2.2.2]) s35.2.2,oX true true 4 (.agg [vI x38.1.1,vI x38.1.2.1,vI x38.1.2.2.1,vI x38.1.2.2.2]),oR false 3 eTapi_Node x5.Nodes],188⟩ ?_
   refine rn ?_
   refine wb [101] h (fun q41 h=>?_) (fun q41 h=>?_)
   ·refine wcT (wp_seq (wg [] [] (rn (wg [2] [] ?_))))
    refine wp_ret ?_
    cases h
    exact ⟨kr,rfl⟩
   refine wcF (wp_skip (wp_seq (reg_in (sz 2 2 ?_))))
   refine sgL false [] [] true gE ?_
   refine appR (enc:=(fun x=>AV.agg [vI x.1,vI x.2.1,vI x.2.2.1,vI x.2.2.2])) (l:=s35.2.2) (m:=([(x38.1.1,x38.1.2.1,x38.1.2.2.1,x38.1.2.2.2)]:(List (Int × Int × Int × Int)))) (w:=4) (bytes:=32) (ob:=5) (nr:=true) (fl:=true) (nr':=true) (fl':=true) (b:=.ref 8 0 1) (rds:=[8]) false kr kr kr rfl gE kr h (fun h=>?_)
   refine sz 1 5 (reg_end rfl (wp_seq (wg [3,4,5,7,8,9,11,12,87,88,13,14] [0,1,2,3,4,9,6,7] (rga hfol (sy 4 4 ?_)))))
   refine bind_elim h (fun a42 q43 h=>?_)
   refine idxR' (enc:=(fun x=>AV.agg [vI x.1,vI x.2.1,vI x.2.2.1,vI x.2.2.2])) (l:=(s35.2.2++([(x38.1.1,x38.1.2.1,x38.1.2.2.1,x38.1.2.2.2)]:(List (Int × Int × Int × Int))))) (n:=s35.1) (w:=4) (ob:=5) (ro:=false) (nr:=true) (fl:=true) (a:=a42) kr kr gE q43 ?_
   refine sy 1 6 ?_
   refine loadR (enc:=(fun x=>AV.agg [vI x.1,vI x.2.1,vI x.2.2.1,vI x.2.2.2])) (l:=(s35.2.2++([(x38.1.1,x38.1.2.1,x38.1.2.2.1,x38.1.2.2.2)]:(List (Int × Int × Int × Int))))) (n:=s35.1) (w:=4) (ob:=5) (c:=0) (bx:=false) (ro:=false) (nr:=true) (fl:=true) (a:=a42) kr kr q43 gE ?_
   refine sy 1 8 (rgd ?_)
   refine wbz h (fun q45 h=>?_) (fun q45 h=>?_)
   ·refine wgc [3,4,5,7,8,9,11,87,88,13] [0,1,2,3,4,5,7] ⟨[(3,.ptr 0 0 0),(4,.ref 1 0 x7.length),(5,vI x9.1),(7,.ptr 2 0 0),(8,.ptr 3 0 0),(9,.ptr 4 0 0),(11,.ref 5 0 ((s35.2.2++([(x38.1.1,x38.1.2.1,x38.1.2.2.1,x38.1.2.2.2)]:(List (Int × Int × Int × Int)))).length)),(87,vI a33.Card),(88,vI s35.2.1),(13,vI s35.2.1)],(s8_66 x5 x7 x9 x13 s35 x38),188⟩ ?_
    refine rn (rn ?_)
    cases h
    exact ⟨_,rfl,(wk_gc (live:=[3,4,5,7,8,9,11,12,87,88]) (keep:=[0,1,2,3,4,5,6]) kr)⟩
   refine wp_skip ?_
   refine wgc [3,4,5,7,8,9,11,12,87,88] [0,1,2,3,4,5,7] ⟨[(3,.ptr 0 0 0),(4,.ref 1 0 x7.length),(5,vI x9.1),(7,.ptr 2 0 0),(8,.ptr 3 0 0),(9,.ptr 4 0 0),(11,.ref 5 0 ((s35.2.2++([(x38.1.1,x38.1.2.1,x38.1.2.2.1,x38.1.2.2.2)]:(List (Int × Int × Int × Int)))).length)),(12,vI s35.1),(87,vI a33.Card),(88,vI s35.2.1)],(s8_66 x5 x7 x9 x13 s35 x38),188⟩ ?_
   refine rn ?_
   cases h
   exact ⟨_,rfl,(wk_gc (live:=[3,4,5,7,8,9,11,12,87,88]) (keep:=[0,1,2,3,4,5,6]) kr)⟩
  refine wcF (wg [3,7,8,9,11,12] [0,2,3,4,5,6] ?_)
  refine wp_exit ?_
  cases h
  exact ⟨kr,rfl⟩
 intro x46 h out hx
 subst hx
 rcases x46 with x47 | x48
 ·dsimp only at h ⊢
  cases h
  show fnOut _ _ _ _=_
  kernel_rfl
 ·dsimp only at h ⊢
  refine wp_seq (rga hfol (sy 4 4 ?_))
  refine bind_elim h (fun a49 q50 h=>?_)
  refine idxR' (enc:=eTapi_Node) (l:=x5.Nodes) (n:=x9.2.2.Node) (w:=3) (ob:=5) (ro:=false) (nr:=true) (fl:=false) (a:=a49) kr kr gE q50 ?_
  refine sy 1 6 ?_
  refine loadR (enc:=eTapi_Node) (l:=x5.Nodes) (n:=x9.2.2.Node) (w:=3) (ob:=5) (c:=2) (bx:=false) (ro:=false) (nr:=true) (fl:=false) (a:=a49) kr kr q50 gE ?_
  refine sy 2 9 ?_
  refine bind_elim h (fun a51 q52 h=>?_)
  refine idxL' (enc:=z1) (l:=a49.Rows) (n:=x9.2.2.Row) (fl:=false) (w:=1) (a:=a51) kr rfl gE q52 ?_
  refine sy 2 12 (rgd (wp_seq (wp_seq ?_)))
  refine wgc [7,8,9,11,12,16] [1,2,3,4] ⟨[(7,.ptr 0 0 0),(8,.ptr 1 0 0),(9,.ptr 2 0 0),(11,.ref 3 0 x48.2.length),(12,vI x48.1),(16,z1 a51)],(s8_89 x9 x13 x48),188⟩ ?_
  refine reg_in (sz 3 3 ?_)
  refine bind_elim h (fun a53 q54 h=>?_)
  refine idxL' (enc:=eI) (l:=a51) (n:=x9.2.2.To) (fl:=true) (w:=1) (a:=a53) kr rfl gE q54 ?_
  refine sz 3 7 (reg_end rfl (wp_block ?_))
  refine wwh h (fun s55=>⟨[(7,.ptr 0 0 0),(8,.ptr 1 0 0),(9,.ptr 2 0 0),(11,.ref 3 0 x48.2.length),(12,vI x48.1),(16,z1 a51),(17,vI s55)],(s8_89 x9 x13 x48),188⟩) (fun x out=>out=match x with | .inl v=>.go (.ret) ⟨[(2,vB false)],[],188⟩ | .inr v=>.go (.exit 2) ⟨[],[],188⟩) (wk_gc (live:=[7,8,9,11,12,16,17]) (keep:=[0,1,2,3]) kr) ?_ ?_
  ·intro s55 o h
   unfold g_law24_SensitiveKeeps_b2 at h
   refine wp_seq (wp_seq (reg_in (sz 4 4 ?_)))
   refine bind_elim h (fun a56 q57 h=>?_)
   refine idxL' (enc:=eI) (l:=a51) (n:=x9.2.2.From) (fl:=true) (w:=1) (a:=a56) kr rfl gE q57 ?_
   refine sz 2 7 (reg_end rfl ?_)
   refine wbz h (fun q59 h=>?_) (fun q59 h=>?_)
   ·refine wp_skip (wp_seq (wp_block (wp_seq (wg [7,8,9,11,12,16,17] [0,1,2,3] (rn (wp_seq (sq (wp_block ?_))))))))
    refine wwh h (fun s60=>⟨[(7,.ptr 0 0 0),(8,.ptr 1 0 0),(9,.ptr 2 0 0),(11,.ref 3 0 x48.2.length),(12,vI x48.1),(16,z1 a51),(17,vI s55),(18,vB s60.1),(142,.ref 3 0 x48.2.length),(143,vI (zn x48.2)),(144,vI s60.2)],(s8_89 x9 x13 x48),188⟩) (fun v out=>out=.go (.exit 4) ⟨[(7,.ptr 0 0 0),(8,.ptr 1 0 0),(9,.ptr 2 0 0),(11,.ref 3 0 x48.2.length),(12,vI x48.1),(16,z1 a51),(17,vI s55)]++[(18,vB v)],(s8_89 x9 x13 x48),188⟩) (wk_gc (live:=[7,8,9,11,12,16,17,18,142,143,144]) (keep:=[0,1,2,3]) kr) ?_ ?_
    ·intro s60 o h
     unfold g_law24_SensitiveKeeps_b1 at h
     refine sq (wp_seq ?_)
     refine wb [145] h (fun q62 h=>?_) (fun q62 h=>?_)
     ·refine wcT (wp_skip (wp_seq (wp_block (wp_seq (reg_in ?_)))))
      refine bind_elim h (fun a63 q64 h=>?_)
      refine idxR' (enc:=(fun x=>AV.agg [vI x.1,vI x.2.1,vI x.2.2.1,vI x.2.2.2])) (l:=x48.2) (n:=s60.2) (w:=4) (ob:=3) (ro:=false) (nr:=true) (fl:=true) (a:=a63) kr kr gE q64 ?_
      refine loadR (enc:=(fun x=>AV.agg [vI x.1,vI x.2.1,vI x.2.2.1,vI x.2.2.2])) (l:=x48.2) (n:=s60.2) (w:=4) (ob:=3) (c:=0) (bx:=false) (ro:=false) (nr:=true) (fl:=true) (a:=a63) kr kr q64 gE ?_
      refine sz 2 4 (reg_end rfl (rga hfol (sy 2 2 ?_)))
      refine rb [18,148,149] h (fun q66 h=>?_) (fun q66 h=>?_)
      ·refine sy 2 4 ?_
       refine bind_elim h (fun a67 q68 h=>?_)
       refine idxR' (enc:=(fun x=>AV.agg [vI x.1,vI x.2.1,vI x.2.2.1,vI x.2.2.2])) (l:=x48.2) (n:=x48.1) (w:=4) (ob:=3) (ro:=false) (nr:=true) (fl:=true) (a:=a67) kr kr gE q68 ?_
       refine sy 1 6 ?_
       refine loadR (enc:=(fun x=>AV.agg [vI x.1,vI x.2.1,vI x.2.2.1,vI x.2.2.2])) (l:=x48.2) (n:=x48.1) (w:=4) (ob:=3) (c:=0) (bx:=false) (ro:=false) (nr:=true) (fl:=true) (a:=a67) kr kr q68 gE ?_
       refine sy 2 9 ?_
       refine idxR' (enc:=(fun x=>AV.agg [vI x.1,vI x.2.1,vI x.2.2.1,vI x.2.2.2])) (l:=x48.2) (n:=x48.1) (w:=4) (ob:=3) (ro:=false) (nr:=true) (fl:=true) (a:=a67) kr kr gE q68 ?_
       refine sy 1 11 ?_
       refine loadR (enc:=(fun x=>AV.agg [vI x.1,vI x.2.1,vI x.2.2.1,vI x.2.2.2])) (l:=x48.2) (n:=x48.1) (w:=4) (ob:=3) (c:=1) (bx:=false) (ro:=false) (nr:=true) (fl:=true) (a:=a67) kr kr q68 gE ?_
       refine sgy 13 25 (S:=⟨[(7,.ptr 0 0 0),(8,.ptr 1 0 0),(9,.ptr 2 0 0),(11,.ref 3 0 x48.2.length),(12,vI x48.1),(16,z1 a51),(17,vI s55),(18,vB (decide ((zw (a67.1+(zw (a67.2.1*s55))))≥(zw (a63.1+(zw (a63.2.1*s55))))))),(142,.ref 3 0 x48.2.length),(143,vI (zn x48.2)),(144,vI s60.2)]++[(145,vB true),(146,.ptr 3 (zt s60.2) 0),(147,.agg [vI a63.1,vI a63.2.1,vI a63.2.2.1,vI a63.2.2.2]),(20,.ptr 4 0 0),(148,vB true),(149,vB true),(150,.ref 3 0 x48.2.length),(151,vI x48.1),(152,.ptr 3 (zt x48.1) 0),(153,.ptr 3 (zt x48.1) 0),(154,vI a67.1),(155,.ref 3 0 x48.2.length),(156,vI x48.1),(157,.ptr 3 (zt x48.1) 0),(158,.ptr 3 (zt x48.1) 1),(159,vI a67.2.1),(160,vI s55),(161,vI (zw (a67.2.1*s55))),(162,vI (zw (a67.1+(zw (a67.2.1*s55))))),(163,.ptr 4 0 0),(164,vI a63.1),(165,.ptr 4 0 1),(166,vI a63.2.1),(167,vI s55),(168,vI (zw (a63.2.1*s55))),(169,vI (zw (a63.1+(zw (a63.2.1*s55))))),(170,vB (decide ((zw (a67.1+(zw (a67.2.1*s55))))≥(zw (a63.1+(zw (a63.2.1*s55))))))),(171,vB (decide ((zw (a67.1+(zw (a67.2.1*s55))))≥(zw (a63.1+(zw (a63.2.1*s55)))))))],(s8_116 x9 x13 x48 a63),188⟩) ?_
       refine rgd (wg [7,8,9,11,12,16,17,18,142,143,144] [0,1,2,3] (rn ?_))
       cases h
       exact ⟨_,rfl,(wk_gc (live:=[7,8,9,11,12,16,17,18,142,143,144]) (keep:=[0,1,2,3]) kr)⟩
      refine sgy 23 25 (S:=⟨[(7,.ptr 0 0 0),(8,.ptr 1 0 0),(9,.ptr 2 0 0),(11,.ref 3 0 x48.2.length),(12,vI x48.1),(16,z1 a51),(17,vI s55),(18,vB false),(142,.ref 3 0 x48.2.length),(143,vI (zn x48.2)),(144,vI s60.2)]++[(145,vB true),(146,.ptr 3 (zt s60.2) 0),(147,.agg [vI a63.1,vI a63.2.1,vI a63.2.2.1,vI a63.2.2.2]),(20,.ptr 4 0 0),(148,vB false),(149,vB false),(150,.tup []),(151,.tup []),(152,.tup []),(153,.tup []),(154,.tup []),(155,.tup []),(156,.tup []),(157,.tup []),(158,.tup []),(159,.tup []),(160,.tup []),(161,.tup []),(162,.tup []),(163,.tup []),(164,.tup []),(165,.tup []),(166,.tup []),(167,.tup []),(168,.tup []),(169,.tup []),(170,.tup []),(171,vB false)],(s8_116 x9 x13 x48 a63),188⟩) ?_
      refine rgd (wg [7,8,9,11,12,16,17,18,142,143,144] [0,1,2,3] (rn ?_))
      cases h
      exact ⟨_,rfl,(wk_gc (live:=[7,8,9,11,12,16,17,18,142,143,144]) (keep:=[0,1,2,3]) kr)⟩
     refine wcF (wg [7,8,9,11,12,16,17,18] [0,1,2,3] ?_)
     refine wp_exit ?_
     cases h
     exact ⟨kr,rfl⟩
    intro x70 h out hx
    subst hx
    refine sq (wp_seq (reg_in (sz 2 2 ?_)))
    refine callW bodyB_30 (g_ref01_Cmp_ok (Tapi_Q.mk s55 1) x13.1) h (fun x71 _ h=>?_)
    refine sz 2 5 (rwg [7,8,9,11,12,16,17,18,21,179] [0,1,2,3,4] ?_)
    refine rb [179] h (fun q74 h=>?_) (fun q74 h=>?_)
    ·refine sz 2 7 ?_
     refine callW bodyB_30 (g_ref01_Cmp_ok (Tapi_Q.mk s55 1) x13.2.1) h (fun x75 _ h=>?_)
     refine sz 3 11 (reg_end rfl (wp_seq ?_))
     refine wgc [7,8,9,11,12,16,17,18,22] [0,1,2,3] ⟨[(7,.ptr 0 0 0),(8,.ptr 1 0 0),(9,.ptr 2 0 0),(11,.ref 3 0 x48.2.length),(12,vI x48.1),(16,z1 a51),(17,vI s55),(18,vB x70),(22,vB (decide (x75≤0)))],(s8_89 x9 x13 x48),188⟩ ?_
     refine rn ?_
     refine wbz h (fun q78 h=>?_) (fun q78 h=>?_)
     ·refine wp_seq (wg [] [] (rn (wg [2] [] ?_)))
      refine wp_ret ?_
      cases h
      exact ⟨kr,rfl⟩
     refine wp_skip (wg [7,8,9,11,12,16,17] [0,1,2,3] (rn ?_))
     cases h
     exact ⟨_,rfl,(wk_gc (live:=[7,8,9,11,12,16,17]) (keep:=[0,1,2,3]) kr)⟩
    refine sz 6 11 (reg_end rfl (wp_seq ?_))
    refine wgc [7,8,9,11,12,16,17,18,22] [0,1,2,3] ⟨[(7,.ptr 0 0 0),(8,.ptr 1 0 0),(9,.ptr 2 0 0),(11,.ref 3 0 x48.2.length),(12,vI x48.1),(16,z1 a51),(17,vI s55),(18,vB x70),(22,vB false)],(s8_89 x9 x13 x48),188⟩ ?_
    refine rn ?_
    refine wbz h (fun q80 h=>?_) (fun q80 h=>?_)
    ·refine wp_seq (wg [] [] (rn (wg [2] [] ?_)))
     refine wp_ret ?_
     cases h
     exact ⟨kr,rfl⟩
    refine wp_skip (wg [7,8,9,11,12,16,17] [0,1,2,3] (rn ?_))
    cases h
    exact ⟨_,rfl,(wk_gc (live:=[7,8,9,11,12,16,17]) (keep:=[0,1,2,3]) kr)⟩
   refine wg [] [] ?_
   refine wp_exit ?_
   cases h
   exact ⟨kr,rfl⟩
  intro x81 h out hx
  subst hx
  rcases x81 with x82 | x83
  ·dsimp only at h ⊢
   cases h
   show fnOut _ _ _ _=_
   kernel_rfl
  ·dsimp only at h ⊢
   refine sq (wg [2] [] ?_)
   cases h
   exact wp_ret (show fnOut _ _ _ _=_ from by kernel_rfl)
end Go.Ab
namespace Go.Ab
open Go
theorem whileN_spec {σ ρ:Type} {body:σ→Option (Step σ ρ)} (I:σ→Prop) (m:σ→Nat) (Q:ρ→Prop)
  (step:∀s,I s→(∃s',body s=some (.next s')∧I s'∧m s' < m s)∨(∃r,body s=some (.done r)∧Q r)) :
  ∀(n:Nat) (s:σ),I s→m s < n→∃r,whileN n body s=some r∧Q r
 | 0,s,_,h=>by omega
 | n+1,s,hI,h=>by
  unfold whileN
  rcases step s hI with ⟨s',h1,h2,h3⟩ | ⟨r,h1,h2⟩
  ·rw [h1]
   exact whileN_spec I m Q step n s' h2 (by omega)
  ·rw [h1]
   exact ⟨r,rfl,h2⟩
theorem whileN_eq {σ ρ:Type} {body:σ→Option (Step σ ρ)} (I:σ→Prop) (m:σ→Nat) (r:ρ)
  (step:∀s,I s→(∃s',body s=some (.next s')∧I s'∧m s' < m s)∨body s=some (.done r)) (s:σ) (hI:I s) (hm:m s < 1152921504606846976):whileN fuel body s=some r:=by
 obtain ⟨r',h1,h2⟩:=whileN_spec I m (fun x=>x=r) (fun s hs=>(step s hs).imp id fun h=>⟨r,h,rfl⟩) fuel s hI hm
 rw [h1,h2]
theorem whileN_ex {σ ρ:Type} {body:σ→Option (Step σ ρ)} (I:σ→Prop) (m:σ→Nat) (Q:ρ→Prop)
  (step:∀s,I s→(∃s',body s=some (.next s')∧I s'∧m s' < m s)∨(∃r,body s=some (.done r)∧Q r)) (s:σ) (hI:I s) (hm:m s < 1152921504606846976):∃r,whileN fuel body s=some r∧Q r :=
 whileN_spec I m Q step fuel s hI hm
theorem whileN_count {σ ρ:Type} {body:σ→Option (Step σ ρ)} (f:Nat → σ) (n:Nat) (r:ρ) (step:∀k,k < n→body (f k)=some (.next (f (k+1)))) (done:body (f n)=some (.done r)) (hn:n < 1152921504606846976) :
  whileN fuel body (f 0)=some r:=by
 have key:∀(j N k:Nat),k+j=n→j < N→whileN N body (f k)=some r:=by
  intro j
  induction j with
  | zero =>
   intro N k hk hN
   obtain ⟨N,rfl⟩:∃M,N=M+1:=⟨N - 1,by omega⟩
   have:k=n:=by omega
   subst this
   simp [whileN,done]
  | succ j ih =>
   intro N k hk hN
   obtain ⟨N,rfl⟩:∃M,N=M+1:=⟨N - 1,by omega⟩
   simp only [whileN,step k (by omega)]
   exact ih N (k+1) (by omega) (by omega)
 exact key n fuel 0 (by omega) hn
theorem whileN_run {σ ρ:Type} {body:σ→Option (Step σ ρ)} {s0:σ} (f:Nat → σ) (n:Nat) (r:ρ) (h0:f 0=s0) (step:∀k,k < n→body (f k)=some (.next (f (k+1)))) (done:body (f n)=some (.done r)) (hn:n < 1152921504606846976) :
  whileN fuel body s0=some r:=by rw [←h0]; exact whileN_count f n r step done hn
theorem w64 {n:Int} (h:-9223372036854775808≤n∧n≤9223372036854775807):IntKind.i64.wrap n=n:=by rw [IntKind.wrap_i64]; omega
theorem lkI_nat {α:Type} {l:List α} {k:Nat} (h:k < l.length):lkI l (k:Int)=some l[k]:=by
 unfold lkI
 rw [if_neg (by omega),Int.toNat_natCast,List.getElem?_eq_getElem h]
theorem tdiv_pos {a b:Int} (h:0≤a):Int.tdiv a b=a / b:=Int.tdiv_eq_ediv_of_nonneg h
theorem tmod_pos {a b:Int} (h:0≤a):Int.tmod a b=a % b:=Int.tmod_eq_emod_of_nonneg h
def dgs (n:Nat):List Int:=if h:n=0 then [] else ((n % 10000:Nat):Int)::dgs (n / 10000)
termination_by n
decreasing_by omega
def dval:List Int→Nat
 | []=>0
 | x::l=>x.toNat + 10000*dval l
def isdg (l:List Int):Prop:=∀x∈l,0≤x∧x < 10000
theorem dgs_zero:dgs 0=[]:=by rw [dgs]; simp
theorem dgs_pos {n:Nat} (h:n≠0):dgs n=((n % 10000:Nat):Int)::dgs (n / 10000):=by rw [dgs]; simp [h]
theorem dval_dgs (n:Nat):dval (dgs n)=n:=by
 induction n using Nat.strongRecOn with
 | _ n ih =>
  by_cases h:n=0
  ·subst h; rw [dgs_zero]; rfl
  ·rw [dgs_pos h]
   simp only [dval]
   rw [ih (n / 10000) (by omega)]
   omega
theorem isdg_dgs (n:Nat):isdg (dgs n):=by
 induction n using Nat.strongRecOn with
 | _ n ih =>
  by_cases h:n=0
  ·subst h; rw [dgs_zero]; intro x hx; cases hx
  ·rw [dgs_pos h]
   intro x hx
   rcases List.mem_cons.1 hx with rfl | hx
   ·omega
   ·exact ih (n / 10000) (by omega) x hx
theorem dgs_eq_nil {n:Nat}:dgs n=[]↔n=0:=by
 constructor
 ·intro h
  have:=dval_dgs n
  rw [h] at this; exact this.symm
 ·intro h; subst h; exact dgs_zero
theorem isdg_cons {x:Int} {l:List Int}:isdg (x::l)↔(0≤x∧x < 10000)∧isdg l:=by simp [isdg]
theorem isdg_nil:isdg []:=fun x h=>by cases h
theorem isdg_append {a b:List Int}:isdg (a++b)↔isdg a∧isdg b:=by
 constructor
 ·exact fun h=>⟨fun x hx=>h x (List.mem_append_left _ hx),fun x hx=>h x (List.mem_append_right _ hx)⟩
 ·rintro ⟨h1,h2⟩ x hx
  rcases List.mem_append.1 hx with h | h
  ·exact h1 x h
  ·exact h2 x h
theorem dval_append (a b:List Int):dval (a++b)=dval a+10000^a.length*dval b:=by
 induction a with
 | nil=>simp [dval]
 | cons x a ih =>
  simp only [List.cons_append,dval,ih,List.length_cons,Nat.pow_succ]
  rw [Nat.mul_add,Nat.add_assoc,←Nat.mul_assoc,Nat.mul_comm 10000 (10000^a.length)]
theorem dval_lt {l:List Int} (h:isdg l):dval l < 10000^l.length:=by
 induction l with
 | nil=>simp [dval]
 | cons x l ih =>
  rw [isdg_cons] at h
  have:=ih h.2
  simp only [dval,List.length_cons,Nat.pow_succ]
  omega
def nolz (l:List Int):Prop:=l.getLast?≠some 0
theorem dgs_of {l:List Int} (h:isdg l) (hn:nolz l):dgs (dval l)=l:=by
 induction l with
 | nil=>exact dgs_zero
 | cons x l ih =>
  rw [isdg_cons] at h
  have hn':nolz l:=by
   unfold nolz at *
   cases l with
   | nil=>simp
   | cons y l=>simpa [List.getLast?_cons_cons] using hn
  have hne:dval (x::l)≠0:=by
   simp only [dval]
   intro h0
   have hx:x=0:=by omega
   have hl:dval l=0:=by omega
   have:=ih h.2 hn'
   rw [hl,dgs_zero] at this
   subst this
   subst hx
   simp [nolz] at hn
  rw [dgs_pos hne]
  simp only [dval] at *
  rw [show (x.toNat + 10000*dval l) / 10000=dval l by omega,ih h.2 hn']
  congr 1
  omega
theorem nolz_dgs (n:Nat):nolz (dgs n):=by
 induction n using Nat.strongRecOn with
 | _ n ih =>
  by_cases h:n=0
  ·subst h; rw [dgs_zero]; simp [nolz]
  ·rw [dgs_pos h]
   have:=ih (n / 10000) (by omega)
   unfold nolz at *
   cases hd:dgs (n / 10000) with
   | nil =>
    rw [dgs_eq_nil] at hd
    intro h1
    simp only [List.getLast?_singleton,Option.some.injEq] at h1
    omega
   | cons y l =>
    rw [hd] at this
    simpa [List.getLast?_cons_cons] using this
theorem dgs_length_le {n K:Nat} (h:n < 10000^K):(dgs n).length≤K:=by
 induction K generalizing n with
 | zero=>simp at h; subst h; rw [dgs_zero]; simp
 | succ K ih =>
  by_cases h0:n=0
  ·subst h0; rw [dgs_zero]; simp
  ·rw [dgs_pos h0]
   simp only [List.length_cons]
   have:=ih (n:=n / 10000) (by rw [Nat.pow_succ] at h; omega)
   omega
theorem lt_dgs (n:Nat):n < 10000^(dgs n).length:=by
 have:=dval_lt (isdg_dgs n)
 rwa [dval_dgs] at this
theorem dgs_le {n:Nat} (h:n≠0):10000^((dgs n).length - 1)≤n:=by
 induction n using Nat.strongRecOn with
 | _ n ih =>
  rw [dgs_pos h]
  simp only [List.length_cons,Nat.add_sub_cancel]
  by_cases h0:n / 10000=0
  ·rw [h0,dgs_zero]; simp; omega
  ·have h1:=ih (n / 10000) (by omega) h0
   have:(dgs (n / 10000)).length≠0:=by rw [Ne,List.length_eq_zero_iff,dgs_eq_nil]; exact h0
   obtain ⟨k,hk⟩:∃k,(dgs (n / 10000)).length=k+1:=⟨(dgs (n / 10000)).length - 1,by omega⟩
   rw [hk] at h1 ⊢
   simp only [Nat.add_sub_cancel] at h1
   rw [Nat.pow_succ]
   omega
theorem isdg_get {l:List Int} (h:isdg l) {k:Nat} (hk:k < l.length):0≤l[k]∧l[k] < 10000:=h _ (List.getElem_mem hk)
theorem dval_take_succ {l:List Int} {k:Nat} (hk:k < l.length):dval (l.take (k+1))=dval (l.take k)+10000^k*l[k].toNat := by
 rw [List.take_succ_eq_append_getElem hk,dval_append]
 simp [dval,Nat.min_eq_left (Nat.le_of_lt hk)]
theorem dval_drop {l:List Int} {k:Nat} (hk:k < l.length):dval (l.drop k)=l[k].toNat + 10000*dval (l.drop (k+1)):=by
 rw [List.drop_eq_getElem_cons hk]; rfl
theorem isdg_take {l:List Int} (h:isdg l) (k:Nat):isdg (l.take k):=fun x hx=>h x (List.mem_of_mem_take hx)
theorem isdg_drop {l:List Int} (h:isdg l) (k:Nat):isdg (l.drop k):=fun x hx=>h x (List.mem_of_mem_drop hx)
end Go.Ab
namespace Go.Ab
open Go
def rowG {α:Type} (n:Nat) (F:Nat → α):List α:=(List.range n).map F
theorem rowG_len {α:Type} {n:Nat} {F:Nat → α}:(rowG n F).length=n:=by simp [rowG]
theorem rowG_get {α:Type} {n:Nat} {F:Nat → α} {k:Nat} (h:k < n):lkI (rowG n F) (k:Int)=some (F k):=by
 rw [lkI_nat (by rw [rowG_len]; exact h)]; simp [rowG]
theorem rowG_congr {α:Type} {n:Nat} {F G:Nat → α} (h:∀k,k < n→F k=G k):rowG n F=rowG n G:=by
 unfold rowG
 apply List.map_congr_left
 intro t ht
 exact h t (by simpa using ht)
theorem rowG_set {α:Type} {n:Nat} {F:Nat → α} {k:Nat} {x:α}:(rowG n F).set k x=rowG n (fun s=>if s=k then x else F s):=by
 apply List.ext_getElem?
 intro s
 rw [List.getElem?_set]
 simp only [rowG,List.getElem?_map,List.length_map,List.length_range]
 by_cases e:k=s
 ·subst e
  rw [if_pos rfl]
  by_cases hk:k < n
  ·rw [if_pos hk,List.getElem?_range hk]; simp
  ·rw [if_neg hk,List.getElem?_eq_none (by simpa using hk)]; rfl
 ·rw [if_neg e]
  by_cases hs:s < n
  ·rw [List.getElem?_range hs]; simp only [Option.map_some]; rw [if_neg (Ne.symm e)]
  ·rw [List.getElem?_eq_none (by simpa using hs)]; rfl
theorem rowG_rep {α:Type} (n:Nat) (x:α):List.replicate n x=rowG n (fun _=>x):=by
 apply List.ext_getElem?
 intro s
 rw [List.getElem?_replicate]
 by_cases hs:s < n
 ·rw [if_pos hs]; simp [rowG,List.getElem?_range hs]
 ·rw [if_neg hs,List.getElem?_eq_none (by rw [rowG_len]; omega)]
theorem rowG_succ {α:Type} {n:Nat} {F:Nat → α}:rowG n F++[F n]=rowG (n+1) F:=by
 unfold rowG; rw [List.range_succ]; simp
def upd {α:Type} (w:Nat → α) (i:Nat) (x:α):Nat → α:=fun s=>if s=i then x else w s
theorem upd_same {α:Type} {w:Nat → α} {i:Nat} {x:α}:upd w i x i=x:=by simp [upd]
theorem upd_ne {α:Type} {w:Nat → α} {i j:Nat} {x:α} (h:j≠i):upd w i x j=w j:=by simp [upd,h]
def sumI:Nat → (Nat → Int)→Int
 | 0,_=>0
 | n+1,f=>sumI n f+f n
theorem sumI_congr {n:Nat} {f g:Nat → Int} (h:∀k,k < n→f k=g k):sumI n f=sumI n g:=by
 induction n with
 | zero=>rfl
 | succ n ih=>simp only [sumI]; rw [ih (fun k hk=>h k (by omega)),h n (by omega)]
theorem sumI_add {n:Nat} {f g:Nat → Int}:sumI n (fun k=>f k+g k)=sumI n f+sumI n g:=by
 induction n with
 | zero=>rfl
 | succ n ih=>simp only [sumI,ih]; omega
theorem sumI_zero {n:Nat}:sumI n (fun _=>0)=0:=by
 induction n with
 | zero=>rfl
 | succ n ih=>simp only [sumI,ih]; rfl
theorem sumI_nonneg {n:Nat} {f:Nat → Int} (h:∀k,k < n→0≤f k):0≤sumI n f:=by
 induction n with
 | zero=>exact Int.le_refl 0
 | succ n ih=>simp only [sumI]; have:=ih (fun k hk=>h k (by omega)); have:=h n (by omega); omega
theorem sumI_le {n:Nat} {f g:Nat → Int} (h:∀k,k < n→f k≤g k):sumI n f≤sumI n g:=by
 induction n with
 | zero=>exact Int.le_refl 0
 | succ n ih=>simp only [sumI]; have:=ih (fun k hk=>h k (by omega)); have:=h n (by omega); omega
theorem sumI_one {n k:Nat} {c:Int} (h:k < n):sumI n (fun x=>if k=x then c else 0)=c:=by
 induction n with
 | zero=>omega
 | succ n ih =>
  simp only [sumI]
  by_cases e:k=n
  ·subst e
   rw [if_pos rfl,sumI_congr (g:=fun _=>0) (fun x hx=>if_neg (by omega)),sumI_zero]; omega
  ·rw [if_neg e,ih (by omega)]; omega
theorem sumI_split {a b:Nat} {f:Nat → Int}:sumI (a+b) f=sumI a f+sumI b (fun k=>f (a+k)):=by
 induction b with
 | zero=>simp [sumI]
 | succ b ih=>rw [←Nat.add_assoc]; simp only [sumI,ih]; omega
theorem sumI_block {a b:Nat} {f:Nat → Int}:sumI (a*b) f=sumI a (fun x=>sumI b (fun y=>f (x*b+y))):=by
 induction a with
 | zero=>simp [sumI]
 | succ a ih=>rw [Nat.succ_mul,sumI_split,ih]; simp only [sumI]
def prodTo:Nat → (Nat → Nat)→Nat
 | 0,_=>1
 | n+1,f=>prodTo n f*f n
theorem prodTo_congr {n:Nat} {f g:Nat → Nat} (h:∀k,k < n→f k=g k):prodTo n f=prodTo n g:=by
 induction n with
 | zero=>rfl
 | succ n ih=>simp only [prodTo]; rw [ih (fun k hk=>h k (by omega)),h n (by omega)]
theorem prodTo_le {n K:Nat} {f:Nat → Nat} (h:∀k,k < n→f k≤K):prodTo n f≤K^n:=by
 induction n with
 | zero=>simp [prodTo]
 | succ n ih=>simp only [prodTo,Nat.pow_succ]; exact Nat.mul_le_mul (ih fun k hk=>h k (by omega)) (h n (by omega))
theorem prodTo_apart {n j:Nat} {f:Nat → Nat} (h:j < n):prodTo n (fun v=>if v=j then 1 else f v)*f j=prodTo n f:=by
 induction n with
 | zero=>omega
 | succ n ih =>
  simp only [prodTo]
  by_cases e:n=j
  ·subst e
   rw [if_pos rfl,Nat.mul_one,prodTo_congr (g:=f) (fun k hk=>if_neg (by omega))]
  ·rw [if_neg e,←ih (by omega),Nat.mul_assoc,Nat.mul_comm (f n),←Nat.mul_assoc]
end Go.Ab
