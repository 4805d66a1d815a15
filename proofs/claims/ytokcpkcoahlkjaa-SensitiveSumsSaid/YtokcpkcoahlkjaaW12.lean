/- What functions compute. No conditions. -/
import Derived.Test.YtokcpkcoahlkjaaProg
import Derived.Test.YtokcpkcoahlkjaaW8
import Derived.KernelRfl
import Derived.Test.YtokcpkcoahlkjaaW10
import Derived.Test.YtokcpkcoahlkjaaW9
import Derived.Test.YtokcpkcoahlkjaaW11
import Derived.IntWalk
set_option linter.all false
namespace Go.Ab
open Go Go.Proofs
set_option maxRecDepth 100000
set_option maxHeartbeats 4000000
theorem g_ref05_Known_Of_ok (p0:Tharuspexref05_Known) (p1:Tapi_Net) (x:(List Int)) (h:g_ref05_Known_Of p0 p1=some x):CallOk Try.prog 26 [.agg [.int .u8 p0.Which,.int .u8 p0.V.1,.int .u8 p0.V.2.1,.int .u8 p0.V.2.2.1,.int .u8 p0.V.2.2.2.1,.int .u8 p0.V.2.2.2.2.1,.int .u8 p0.V.2.2.2.2.2.1,.int .u8 p0.V.2.2.2.2.2.2.1,.int .u8 p0.V.2.2.2.2.2.2.2],.agg [vI p1.Grain,eL false eTapi_Node p1.Nodes]] (.ret (.ref 0 0 x.length) [oR true 1 eI x]):=by
 refine fn_ok [] Try.func26 rfl (by decide +kernel) rfl ?_
 unfold g_ref05_Known_Of at h
 refine wp_eqB (base':=0) (st':=⟨[(0,.agg [.int .u8 p0.Which,.int .u8 p0.V.1,.int .u8 p0.V.2.1,.int .u8 p0.V.2.2.1,.int .u8 p0.V.2.2.2.1,.int .u8 p0.V.2.2.2.2.1,.int .u8 p0.V.2.2.2.2.2.1,.int .u8 p0.V.2.2.2.2.2.2.1,.int .u8 p0.V.2.2.2.2.2.2.2]),(1,.agg [vI p1.Grain,eL false eTapi_Node p1.Nodes])],[],39⟩) kr kr ?_
 refine wp_seq (reg_in (sz 1 1 ?_))
 refine sgL false [] [] false gE ?_
 refine sz 1 3 (reg_end rfl (sq (wp_seq (sq (wp_block ?_)))))
 refine wwh h (fun s1=>⟨[(2,.ptr 0 0 0),(3,.ptr 1 0 0),(5,.ref 2 0 s1.2.length),(6,vI s1.1)],[oX true true 9 (.agg [.int .u8 p0.Which,.int .u8 p0.V.1,.int .u8 p0.V.2.1,.int .u8 p0.V.2.2.1,.int .u8 p0.V.2.2.2.1,.int .u8 p0.V.2.2.2.2.1,.int .u8 p0.V.2.2.2.2.2.1,.int .u8 p0.V.2.2.2.2.2.2.1,.int .u8 p0.V.2.2.2.2.2.2.2]),oX true false 2 (.agg [vI p1.Grain,eL false eTapi_Node p1.Nodes]),oR true 1 eI s1.2],39⟩) (fun v out=>out=.go (.exit 0) ⟨[(5,.ref 0 0 v.length)],[oR true 1 eI v],39⟩) (wk_trans (wk_gc (live:=[2,3,5,6]) (keep:=[0,1]) (st':=⟨[(2,.ptr 0 0 0),(3,.ptr 1 0 0),(5,.nils),(6,vI 0)],[oX true true 9 (.agg [.int .u8 p0.Which,.int .u8 p0.V.1,.int .u8 p0.V.2.1,.int .u8 p0.V.2.2.1,.int .u8 p0.V.2.2.2.1,.int .u8 p0.V.2.2.2.2.1,.int .u8 p0.V.2.2.2.2.2.1,.int .u8 p0.V.2.2.2.2.2.2.1,.int .u8 p0.V.2.2.2.2.2.2.2]),oX true false 2 (.agg [vI p1.Grain,eL false eTapi_Node p1.Nodes])],39⟩) kr) (wk_trans (wk_nil 5 1 true true (st':=⟨[(2,.ptr 0 0 0),(3,.ptr 1 0 0),(5,.ref 2 0 0),(6,vI 0)],[oX true true 9 (.agg [.int .u8 p0.Which,.int .u8 p0.V.1,.int .u8 p0.V.2.1,.int .u8 p0.V.2.2.1,.int .u8 p0.V.2.2.2.1,.int .u8 p0.V.2.2.2.2.1,.int .u8 p0.V.2.2.2.2.2.1,.int .u8 p0.V.2.2.2.2.2.2.1,.int .u8 p0.V.2.2.2.2.2.2.2]),oX true false 2 (.agg [vI p1.Grain,eL false eTapi_Node p1.Nodes]),.row false false true true 1 []],39⟩) kr) (wk_gc (live:=[2,3,5,6]) (keep:=[0,1,2]) kr))) ?_ ?_
 ·intro s1 o h
  unfold g_ref05_Known_Of_b0 at h
  refine wp_seq (wp_seq (reg_in (sz 3 3 ?_)))
  refine lenL (enc:=eTapi_Node) (l:=p1.Nodes) (fl:=false) kr gE ?_
  refine sz 1 5 (reg_end rfl ?_)
  refine wbz h (fun q3 h=>?_) (fun q3 h=>?_)
  ·refine wp_skip (wp_seq (wp_block (wp_seq (wg [2,3,5,6] [0,1,2] (rn (wp_seq (wp_seq (reg_in (sz 4 4 ?_)))))))))
   refine shrR (k:=.u8) (k':=.u64) (a:=p0.Which) (b:=zv (s1.1)) kr gE h (fun h=>?_)
   refine sz 2 7 (reg_end rfl ?_)
   refine wbz h (fun q5 h=>?_) (fun q5 h=>?_)
   ·refine wgc [2,3,5,6] [0,1,2] ⟨[(2,.ptr 0 0 0),(3,.ptr 1 0 0),(5,.ref 2 0 s1.2.length),(6,vI s1.1)],[oX true true 9 (.agg [.int .u8 p0.Which,.int .u8 p0.V.1,.int .u8 p0.V.2.1,.int .u8 p0.V.2.2.1,.int .u8 p0.V.2.2.2.1,.int .u8 p0.V.2.2.2.2.1,.int .u8 p0.V.2.2.2.2.2.1,.int .u8 p0.V.2.2.2.2.2.2.1,.int .u8 p0.V.2.2.2.2.2.2.2]),oX true false 2 (.agg [vI p1.Grain,eL false eTapi_Node p1.Nodes]),oR true 1 eI s1.2],39⟩ ?_
    refine rga hfol (sy 2 2 ?_)
    refine reqI (n:=s1.1) (m:=0) (S:=fun n6=>⟨[(2,.ptr 0 0 0),(3,.ptr 1 0 0),(5,.ref 2 0 s1.2.length),(6,vI n6),(22,vI n6),(23,.ptr 0 0 1)],[oX true true 9 (.agg [.int .u8 p0.Which,.int .u8 p0.V.1,.int .u8 p0.V.2.1,.int .u8 p0.V.2.2.1,.int .u8 p0.V.2.2.2.1,.int .u8 p0.V.2.2.2.2.1,.int .u8 p0.V.2.2.2.2.2.1,.int .u8 p0.V.2.2.2.2.2.2.1,.int .u8 p0.V.2.2.2.2.2.2.2]),oX true false 2 (.agg [vI p1.Grain,eL false eTapi_Node p1.Nodes]),oR true 1 eI s1.2],39⟩) h (fun _ h=>?_) (fun _ h=>?_)
    ·refine sy 6 8 ?_
     refine bind_elim h (fun a7 q8 h=>?_)
     refine idxL' (enc:=eTapi_Node) (l:=p1.Nodes) (n:=0) (fl:=false) (w:=3) (a:=a7) kr rfl gE q8 ?_
     refine sy 2 11 ?_
     refine remR (k:=.i64) (a:=zw (p0.V.1)) (b:=a7.Card) kr gE h (fun h=>?_)
     refine sy 1 13 (rgd (wg [2,3,5,6,7] [0,1,2] (reg_in (sz 2 2 ?_))))
     refine sgL false [] [] true gE ?_
     refine appR (enc:=eI) (l:=s1.2) (m:=([Int.tmod (zw (p0.V.1)) a7.Card]:(List Int))) (w:=1) (bytes:=8) (ob:=2) (nr:=true) (fl:=true) (nr':=true) (fl':=true) (b:=.ref 3 0 1) (rds:=[3]) false kr kr kr rfl gE kr h (fun h=>?_)
     refine sz 1 5 (reg_end rfl ?_)
     refine wgc [2,3,5,6] [0,1,4] ⟨[(2,.ptr 0 0 0),(3,.ptr 1 0 0),(5,.ref 2 0 ((s1.2++([Int.tmod (zw (p0.V.1)) a7.Card]:(List Int))).length)),(6,vI 0)],[oX true true 9 (.agg [.int .u8 p0.Which,.int .u8 p0.V.1,.int .u8 p0.V.2.1,.int .u8 p0.V.2.2.1,.int .u8 p0.V.2.2.2.1,.int .u8 p0.V.2.2.2.2.1,.int .u8 p0.V.2.2.2.2.2.1,.int .u8 p0.V.2.2.2.2.2.2.1,.int .u8 p0.V.2.2.2.2.2.2.2]),oX true false 2 (.agg [vI p1.Grain,eL false eTapi_Node p1.Nodes]),oR true 1 eI (s1.2++([Int.tmod (zw (p0.V.1)) a7.Card]:(List Int)))],39⟩ ?_
     refine rn ?_
     cases h
     exact ⟨_,rfl,(wk_gc (live:=[2,3,5,6]) (keep:=[0,1,2]) kr)⟩
    refine reqI (n:=s1.1) (m:=1) (S:=fun n9=>⟨[(2,.ptr 0 0 0),(3,.ptr 1 0 0),(5,.ref 2 0 s1.2.length),(6,vI n9),(22,vI n9),(23,.ptr 0 0 1)],[oX true true 9 (.agg [.int .u8 p0.Which,.int .u8 p0.V.1,.int .u8 p0.V.2.1,.int .u8 p0.V.2.2.1,.int .u8 p0.V.2.2.2.1,.int .u8 p0.V.2.2.2.2.1,.int .u8 p0.V.2.2.2.2.2.1,.int .u8 p0.V.2.2.2.2.2.2.1,.int .u8 p0.V.2.2.2.2.2.2.2]),oX true false 2 (.agg [vI p1.Grain,eL false eTapi_Node p1.Nodes]),oR true 1 eI s1.2],39⟩) h (fun _ h=>?_) (fun _ h=>?_)
    ·refine sy 6 8 ?_
     refine bind_elim h (fun a10 q11 h=>?_)
     refine idxL' (enc:=eTapi_Node) (l:=p1.Nodes) (n:=1) (fl:=false) (w:=3) (a:=a10) kr rfl gE q11 ?_
     refine sy 2 11 ?_
     refine remR (k:=.i64) (a:=zw (p0.V.2.1)) (b:=a10.Card) kr gE h (fun h=>?_)
     refine sy 1 13 (rgd (wg [2,3,5,6,7] [0,1,2] (reg_in (sz 2 2 ?_))))
     refine sgL false [] [] true gE ?_
     refine appR (enc:=eI) (l:=s1.2) (m:=([Int.tmod (zw (p0.V.2.1)) a10.Card]:(List Int))) (w:=1) (bytes:=8) (ob:=2) (nr:=true) (fl:=true) (nr':=true) (fl':=true) (b:=.ref 3 0 1) (rds:=[3]) false kr kr kr rfl gE kr h (fun h=>?_)
     refine sz 1 5 (reg_end rfl ?_)
     refine wgc [2,3,5,6] [0,1,4] ⟨[(2,.ptr 0 0 0),(3,.ptr 1 0 0),(5,.ref 2 0 ((s1.2++([Int.tmod (zw (p0.V.2.1)) a10.Card]:(List Int))).length)),(6,vI 1)],[oX true true 9 (.agg [.int .u8 p0.Which,.int .u8 p0.V.1,.int .u8 p0.V.2.1,.int .u8 p0.V.2.2.1,.int .u8 p0.V.2.2.2.1,.int .u8 p0.V.2.2.2.2.1,.int .u8 p0.V.2.2.2.2.2.1,.int .u8 p0.V.2.2.2.2.2.2.1,.int .u8 p0.V.2.2.2.2.2.2.2]),oX true false 2 (.agg [vI p1.Grain,eL false eTapi_Node p1.Nodes]),oR true 1 eI (s1.2++([Int.tmod (zw (p0.V.2.1)) a10.Card]:(List Int)))],39⟩ ?_
     refine rn ?_
     cases h
     exact ⟨_,rfl,(wk_gc (live:=[2,3,5,6]) (keep:=[0,1,2]) kr)⟩
    refine reqI (n:=s1.1) (m:=2) (S:=fun n12=>⟨[(2,.ptr 0 0 0),(3,.ptr 1 0 0),(5,.ref 2 0 s1.2.length),(6,vI n12),(22,vI n12),(23,.ptr 0 0 1)],[oX true true 9 (.agg [.int .u8 p0.Which,.int .u8 p0.V.1,.int .u8 p0.V.2.1,.int .u8 p0.V.2.2.1,.int .u8 p0.V.2.2.2.1,.int .u8 p0.V.2.2.2.2.1,.int .u8 p0.V.2.2.2.2.2.1,.int .u8 p0.V.2.2.2.2.2.2.1,.int .u8 p0.V.2.2.2.2.2.2.2]),oX true false 2 (.agg [vI p1.Grain,eL false eTapi_Node p1.Nodes]),oR true 1 eI s1.2],39⟩) h (fun _ h=>?_) (fun _ h=>?_)
    ·refine sy 6 8 ?_
     refine bind_elim h (fun a13 q14 h=>?_)
     refine idxL' (enc:=eTapi_Node) (l:=p1.Nodes) (n:=2) (fl:=false) (w:=3) (a:=a13) kr rfl gE q14 ?_
     refine sy 2 11 ?_
     refine remR (k:=.i64) (a:=zw (p0.V.2.2.1)) (b:=a13.Card) kr gE h (fun h=>?_)
     refine sy 1 13 (rgd (wg [2,3,5,6,7] [0,1,2] (reg_in (sz 2 2 ?_))))
     refine sgL false [] [] true gE ?_
     refine appR (enc:=eI) (l:=s1.2) (m:=([Int.tmod (zw (p0.V.2.2.1)) a13.Card]:(List Int))) (w:=1) (bytes:=8) (ob:=2) (nr:=true) (fl:=true) (nr':=true) (fl':=true) (b:=.ref 3 0 1) (rds:=[3]) false kr kr kr rfl gE kr h (fun h=>?_)
     refine sz 1 5 (reg_end rfl ?_)
     refine wgc [2,3,5,6] [0,1,4] ⟨[(2,.ptr 0 0 0),(3,.ptr 1 0 0),(5,.ref 2 0 ((s1.2++([Int.tmod (zw (p0.V.2.2.1)) a13.Card]:(List Int))).length)),(6,vI 2)],[oX true true 9 (.agg [.int .u8 p0.Which,.int .u8 p0.V.1,.int .u8 p0.V.2.1,.int .u8 p0.V.2.2.1,.int .u8 p0.V.2.2.2.1,.int .u8 p0.V.2.2.2.2.1,.int .u8 p0.V.2.2.2.2.2.1,.int .u8 p0.V.2.2.2.2.2.2.1,.int .u8 p0.V.2.2.2.2.2.2.2]),oX true false 2 (.agg [vI p1.Grain,eL false eTapi_Node p1.Nodes]),oR true 1 eI (s1.2++([Int.tmod (zw (p0.V.2.2.1)) a13.Card]:(List Int)))],39⟩ ?_
     refine rn ?_
     cases h
     exact ⟨_,rfl,(wk_gc (live:=[2,3,5,6]) (keep:=[0,1,2]) kr)⟩
    refine reqI (n:=s1.1) (m:=3) (S:=fun n15=>⟨[(2,.ptr 0 0 0),(3,.ptr 1 0 0),(5,.ref 2 0 s1.2.length),(6,vI n15),(22,vI n15),(23,.ptr 0 0 1)],[oX true true 9 (.agg [.int .u8 p0.Which,.int .u8 p0.V.1,.int .u8 p0.V.2.1,.int .u8 p0.V.2.2.1,.int .u8 p0.V.2.2.2.1,.int .u8 p0.V.2.2.2.2.1,.int .u8 p0.V.2.2.2.2.2.1,.int .u8 p0.V.2.2.2.2.2.2.1,.int .u8 p0.V.2.2.2.2.2.2.2]),oX true false 2 (.agg [vI p1.Grain,eL false eTapi_Node p1.Nodes]),oR true 1 eI s1.2],39⟩) h (fun _ h=>?_) (fun _ h=>?_)
    ·refine sy 6 8 ?_
     refine bind_elim h (fun a16 q17 h=>?_)
     refine idxL' (enc:=eTapi_Node) (l:=p1.Nodes) (n:=3) (fl:=false) (w:=3) (a:=a16) kr rfl gE q17 ?_
     refine sy 2 11 ?_
     refine remR (k:=.i64) (a:=zw (p0.V.2.2.2.1)) (b:=a16.Card) kr gE h (fun h=>?_)
     refine sy 1 13 (rgd (wg [2,3,5,6,7] [0,1,2] (reg_in (sz 2 2 ?_))))
     refine sgL false [] [] true gE ?_
     refine appR (enc:=eI) (l:=s1.2) (m:=([Int.tmod (zw (p0.V.2.2.2.1)) a16.Card]:(List Int))) (w:=1) (bytes:=8) (ob:=2) (nr:=true) (fl:=true) (nr':=true) (fl':=true) (b:=.ref 3 0 1) (rds:=[3]) false kr kr kr rfl gE kr h (fun h=>?_)
     refine sz 1 5 (reg_end rfl ?_)
     refine wgc [2,3,5,6] [0,1,4] ⟨[(2,.ptr 0 0 0),(3,.ptr 1 0 0),(5,.ref 2 0 ((s1.2++([Int.tmod (zw (p0.V.2.2.2.1)) a16.Card]:(List Int))).length)),(6,vI 3)],[oX true true 9 (.agg [.int .u8 p0.Which,.int .u8 p0.V.1,.int .u8 p0.V.2.1,.int .u8 p0.V.2.2.1,.int .u8 p0.V.2.2.2.1,.int .u8 p0.V.2.2.2.2.1,.int .u8 p0.V.2.2.2.2.2.1,.int .u8 p0.V.2.2.2.2.2.2.1,.int .u8 p0.V.2.2.2.2.2.2.2]),oX true false 2 (.agg [vI p1.Grain,eL false eTapi_Node p1.Nodes]),oR true 1 eI (s1.2++([Int.tmod (zw (p0.V.2.2.2.1)) a16.Card]:(List Int)))],39⟩ ?_
     refine rn ?_
     cases h
     exact ⟨_,rfl,(wk_gc (live:=[2,3,5,6]) (keep:=[0,1,2]) kr)⟩
    refine reqI (n:=s1.1) (m:=4) (S:=fun n18=>⟨[(2,.ptr 0 0 0),(3,.ptr 1 0 0),(5,.ref 2 0 s1.2.length),(6,vI n18),(22,vI n18),(23,.ptr 0 0 1)],[oX true true 9 (.agg [.int .u8 p0.Which,.int .u8 p0.V.1,.int .u8 p0.V.2.1,.int .u8 p0.V.2.2.1,.int .u8 p0.V.2.2.2.1,.int .u8 p0.V.2.2.2.2.1,.int .u8 p0.V.2.2.2.2.2.1,.int .u8 p0.V.2.2.2.2.2.2.1,.int .u8 p0.V.2.2.2.2.2.2.2]),oX true false 2 (.agg [vI p1.Grain,eL false eTapi_Node p1.Nodes]),oR true 1 eI s1.2],39⟩) h (fun _ h=>?_) (fun _ h=>?_)
    ·refine sy 6 8 ?_
     refine bind_elim h (fun a19 q20 h=>?_)
     refine idxL' (enc:=eTapi_Node) (l:=p1.Nodes) (n:=4) (fl:=false) (w:=3) (a:=a19) kr rfl gE q20 ?_
     refine sy 2 11 ?_
     refine remR (k:=.i64) (a:=zw (p0.V.2.2.2.2.1)) (b:=a19.Card) kr gE h (fun h=>?_)
     refine sy 1 13 (rgd (wg [2,3,5,6,7] [0,1,2] (reg_in (sz 2 2 ?_))))
     refine sgL false [] [] true gE ?_
     refine appR (enc:=eI) (l:=s1.2) (m:=([Int.tmod (zw (p0.V.2.2.2.2.1)) a19.Card]:(List Int))) (w:=1) (bytes:=8) (ob:=2) (nr:=true) (fl:=true) (nr':=true) (fl':=true) (b:=.ref 3 0 1) (rds:=[3]) false kr kr kr rfl gE kr h (fun h=>?_)
     refine sz 1 5 (reg_end rfl ?_)
     refine wgc [2,3,5,6] [0,1,4] ⟨[(2,.ptr 0 0 0),(3,.ptr 1 0 0),(5,.ref 2 0 ((s1.2++([Int.tmod (zw (p0.V.2.2.2.2.1)) a19.Card]:(List Int))).length)),(6,vI 4)],[oX true true 9 (.agg [.int .u8 p0.Which,.int .u8 p0.V.1,.int .u8 p0.V.2.1,.int .u8 p0.V.2.2.1,.int .u8 p0.V.2.2.2.1,.int .u8 p0.V.2.2.2.2.1,.int .u8 p0.V.2.2.2.2.2.1,.int .u8 p0.V.2.2.2.2.2.2.1,.int .u8 p0.V.2.2.2.2.2.2.2]),oX true false 2 (.agg [vI p1.Grain,eL false eTapi_Node p1.Nodes]),oR true 1 eI (s1.2++([Int.tmod (zw (p0.V.2.2.2.2.1)) a19.Card]:(List Int)))],39⟩ ?_
     refine rn ?_
     cases h
     exact ⟨_,rfl,(wk_gc (live:=[2,3,5,6]) (keep:=[0,1,2]) kr)⟩
    refine reqI (n:=s1.1) (m:=5) (S:=fun n21=>⟨[(2,.ptr 0 0 0),(3,.ptr 1 0 0),(5,.ref 2 0 s1.2.length),(6,vI n21),(22,vI n21),(23,.ptr 0 0 1)],[oX true true 9 (.agg [.int .u8 p0.Which,.int .u8 p0.V.1,.int .u8 p0.V.2.1,.int .u8 p0.V.2.2.1,.int .u8 p0.V.2.2.2.1,.int .u8 p0.V.2.2.2.2.1,.int .u8 p0.V.2.2.2.2.2.1,.int .u8 p0.V.2.2.2.2.2.2.1,.int .u8 p0.V.2.2.2.2.2.2.2]),oX true false 2 (.agg [vI p1.Grain,eL false eTapi_Node p1.Nodes]),oR true 1 eI s1.2],39⟩) h (fun _ h=>?_) (fun _ h=>?_)
    ·refine sy 6 8 ?_
     refine bind_elim h (fun a22 q23 h=>?_)
     refine idxL' (enc:=eTapi_Node) (l:=p1.Nodes) (n:=5) (fl:=false) (w:=3) (a:=a22) kr rfl gE q23 ?_
     refine sy 2 11 ?_
     refine remR (k:=.i64) (a:=zw (p0.V.2.2.2.2.2.1)) (b:=a22.Card) kr gE h (fun h=>?_)
     refine sy 1 13 (rgd (wg [2,3,5,6,7] [0,1,2] (reg_in (sz 2 2 ?_))))
     refine sgL false [] [] true gE ?_
     refine appR (enc:=eI) (l:=s1.2) (m:=([Int.tmod (zw (p0.V.2.2.2.2.2.1)) a22.Card]:(List Int))) (w:=1) (bytes:=8) (ob:=2) (nr:=true) (fl:=true) (nr':=true) (fl':=true) (b:=.ref 3 0 1) (rds:=[3]) false kr kr kr rfl gE kr h (fun h=>?_)
     refine sz 1 5 (reg_end rfl ?_)
     refine wgc [2,3,5,6] [0,1,4] ⟨[(2,.ptr 0 0 0),(3,.ptr 1 0 0),(5,.ref 2 0 ((s1.2++([Int.tmod (zw (p0.V.2.2.2.2.2.1)) a22.Card]:(List Int))).length)),(6,vI 5)],[oX true true 9 (.agg [.int .u8 p0.Which,.int .u8 p0.V.1,.int .u8 p0.V.2.1,.int .u8 p0.V.2.2.1,.int .u8 p0.V.2.2.2.1,.int .u8 p0.V.2.2.2.2.1,.int .u8 p0.V.2.2.2.2.2.1,.int .u8 p0.V.2.2.2.2.2.2.1,.int .u8 p0.V.2.2.2.2.2.2.2]),oX true false 2 (.agg [vI p1.Grain,eL false eTapi_Node p1.Nodes]),oR true 1 eI (s1.2++([Int.tmod (zw (p0.V.2.2.2.2.2.1)) a22.Card]:(List Int)))],39⟩ ?_
     refine rn ?_
     cases h
     exact ⟨_,rfl,(wk_gc (live:=[2,3,5,6]) (keep:=[0,1,2]) kr)⟩
    refine reqI (n:=s1.1) (m:=6) (S:=fun n24=>⟨[(2,.ptr 0 0 0),(3,.ptr 1 0 0),(5,.ref 2 0 s1.2.length),(6,vI n24),(22,vI n24),(23,.ptr 0 0 1)],[oX true true 9 (.agg [.int .u8 p0.Which,.int .u8 p0.V.1,.int .u8 p0.V.2.1,.int .u8 p0.V.2.2.1,.int .u8 p0.V.2.2.2.1,.int .u8 p0.V.2.2.2.2.1,.int .u8 p0.V.2.2.2.2.2.1,.int .u8 p0.V.2.2.2.2.2.2.1,.int .u8 p0.V.2.2.2.2.2.2.2]),oX true false 2 (.agg [vI p1.Grain,eL false eTapi_Node p1.Nodes]),oR true 1 eI s1.2],39⟩) h (fun _ h=>?_) (fun _ h=>?_)
    ·refine sy 6 8 ?_
     refine bind_elim h (fun a25 q26 h=>?_)
     refine idxL' (enc:=eTapi_Node) (l:=p1.Nodes) (n:=6) (fl:=false) (w:=3) (a:=a25) kr rfl gE q26 ?_
     refine sy 2 11 ?_
     refine remR (k:=.i64) (a:=zw (p0.V.2.2.2.2.2.2.1)) (b:=a25.Card) kr gE h (fun h=>?_)
     refine sy 1 13 (rgd (wg [2,3,5,6,7] [0,1,2] (reg_in (sz 2 2 ?_))))
     refine sgL false [] [] true gE ?_
     refine appR (enc:=eI) (l:=s1.2) (m:=([Int.tmod (zw (p0.V.2.2.2.2.2.2.1)) a25.Card]:(List Int))) (w:=1) (bytes:=8) (ob:=2) (nr:=true) (fl:=true) (nr':=true) (fl':=true) (b:=.ref 3 0 1) (rds:=[3]) false kr kr kr rfl gE kr h (fun h=>?_)
     refine sz 1 5 (reg_end rfl ?_)
     refine wgc [2,3,5,6] [0,1,4] ⟨[(2,.ptr 0 0 0),(3,.ptr 1 0 0),(5,.ref 2 0 ((s1.2++([Int.tmod (zw (p0.V.2.2.2.2.2.2.1)) a25.Card]:(List Int))).length)),(6,vI 6)],[oX true true 9 (.agg [.int .u8 p0.Which,.int .u8 p0.V.1,.int .u8 p0.V.2.1,.int .u8 p0.V.2.2.1,.int .u8 p0.V.2.2.2.1,.int .u8 p0.V.2.2.2.2.1,.int .u8 p0.V.2.2.2.2.2.1,.int .u8 p0.V.2.2.2.2.2.2.1,.int .u8 p0.V.2.2.2.2.2.2.2]),oX true false 2 (.agg [vI p1.Grain,eL false eTapi_Node p1.Nodes]),oR true 1 eI (s1.2++([Int.tmod (zw (p0.V.2.2.2.2.2.2.1)) a25.Card]:(List Int)))],39⟩ ?_
     refine rn ?_
     cases h
     exact ⟨_,rfl,(wk_gc (live:=[2,3,5,6]) (keep:=[0,1,2]) kr)⟩
    refine reqI (n:=s1.1) (m:=7) (S:=fun n27=>⟨[(2,.ptr 0 0 0),(3,.ptr 1 0 0),(5,.ref 2 0 s1.2.length),(6,vI n27),(22,vI n27),(23,.ptr 0 0 1)],[oX true true 9 (.agg [.int .u8 p0.Which,.int .u8 p0.V.1,.int .u8 p0.V.2.1,.int .u8 p0.V.2.2.1,.int .u8 p0.V.2.2.2.1,.int .u8 p0.V.2.2.2.2.1,.int .u8 p0.V.2.2.2.2.2.1,.int .u8 p0.V.2.2.2.2.2.2.1,.int .u8 p0.V.2.2.2.2.2.2.2]),oX true false 2 (.agg [vI p1.Grain,eL false eTapi_Node p1.Nodes]),oR true 1 eI s1.2],39⟩) h (fun _ h=>?_) (fun _ h=>?_)
    ·refine sy 6 8 ?_
     refine bind_elim h (fun a28 q29 h=>?_)
     refine idxL' (enc:=eTapi_Node) (l:=p1.Nodes) (n:=7) (fl:=false) (w:=3) (a:=a28) kr rfl gE q29 ?_
     refine sy 2 11 ?_
     refine remR (k:=.i64) (a:=zw (p0.V.2.2.2.2.2.2.2)) (b:=a28.Card) kr gE h (fun h=>?_)
     refine sy 1 13 (rgd (wg [2,3,5,6,7] [0,1,2] (reg_in (sz 2 2 ?_))))
     refine sgL false [] [] true gE ?_
     refine appR (enc:=eI) (l:=s1.2) (m:=([Int.tmod (zw (p0.V.2.2.2.2.2.2.2)) a28.Card]:(List Int))) (w:=1) (bytes:=8) (ob:=2) (nr:=true) (fl:=true) (nr':=true) (fl':=true) (b:=.ref 3 0 1) (rds:=[3]) false kr kr kr rfl gE kr h (fun h=>?_)
     refine sz 1 5 (reg_end rfl ?_)
     refine wgc [2,3,5,6] [0,1,4] ⟨[(2,.ptr 0 0 0),(3,.ptr 1 0 0),(5,.ref 2 0 ((s1.2++([Int.tmod (zw (p0.V.2.2.2.2.2.2.2)) a28.Card]:(List Int))).length)),(6,vI 7)],[oX true true 9 (.agg [.int .u8 p0.Which,.int .u8 p0.V.1,.int .u8 p0.V.2.1,.int .u8 p0.V.2.2.1,.int .u8 p0.V.2.2.2.1,.int .u8 p0.V.2.2.2.2.1,.int .u8 p0.V.2.2.2.2.2.1,.int .u8 p0.V.2.2.2.2.2.2.1,.int .u8 p0.V.2.2.2.2.2.2.2]),oX true false 2 (.agg [vI p1.Grain,eL false eTapi_Node p1.Nodes]),oR true 1 eI (s1.2++([Int.tmod (zw (p0.V.2.2.2.2.2.2.2)) a28.Card]:(List Int)))],39⟩ ?_
     refine rn ?_
     cases h
     exact ⟨_,rfl,(wk_gc (live:=[2,3,5,6]) (keep:=[0,1,2]) kr)⟩
    cases h
   refine wp_skip ?_
   refine wgc [2,3,5,6,7] [0,1,2] ⟨[(2,.ptr 0 0 0),(3,.ptr 1 0 0),(5,.ref 2 0 s1.2.length),(6,vI s1.1),(7,vI (-1))],[oX true true 9 (.agg [.int .u8 p0.Which,.int .u8 p0.V.1,.int .u8 p0.V.2.1,.int .u8 p0.V.2.2.1,.int .u8 p0.V.2.2.2.1,.int .u8 p0.V.2.2.2.2.1,.int .u8 p0.V.2.2.2.2.2.1,.int .u8 p0.V.2.2.2.2.2.2.1,.int .u8 p0.V.2.2.2.2.2.2.2]),oX true false 2 (.agg [vI p1.Grain,eL false eTapi_Node p1.Nodes]),oR true 1 eI s1.2],39⟩ ?_
   refine reg_in (sz 2 2 ?_)
   refine sgL false [] [] true gE ?_
   refine appR (enc:=eI) (l:=s1.2) (m:=([-1]:(List Int))) (w:=1) (bytes:=8) (ob:=2) (nr:=true) (fl:=true) (nr':=true) (fl':=true) (b:=.ref 3 0 1) (rds:=[3]) false kr kr kr rfl gE kr h (fun h=>?_)
   refine sz 1 5 (reg_end rfl (wg [2,3,5,6] [0,1,4] (rn ?_)))
   cases h
   exact ⟨_,rfl,(wk_gc (live:=[2,3,5,6]) (keep:=[0,1,2]) kr)⟩
  refine wg [5] [2] ?_
  refine wp_exit ?_
  cases h
  exact ⟨kr,rfl⟩
 intro x31 h out hx
 subst hx
 refine sq (wg [4] [0] ?_)
 cases h
 exact wp_ret (show fnOut _ _ _ _=_ from by kernel_rfl)
theorem g_ref24_Draft_Of_ok (p0:Tharuspexref24_Draft) (p1:Tapi_Net) (x:(Int × Int × Tapi_Shift)) (h:g_ref24_Draft_Of p0 p1=some x):CallOk Try.prog 27 [.agg [.int .u8 p0.V,.int .u8 p0.Value,.int .u8 p0.Node,.int .u8 p0.Row,.int .u8 p0.From,.int .u8 p0.To],.agg [vI p1.Grain,eL false eTapi_Node p1.Nodes]] (.ret (.tup [vI x.1,vI x.2.1,.agg [vI x.2.2.Node,vI x.2.2.Row,vI x.2.2.From,vI x.2.2.To]]) []):=by
 refine fn_ok [] Try.func27 rfl (by decide +kernel) rfl ?_
 unfold g_ref24_Draft_Of at h
 refine wp_eqB (base':=0) (st':=⟨[(0,.agg [.int .u8 p0.V,.int .u8 p0.Value,.int .u8 p0.Node,.int .u8 p0.Row,.int .u8 p0.From,.int .u8 p0.To]),(1,.agg [vI p1.Grain,eL false eTapi_Node p1.Nodes])],[],74⟩) kr kr ?_
 refine wp_seq (reg_in (sz 1 1 ?_))
 refine sgL false [] [] false gE ?_
 refine sz 3 5 (reg_end rfl (wp_seq (reg_in (sz 5 5 ?_))))
 refine lenL (enc:=eTapi_Node) (l:=p1.Nodes) (fl:=false) kr gE ?_
 refine remR (k:=.i64) (a:=zw (p0.V)) (b:=(zn p1.Nodes)) kr gE h (fun h=>?_)
 refine sz 1 8 (reg_end rfl (wp_seq ?_))
 refine wgc [2,3,6,7] [0,1,2] ⟨[(2,.ptr 0 0 0),(3,.ptr 1 0 0),(6,.ptr 2 0 0),(7,vI (Int.tmod (zw (p0.V)) (zn p1.Nodes)))],[oX true true 6 (.agg [.int .u8 p0.V,.int .u8 p0.Value,.int .u8 p0.Node,.int .u8 p0.Row,.int .u8 p0.From,.int .u8 p0.To]),oX true false 2 (.agg [vI p1.Grain,eL false eTapi_Node p1.Nodes]),oX true true 4 (.agg [vI 0,vI 0,vI 0,vI 0])],74⟩ ?_
 refine reg_in (sz 5 5 ?_)
 refine lenL (enc:=eTapi_Node) (l:=p1.Nodes) (fl:=false) kr gE ?_
 refine remR (k:=.i64) (a:=zw (p0.Node)) (b:=(zn p1.Nodes)) kr gE h (fun h=>?_)
 refine sz 3 10 (reg_end rfl (wp_seq (wg [2,3,6,7,8] [0,1,2,3] (reg_in (sz 4 4 ?_)))))
 refine bind_elim h (fun a1 q2 h=>?_)
 refine idxL' (enc:=eTapi_Node) (l:=p1.Nodes) (n:=Int.tmod (zw (p0.Node)) (zn p1.Nodes)) (fl:=false) (w:=3) (a:=a1) kr rfl gE q2 ?_
 refine sz 1 6 ?_
 refine sgL false [] [] false gE ?_
 refine sz 1 8 (reg_end rfl (wp_seq ?_))
 refine wgc [2,3,6,7,8,9] [0,1,2,3,4] ⟨[(2,.ptr 0 0 0),(3,.ptr 1 0 0),(6,.ptr 2 0 0),(7,vI (Int.tmod (zw (p0.V)) (zn p1.Nodes))),(8,.ptr 3 0 0),(9,.ptr 4 0 0)],[oX true true 6 (.agg [.int .u8 p0.V,.int .u8 p0.Value,.int .u8 p0.Node,.int .u8 p0.Row,.int .u8 p0.From,.int .u8 p0.To]),oX true false 2 (.agg [vI p1.Grain,eL false eTapi_Node p1.Nodes]),oX true true 4 (.agg [vI 0,vI 0,vI 0,vI 0]),oX true true 4 (.agg [vI (Int.tmod (zw (p0.Node)) (zn p1.Nodes)),vI 0,vI 0,vI 0]),oX true false 3 (.agg [vI a1.Card,z1 a1.Parents,z2 a1.Rows])],74⟩ ?_
 refine rga hfol (sy 5 5 ?_)
 refine lenL (enc:=z1) (l:=a1.Rows) (fl:=false) kr gE ?_
 refine remR (k:=.i64) (a:=zw (p0.Row)) (b:=(zn a1.Rows)) kr gE h (fun h=>?_)
 refine sy 5 12 ?_
 refine remR (k:=.i64) (a:=zw (p0.From)) (b:=a1.Card) kr gE h (fun h=>?_)
 refine sy 4 17 (rgd (wp_seq ?_))
 refine wgc [2,3,6,7,8,9] [0,1,2,3,4] ⟨[(2,.ptr 0 0 0),(3,.ptr 1 0 0),(6,.ptr 2 0 0),(7,vI (Int.tmod (zw (p0.V)) (zn p1.Nodes))),(8,.ptr 3 0 0),(9,.ptr 4 0 0)],[oX true true 6 (.agg [.int .u8 p0.V,.int .u8 p0.Value,.int .u8 p0.Node,.int .u8 p0.Row,.int .u8 p0.From,.int .u8 p0.To]),oX true false 2 (.agg [vI p1.Grain,eL false eTapi_Node p1.Nodes]),oX true true 4 (.agg [vI 0,vI 0,vI 0,vI 0]),oX true true 4 (.agg [vI (Int.tmod (zw (p0.Node)) (zn p1.Nodes)),vI (Int.tmod (zw (p0.Row)) (zn a1.Rows)),vI (Int.tmod (zw (p0.From)) a1.Card),vI 0]),oX true false 3 (.agg [vI a1.Card,z1 a1.Parents,z2 a1.Rows])],74⟩ ?_
 refine rga hfol (sy 10 10 ?_)
 refine remR (k:=.i64) (a:=zw (p0.To)) (b:=(if (zw (a1.Card - 1)) > 1 then (zw (a1.Card - 1)) else 1)) kr gE h (fun h=>?_)
 refine sy 3 14 ?_
 refine remR (k:=.i64) (a:=zw ((zw ((Int.tmod (zw (p0.From)) a1.Card)+1))+(Int.tmod (zw (p0.To)) (if (zw (a1.Card - 1)) > 1 then (zw (a1.Card - 1)) else 1)))) (b:=a1.Card) kr gE h (fun h=>?_)
 refine sy 2 17 (rgd (wp_seq ?_))
 refine wgc [2,3,6,7,8] [0,1,2,3] ⟨[(2,.ptr 0 0 0),(3,.ptr 1 0 0),(6,.ptr 2 0 0),(7,vI (Int.tmod (zw (p0.V)) (zn p1.Nodes))),(8,.ptr 3 0 0)],[oX true true 6 (.agg [.int .u8 p0.V,.int .u8 p0.Value,.int .u8 p0.Node,.int .u8 p0.Row,.int .u8 p0.From,.int .u8 p0.To]),oX true false 2 (.agg [vI p1.Grain,eL false eTapi_Node p1.Nodes]),oX true true 4 (.agg [vI 0,vI 0,vI 0,vI 0]),oX true true 4 (.agg [vI (Int.tmod (zw (p0.Node)) (zn p1.Nodes)),vI (Int.tmod (zw (p0.Row)) (zn a1.Rows)),vI (Int.tmod (zw (p0.From)) a1.Card),vI (Int.tmod (zw ((zw ((Int.tmod (zw (p0.From)) a1.Card)+1))+(Int.tmod (zw (p0.To)) (if (zw (a1.Card - 1)) > 1 then (zw (a1.Card - 1)) else 1)))) a1.Card)])],74⟩ ?_
 refine rga hfol (sy 7 7 ?_)
 refine bind_elim h (fun a3 q4 h=>?_)
 refine idxL' (enc:=eTapi_Node) (l:=p1.Nodes) (n:=Int.tmod (zw (p0.V)) (zn p1.Nodes)) (fl:=false) (w:=3) (a:=a3) kr rfl gE q4 ?_
 refine sy 2 10 ?_
 refine remR (k:=.i64) (a:=zw (p0.Value)) (b:=a3.Card) kr gE h (fun h=>?_)
 refine sy 4 15 (rgd (wg [4,5,6] [2] ?_))
 cases h
 exact wp_ret (show fnOut _ _ _ _=_ from by kernel_rfl)
theorem g_ref05_Worlds_ok (p0:Tapi_Net) (x:Int) (h:g_ref05_Worlds p0=some x):CallOk Try.prog 40 [.agg [vI p0.Grain,eL false eTapi_Node p0.Nodes]] (.ret (vI x) []):=by
 refine fn_ok [] Try.func40 rfl (by decide +kernel) rfl ?_
 unfold g_ref05_Worlds at h
 refine wp_eqB (base':=0) (st':=⟨[(0,.agg [vI p0.Grain,eL false eTapi_Node p0.Nodes])],[],6⟩) kr kr ?_
 refine wp_seq (reg_in ?_)
 refine sgL false [] [] false gE ?_
 refine sz 1 2 (reg_end rfl (wp_seq (reg_in (sz 1 1 ?_))))
 refine callW bodyB_78 (g_ref05_Cards_ok p0) h (fun x1 _ h=>?_)
 refine callR (as0:=[.ref 1 0 x1.length]) (ids:=[1]) kr bodyB_62 (msnap_cons (snap_full (w:=1) (bx:=false) (ro:=false) kr) msnap_nil (by rfl)) (fun x3 q4=>g_ref02_Size_ok x1 x3 q4) gF h (fun x3 q4 h=>?_)
 refine sz 1 4 (reg_end rfl (wg [2] [] ?_))
 cases h
 exact wp_ret (show fnOut _ _ _ _=_ from by kernel_rfl)
theorem g_ref02_Values_ok (p0:(List Int)) (p1:Int) (x:(List Int)) (h:g_ref02_Values p0 p1=some x):CallOk Try.prog 79 [z1 p0,vI p1] (.ret (.ref 0 0 x.length) [oR true 1 eI x]):=by
 refine fn_ok [] Try.func79 rfl (by decide +kernel) rfl ?_
 unfold g_ref02_Values at h
 refine wp_eqB (base':=0) (st':=⟨[(0,z1 p0),(1,vI p1)],[],33⟩) kr kr ?_
 refine sq (wp_seq (reg_in (sz 1 1 ?_)))
 refine lenL (enc:=eI) (l:=p0) (fl:=true) kr gE ?_
 refine mkL (enc:=eI) (z:=(0:Int)) (z0:=vI 0) (n:=(zn p0)) (m:=(zn p0)) (w:=1) (bytes:=8) [] true kr rfl gE kr h (fun h=>?_)
 refine sz 1 4 (reg_end rfl (wp_seq (wp_seq (reg_in (sz 1 1 ?_)))))
 refine lenL (enc:=eI) (l:=p0) (fl:=true) kr gE ?_
 refine sz 2 4 (reg_end rfl (wp_block ?_))
 refine wwh h (fun s1=>⟨[(0,z1 p0),(1,vI s1.1),(5,.ref 0 0 s1.2.2.length),(6,vI s1.2.1)],[oR true 1 eI s1.2.2],33⟩) (fun v out=>out=.go (.exit 0) ⟨[(5,.ref 0 0 v.length)],[oR true 1 eI v],33⟩) (wk_gc (live:=[0,1,5,6]) (keep:=[0]) kr) ?_ ?_
 ·intro s1 o h
  unfold g_ref02_Values_b0 at h
  refine wp_seq (sq ?_)
  refine wb [14] h (fun q3 h=>?_) (fun q3 h=>?_)
  ·refine wcT (wp_skip (wp_seq (wp_block (wp_seq (reg_in (sz 5 5 ?_))))))
   refine bind_elim h (fun a4 q5 h=>?_)
   refine idxL' (enc:=eI) (l:=p0) (n:=s1.2.1) (fl:=true) (w:=1) (a:=a4) kr rfl gE q5 ?_
   refine sz 1 7 ?_
   refine remR (k:=.i64) (a:=s1.1) (b:=a4) kr gE h (fun h=>?_)
   refine bind_elim h (fun a6 q7 h=>?_)
   refine idxR' (enc:=eI) (l:=s1.2.2) (n:=s1.2.1) (w:=1) (ob:=0) (ro:=false) (nr:=true) (fl:=true) (a:=a6) kr kr gE q7 ?_
   refine storeR (enc:=eI) (l:=s1.2.2) (n:=s1.2.1) (ob:=0) (w:=1) (bx:=false) (nr:=true) (fl:=true) (c:=0) (a:=a6) (a':=Int.tmod s1.1 a4) (v:=vI (Int.tmod s1.1 a4)) false kr kr q7 kr rfl kr gE kr ?_
   refine rl [5,17] (n:=s1.2.2.length) (m:=(List.set s1.2.2 (zt s1.2.1) (Int.tmod s1.1 a4)).length) (by simp only [List.length_set]) ?_
   refine reg_end rfl ?_
   refine wgc [0,1,5,6] [0] ⟨[(0,z1 p0),(1,vI s1.1),(5,.ref 0 0 ((List.set s1.2.2 (zt s1.2.1) (Int.tmod s1.1 a4)).length)),(6,vI s1.2.1)],[oR true 1 eI (List.set s1.2.2 (zt s1.2.1) (Int.tmod s1.1 a4))],33⟩ ?_
   refine reg_in (sz 3 3 ?_)
   refine idxL' (enc:=eI) (l:=p0) (n:=s1.2.1) (fl:=true) (w:=1) (a:=a4) kr rfl gE q5 ?_
   refine sz 1 5 ?_
   refine quoR (k:=.i64) (a:=s1.1) (b:=a4) kr gE h (fun h=>?_)
   refine sz 1 7 (reg_end rfl (wg [0,1,5,6] [0] (rn ?_)))
   cases h
   exact ⟨_,rfl,(wk_gc (live:=[0,1,5,6]) (keep:=[0]) kr)⟩
  refine wcF (wg [5] [0] ?_)
  refine wp_exit ?_
  cases h
  exact ⟨kr,rfl⟩
 intro x10 h out hx
 subst hx
 refine sq (wg [4] [0] ?_)
 cases h
 exact wp_ret (show fnOut _ _ _ _=_ from by kernel_rfl)
theorem g_ref05_Values_ok (p0:Tapi_Net) (p1:Int) (x:(List Int)) (h:g_ref05_Values p0 p1=some x):CallOk Try.prog 41 [.agg [vI p0.Grain,eL false eTapi_Node p0.Nodes],vI p1] (.ret (.ref 0 0 x.length) [oR true 1 eI x]):=by
 refine fn_ok [] Try.func41 rfl (by decide +kernel) rfl ?_
 unfold g_ref05_Values at h
 refine wp_eqB (base':=0) (st':=⟨[(0,.agg [vI p0.Grain,eL false eTapi_Node p0.Nodes]),(1,vI p1)],[],9⟩) kr kr ?_
 refine wp_seq (reg_in ?_)
 refine sgL false [] [] false gE ?_
 refine sz 1 2 (reg_end rfl (wp_seq (reg_in (sz 1 1 ?_))))
 refine callW bodyB_78 (g_ref05_Cards_ok p0) h (fun x1 _ h=>?_)
 refine sz 1 3 ?_
 refine callR (as0:=[.ref 1 0 x1.length,vI p1]) (ids:=[1]) kr bodyB_79 (msnap_cons (snap_full (w:=1) (bx:=false) (ro:=false) kr) (msnap_cons rfl msnap_nil (by rfl)) (by rfl)) (fun x3 q4=>g_ref02_Values_ok x1 p1 x3 q4) gF h (fun x3 q4 h=>?_)
 refine sz 1 5 (reg_end rfl (wg [4] [2] ?_))
 cases h
 exact wp_ret (show fnOut _ _ _ _=_ from by kernel_rfl)
theorem g_ref05_Matches_ok (p0:(List Int)) (p1:(List Int)) (x:Bool) (h:g_ref05_Matches p0 p1=some x):CallOk Try.prog 42 [z1 p0,z1 p1] (.ret (vB x) []):=by
 refine fn_ok [] Try.func42 rfl (by decide +kernel) rfl ?_
 unfold g_ref05_Matches at h
 refine wp_eqB (base':=0) (st':=⟨[(0,z1 p0),(1,z1 p1)],[],28⟩) kr kr ?_
 refine sq (wp_seq (sq (wp_block ?_)))
 refine wwh h (fun s1=>⟨[(0,z1 p0),(1,z1 p1),(5,vI s1)],[],28⟩) (fun x out=>out=match x with | .inl v=>.go (.ret) ⟨[(4,vB false)],[],28⟩ | .inr v=>.go (.exit 0) ⟨[],[],28⟩) (wk_gc (live:=[0,1,5]) (keep:=[]) kr) ?_ ?_
 ·intro s1 o h
  unfold g_ref05_Matches_b0 at h
  refine wp_seq (wp_seq (reg_in (sz 2 2 ?_)))
  refine lenL (enc:=eI) (l:=p0) (fl:=true) kr gE ?_
  refine sz 1 4 (reg_end rfl ?_)
  refine wb [9] h (fun q3 h=>?_) (fun q3 h=>?_)
  ·refine wcT (wp_skip (wp_seq (wp_block (wp_seq (rga hfol (sy 2 2 ?_))))))
   refine bind_elim h (fun a4 q5 h=>?_)
   refine idxL' (enc:=eI) (l:=p1) (n:=s1) (fl:=true) (w:=1) (a:=a4) kr rfl gE q5 ?_
   refine sy 3 6 ?_
   refine rb [16,17] h (fun q7 h=>?_) (fun q7 h=>?_)
   ·refine sy 2 8 ?_
    refine idxL' (enc:=eI) (l:=p1) (n:=s1) (fl:=true) (w:=1) (a:=a4) kr rfl gE q5 ?_
    refine sy 3 12 ?_
    refine bind_elim h (fun a8 q9 h=>?_)
    refine idxL' (enc:=eI) (l:=p0) (n:=s1) (fl:=true) (w:=1) (a:=a8) kr rfl gE q9 ?_
    refine sy 3 16 (rgd ?_)
    refine wbz h (fun q11 h=>?_) (fun q11 h=>?_)
    ·refine wp_seq ?_
     refine wgc [] [] ⟨[],[],28⟩ ?_
     refine rn (wg [4] [] ?_)
     refine wp_ret ?_
     cases h
     exact ⟨kr,rfl⟩
    refine wp_skip ?_
    refine wgc [0,1,5] [] ⟨[(0,z1 p0),(1,z1 p1),(5,vI s1)],[],28⟩ ?_
    refine rn ?_
    cases h
    exact ⟨_,rfl,(wk_gc (live:=[0,1,5]) (keep:=[]) kr)⟩
   refine sy 10 16 (rgd (wcF (wp_skip ?_)))
   refine wgc [0,1,5] [] ⟨[(0,z1 p0),(1,z1 p1),(5,vI s1)],[],28⟩ ?_
   refine rn ?_
   cases h
   exact ⟨_,rfl,(wk_gc (live:=[0,1,5]) (keep:=[]) kr)⟩
  refine wcF (wg [] [] ?_)
  refine wp_exit ?_
  cases h
  exact ⟨kr,rfl⟩
 intro x12 h out hx
 subst hx
 rcases x12 with x13 | x14
 ·dsimp only at h ⊢
  cases h
  show fnOut _ _ _ _=_
  kernel_rfl
 ·dsimp only at h ⊢
  refine sq (wg [4] [] ?_)
  cases h
  exact wp_ret (show fnOut _ _ _ _=_ from by kernel_rfl)
theorem g_ref02_Index_ok (p0:(List Int)) (p1:(List Int)) (x:Int) (h:g_ref02_Index p0 p1=some x):CallOk Try.prog 44 [z1 p0,z1 p1] (.ret (vI x) []):=by
 refine fn_ok [] Try.func44 rfl (by decide +kernel) rfl ?_
 unfold g_ref02_Index at h
 refine wp_eqB (base':=0) (st':=⟨[(0,z1 p0),(1,z1 p1)],[],30⟩) kr kr ?_
 refine sq (sq (wp_seq (wp_seq (reg_in (sz 1 1 ?_)))))
 refine lenL (enc:=eI) (l:=p0) (fl:=true) kr gE ?_
 refine sz 2 4 (reg_end rfl (wp_block ?_))
 refine wwh h (fun s1=>⟨[(0,z1 p0),(1,z1 p1),(5,vI s1.1),(6,vI s1.2.1),(7,vI s1.2.2)],[],30⟩) (fun v out=>out=.go (.exit 0) ⟨[(5,vI v)],[],30⟩) (wk_gc (live:=[0,1,5,6,7]) (keep:=[]) kr) ?_ ?_
 ·intro s1 o h
  unfold g_ref02_Index_b0 at h
  refine wp_seq (sq ?_)
  refine wb [12] h (fun q3 h=>?_) (fun q3 h=>?_)
  ·refine wcT (wp_skip (wp_seq (wp_block (wp_seq (reg_in (sz 3 3 ?_))))))
   refine bind_elim h (fun a4 q5 h=>?_)
   refine idxL' (enc:=eI) (l:=p1) (n:=s1.2.2) (fl:=true) (w:=1) (a:=a4) kr rfl gE q5 ?_
   refine sz 5 9 (reg_end rfl ?_)
   refine wgc [0,1,5,6,7] [] ⟨[(0,z1 p0),(1,z1 p1),(5,vI (zw (s1.1+(zw (a4*s1.2.1))))),(6,vI s1.2.1),(7,vI s1.2.2)],[],30⟩ ?_
   refine reg_in (sz 3 3 ?_)
   refine bind_elim h (fun a6 q7 h=>?_)
   refine idxL' (enc:=eI) (l:=p0) (n:=s1.2.2) (fl:=true) (w:=1) (a:=a6) kr rfl gE q7 ?_
   refine sz 3 7 (reg_end rfl (wg [0,1,5,6,7] [] (rn ?_)))
   cases h
   exact ⟨_,rfl,(wk_gc (live:=[0,1,5,6,7]) (keep:=[]) kr)⟩
  refine wcF (wg [5] [] ?_)
  refine wp_exit ?_
  cases h
  exact ⟨kr,rfl⟩
 intro x9 h out hx
 subst hx
 refine sq (wg [4] [] ?_)
 cases h
 exact wp_ret (show fnOut _ _ _ _=_ from by kernel_rfl)
theorem g_ref05_Row_ok (p0:Tapi_Net) (p1:Int) (p2:(List Int)) (x:(List Int)) (h:g_ref05_Row p0 p1 p2=some x):CallOk Try.prog 47 [.agg [vI p0.Grain,eL false eTapi_Node p0.Nodes],vI p1,z1 p2] (.ret (z1 x) []):=by
 refine fn_ok [[.lst true]] Try.func47 rfl (by decide +kernel) rfl ?_
 unfold g_ref05_Row at h
 refine wp_eqB (base':=0) (st':=⟨[(0,.agg [vI p0.Grain,eL false eTapi_Node p0.Nodes]),(1,vI p1),(2,z1 p2)],[],27⟩) kr kr ?_
 refine wp_seq (reg_in ?_)
 refine sgL false [] [] false gE ?_
 refine sz 1 2 (reg_end rfl (wp_seq (rga hfol (sy 3 3 ?_))))
 refine bind_elim h (fun a1 q2 h=>?_)
 refine idxL' (enc:=eTapi_Node) (l:=p0.Nodes) (n:=p1) (fl:=false) (w:=3) (a:=a1) kr rfl gE q2 ?_
 refine sy 4 8 ?_
 refine callW bodyB_45 (fun x3 q4=>CallOk.froz (g_ref05_ParentCards_ok p0 p1 x3 q4) (snap_full (w:=1) (bx:=false) (ro:=false) rfl)) h (fun x3 q4 h=>?_)
 refine sy 4 13 ?_
 refine idxL' (enc:=eTapi_Node) (l:=p0.Nodes) (n:=p1) (fl:=false) (w:=3) (a:=a1) kr rfl gE q2 ?_
 refine sy 2 16 ?_
 refine callW bodyB_46 (fun x5 q6=>CallOk.froz (g_ref02_At_ok p2 a1.Parents x5 q6) (snap_full (w:=1) (bx:=false) (ro:=false) rfl)) h (fun x5 q6 h=>?_)
 refine callW bodyB_44 (g_ref02_Index_ok x3 x5) h (fun x7 _ h=>?_)
 refine bind_elim h (fun a9 q10 h=>?_)
 refine idxL' (enc:=z1) (l:=a1.Rows) (n:=x7) (fl:=false) (w:=1) (a:=a9) kr rfl gE q10 ?_
 refine sy 2 21 (rgd ?_)
 refine wgc [6] [] ⟨[(6,z1 a9)],[],27⟩ ?_
 cases h
 exact wp_ret (show fnOut _ _ _ _=_ from by kernel_rfl)
theorem g_ref05_Weight_ok (p0:Tapi_Net) (p1:Int) (x:Int) (h:g_ref05_Weight p0 p1=some x):CallOk Try.prog 43 [.agg [vI p0.Grain,eL false eTapi_Node p0.Nodes],vI p1] (.ret (vI x) []):=by
 refine fn_ok [] Try.func43 rfl (by decide +kernel) rfl ?_
 unfold g_ref05_Weight at h
 refine wp_eqB (base':=0) (st':=⟨[(0,.agg [vI p0.Grain,eL false eTapi_Node p0.Nodes]),(1,vI p1)],[],31⟩) kr kr ?_
 refine wp_seq (reg_in ?_)
 refine sgL false [] [] false gE ?_
 refine sz 1 2 (reg_end rfl (wp_seq (reg_in (sz 2 2 ?_))))
 refine callW bodyB_41 (g_ref05_Values_ok p0 p1) h (fun x1 _ h=>?_)
 refine sz 1 4 (reg_end rfl (wp_seq (wg [2,5] [0,1] (rn (wp_seq ?_)))))
 refine sqN (S:=⟨[(2,.ptr 0 0 0),(5,.ref 1 0 x1.length),(6,vI 1),(7,vI 0)],[oX true false 2 (.agg [vI p0.Grain,eL false eTapi_Node p0.Nodes]),oR true 1 eI x1],31⟩) ?_
 refine wp_block ?_
 refine wwh h (fun s3=>⟨[(2,.ptr 0 0 0),(5,z1 x1),(6,vI s3.1),(7,vI s3.2)],[oX true false 2 (.agg [vI p0.Grain,eL false eTapi_Node p0.Nodes])],31⟩) (fun v out=>out=.go (.exit 0) ⟨[(6,vI v)],[],31⟩) (wk_trans (wk_gc (live:=[2,5,6,7]) (keep:=[0,1]) (st':=⟨[(2,.ptr 0 0 0),(5,.ref 1 0 x1.length),(6,vI 1),(7,vI 0)],[oX true false 2 (.agg [vI p0.Grain,eL false eTapi_Node p0.Nodes]),oR true 1 eI x1],31⟩) kr) (wk_trans (wk_snap (st':=⟨[(2,.ptr 0 0 0),(5,z1 x1),(6,vI 1),(7,vI 0)],[oX true false 2 (.agg [vI p0.Grain,eL false eTapi_Node p0.Nodes]),.row false true true true 1 (List.map eI x1)],31⟩) 5 (y:=z1 x1) (ids:=[1]) rfl (snap_full (w:=1) (bx:=false) (ro:=false) kr) kr) (wk_gc (live:=[2,5,6,7]) (keep:=[0]) kr))) ?_ ?_
 ·intro s3 o h
  unfold g_ref05_Weight_b0 at h
  refine wp_seq (wp_seq (reg_in (sz 3 3 ?_)))
  refine lenL (enc:=eTapi_Node) (l:=p0.Nodes) (fl:=false) kr gE ?_
  refine sz 1 5 (reg_end rfl ?_)
  refine wbz h (fun q5 h=>?_) (fun q5 h=>?_)
  ·refine wp_skip (wp_seq (wp_block (wg [2,5,6,7] [0] (rga hfol (sy 4 4 ?_)))))
   refine callW bodyB_47 (g_ref05_Row_ok p0 s3.2 x1) h (fun x6 _ h=>?_)
   refine sy 2 7 ?_
   refine bind_elim h (fun a8 q9 h=>?_)
   refine idxL' (enc:=eI) (l:=x1) (n:=s3.2) (fl:=true) (w:=1) (a:=a8) kr rfl gE q9 ?_
   refine sy 1 9 ?_
   refine bind_elim h (fun a10 q11 h=>?_)
   refine idxL' (enc:=eI) (l:=x6) (n:=a8) (fl:=true) (w:=1) (a:=a10) kr rfl gE q11 ?_
   refine sy 3 13 (rgd ?_)
   refine wgc [2,5,6,7] [0] ⟨[(2,.ptr 0 0 0),(5,z1 x1),(6,vI (zw (s3.1*a10))),(7,vI s3.2)],[oX true false 2 (.agg [vI p0.Grain,eL false eTapi_Node p0.Nodes])],31⟩ ?_
   refine rn ?_
   cases h
   exact ⟨_,rfl,(wk_gc (live:=[2,5,6,7]) (keep:=[0]) kr)⟩
  refine wg [6] [] ?_
  refine wp_exit ?_
  cases h
  exact ⟨kr,rfl⟩
 intro x13 h out hx
 subst hx
 refine sq (wg [4] [] ?_)
 cases h
 exact wp_ret (show fnOut _ _ _ _=_ from by kernel_rfl)
noncomputable abbrev s28_1 (p0:Tapi_Net):List AObj:=[oX true false 2 (.agg [vI p0.Grain,eL false eTapi_Node p0.Nodes])]
theorem g_ref05_Mass_ok (p0:Tapi_Net) (p1:(List Int)) (x:Int) (h:g_ref05_Mass p0 p1=some x):CallOk Try.prog 28 [.agg [vI p0.Grain,eL false eTapi_Node p0.Nodes],z1 p1] (.ret (vI x) []):=by
 refine fn_ok [] Try.func28 rfl (by decide +kernel) rfl ?_
 unfold g_ref05_Mass at h
 refine wp_eqB (base':=0) (st':=⟨[(0,.agg [vI p0.Grain,eL false eTapi_Node p0.Nodes]),(1,z1 p1)],[],24⟩) kr kr ?_
 refine wp_seq (reg_in ?_)
 refine sgL false [] [] false gE ?_
 refine sz 1 2 (reg_end rfl (sq (wp_seq (sq (wp_block ?_)))))
 refine wwh h (fun s1=>⟨[(1,z1 p1),(2,.ptr 0 0 0),(5,vI s1.1),(6,vI s1.2)],(s28_1 p0),24⟩) (fun v out=>out=.go (.exit 0) ⟨[(5,vI v)],[],24⟩) (wk_gc (live:=[1,2,5,6]) (keep:=[0]) kr) ?_ ?_
 ·intro s1 o h
  unfold g_ref05_Mass_b0 at h
  refine wp_seq (wp_seq (reg_in (sz 2 2 ?_)))
  refine callW bodyB_40 (g_ref05_Worlds_ok p0) h (fun x2 _ h=>?_)
  refine sz 1 4 (reg_end rfl ?_)
  refine wb [10] h (fun q5 h=>?_) (fun q5 h=>?_)
  ·refine wcT (wp_skip (wp_seq (wp_block (wp_seq (reg_in (sz 2 2 ?_))))))
   refine callW bodyB_41 (g_ref05_Values_ok p0 s1.2) h (fun x6 _ h=>?_)
   refine sz 1 4 ?_
   refine callR (as0:=[.ref 1 0 x6.length,z1 p1]) (ids:=[1]) kr bodyB_42 (msnap_cons (snap_full (w:=1) (bx:=false) (ro:=false) kr) (msnap_cons rfl msnap_nil (by rfl)) (by rfl)) (fun x8 q9=>g_ref05_Matches_ok x6 p1 x8 q9) gF h (fun x8 q9 h=>?_)
   refine reg_end rfl ?_
   refine wbz h (fun q11 h=>?_) (fun q11 h=>?_)
   ·refine wgc [1,2,5,6] [0] ⟨[(1,z1 p1),(2,.ptr 0 0 0),(5,vI s1.1),(6,vI s1.2)],(s28_1 p0),24⟩ ?_
    refine reg_in (sz 3 3 ?_)
    refine callW bodyB_43 (g_ref05_Weight_ok p0 s1.2) h (fun x12 _ h=>?_)
    refine sz 2 6 (reg_end rfl (wg [1,2,5,6] [0] (rn ?_)))
    cases h
    exact ⟨_,rfl,(wk_gc (live:=[1,2,5,6]) (keep:=[0]) kr)⟩
   refine wp_skip ?_
   refine wgc [1,2,5,6] [0] ⟨[(1,z1 p1),(2,.ptr 0 0 0),(5,vI s1.1),(6,vI s1.2)],(s28_1 p0),24⟩ ?_
   refine rn ?_
   cases h
   exact ⟨_,rfl,(wk_gc (live:=[1,2,5,6]) (keep:=[0]) kr)⟩
  refine wcF (wg [5] [] ?_)
  refine wp_exit ?_
  cases h
  exact ⟨kr,rfl⟩
 intro x15 h out hx
 subst hx
 refine sq (wg [4] [] ?_)
 cases h
 exact wp_ret (show fnOut _ _ _ _=_ from by kernel_rfl)
noncomputable abbrev s6_8 (x5:Tapi_Net) (x7:(List Int)) (x9:(Int × Int × Tapi_Shift)):List AObj:=[oX false false 2 (.agg [vI x5.Grain,.ref 3 0 x5.Nodes.length]),oR true 1 eI x7,oX true true 4 (.agg [vI x9.2.2.Node,vI x9.2.2.Row,vI x9.2.2.From,vI x9.2.2.To]),oR false 3 eTapi_Node x5.Nodes]
noncomputable abbrev s6_26 (x5:Tapi_Net) (x7:(List Int)) (x9:(Int × Int × Tapi_Shift)) (s19:(Int × Int × Int × Int × Int × Int × Int)) (x22:((Int × Int × Int × Int) × Int)):List AObj:=[oX false false 2 (.agg [vI x5.Grain,.ref 5 0 x5.Nodes.length]),oR true 1 eI x7,oX true true 4 (.agg [vI x9.2.2.Node,vI x9.2.2.Row,vI x9.2.2.From,vI x9.2.2.To]),oX true true 4 (.agg [vI s19.2.2.2.1,vI s19.2.2.2.2.1,vI s19.2.2.2.2.2.1,vI s19.2.2.2.2.2.2]),oX true true 4 (.agg [vI x22.1.1,vI x22.1.2.1,vI x22.1.2.2.1,vI x22.1.2.2.2]),oR false 3 eTapi_Node x5.Nodes]
theorem g_law24_SensitiveSums_ok (p0:Tharuspexlaw24_Story) (x:Bool) (h:g_law24_SensitiveSums p0=some x):CallOk Try.prog 6 [.agg [.int .u8 p0.N.Grain,eL false eTharuspexref05_Piece p0.N.Nodes,eL true (AV.int .u8) p0.N.Order,.int .u8 p0.C.What,.int .u8 p0.C.At,.int .u8 p0.C.Row,vI p0.C.N,.int .u8 p0.K.Which,.int .u8 p0.K.V.1,.int .u8 p0.K.V.2.1,.int .u8 p0.K.V.2.2.1,.int .u8 p0.K.V.2.2.2.1,.int .u8 p0.K.V.2.2.2.2.1,.int .u8 p0.K.V.2.2.2.2.2.1,.int .u8 p0.K.V.2.2.2.2.2.2.1,.int .u8 p0.K.V.2.2.2.2.2.2.2,.int .u8 p0.D.V,.int .u8 p0.D.Value,.int .u8 p0.D.Node,.int .u8 p0.D.Row,.int .u8 p0.D.From,.int .u8 p0.D.To,z1 p0.Raw,vI p0.V,vI p0.Value,vI p0.S.Node,vI p0.S.Row,vI p0.S.From,vI p0.S.To]] (.ret (vB x) []):=by
 refine fn_ok [] Try.func6 rfl (by decide +kernel) rfl ?_
 unfold g_law24_SensitiveSums at h
 refine wp_eqB (base':=0) (st':=⟨[(0,.agg [.int .u8 p0.N.Grain,eL false eTharuspexref05_Piece p0.N.Nodes,eL true (AV.int .u8) p0.N.Order,.int .u8 p0.C.What,.int .u8 p0.C.At,.int .u8 p0.C.Row,vI p0.C.N,.int .u8 p0.K.Which,.int .u8 p0.K.V.1,.int .u8 p0.K.V.2.1,.int .u8 p0.K.V.2.2.1,.int .u8 p0.K.V.2.2.2.1,.int .u8 p0.K.V.2.2.2.2.1,.int .u8 p0.K.V.2.2.2.2.2.1,.int .u8 p0.K.V.2.2.2.2.2.2.1,.int .u8 p0.K.V.2.2.2.2.2.2.2,.int .u8 p0.D.V,.int .u8 p0.D.Value,.int .u8 p0.D.Node,.int .u8 p0.D.Row,.int .u8 p0.D.From,.int .u8 p0.D.To,z1 p0.Raw,vI p0.V,vI p0.Value,vI p0.S.Node,vI p0.S.Row,vI p0.S.From,vI p0.S.To])],[],157⟩) kr kr ?_
 refine wp_seq (reg_in ?_)
 refine sgL false [] [] false gE ?_
 refine sz 1 2 (reg_end rfl (wp_seq (wp_seq (reg_in ?_))))
 refine callW bodyB_20 (g_law24_works_ok ) h (fun x1 _ h=>?_)
 refine sz 1 2 (reg_end rfl ?_)
 refine wb [18] h (fun q4 h=>?_) (fun q4 h=>?_)
 ·refine wcT (wp_seq (wg [] [] (rn ?_)))
  refine wgc [2] [] ⟨[(2,vB false)],[],157⟩ ?_
  cases h
  exact wp_ret (show fnOut _ _ _ _=_ from by kernel_rfl)
 refine wcF (wp_skip (wp_seq (reg_in (sz 2 2 ?_))))
 refine callW bodyB_25 (g_ref05_Draft_Net_ok p0.N) h (fun x5 _ h=>?_)
 refine sgL false [] [] false gE ?_
 refine sz 1 5 (reg_end rfl (wp_seq ?_))
 refine wgc [1,3] [0,2,1] ⟨[(1,.ptr 0 0 0),(3,.ptr 1 0 0)],[oX true false 29 (.agg [.int .u8 p0.N.Grain,eL false eTharuspexref05_Piece p0.N.Nodes,eL true (AV.int .u8) p0.N.Order,.int .u8 p0.C.What,.int .u8 p0.C.At,.int .u8 p0.C.Row,vI p0.C.N,.int .u8 p0.K.Which,.int .u8 p0.K.V.1,.int .u8 p0.K.V.2.1,.int .u8 p0.K.V.2.2.1,.int .u8 p0.K.V.2.2.2.1,.int .u8 p0.K.V.2.2.2.2.1,.int .u8 p0.K.V.2.2.2.2.2.1,.int .u8 p0.K.V.2.2.2.2.2.2.1,.int .u8 p0.K.V.2.2.2.2.2.2.2,.int .u8 p0.D.V,.int .u8 p0.D.Value,.int .u8 p0.D.Node,.int .u8 p0.D.Row,.int .u8 p0.D.From,.int .u8 p0.D.To,z1 p0.Raw,vI p0.V,vI p0.Value,vI p0.S.Node,vI p0.S.Row,vI p0.S.From,vI p0.S.To]),oX false false 2 (.agg [vI x5.Grain,.ref 2 0 x5.Nodes.length]),oR false 3 eTapi_Node x5.Nodes],157⟩ ?_
 refine reg_in (sz 3 3 ?_)
 refine callR (as0:=[.agg [.int .u8 p0.K.Which,.int .u8 p0.K.V.1,.int .u8 p0.K.V.2.1,.int .u8 p0.K.V.2.2.1,.int .u8 p0.K.V.2.2.2.1,.int .u8 p0.K.V.2.2.2.2.1,.int .u8 p0.K.V.2.2.2.2.2.1,.int .u8 p0.K.V.2.2.2.2.2.2.1,.int .u8 p0.K.V.2.2.2.2.2.2.2],.agg [vI x5.Grain,.ref 2 0 x5.Nodes.length]]) (ids:=[2]) kr bodyB_26 (msnap_cons (snap_agg (msnap_cons rfl (msnap_cons rfl (msnap_cons rfl (msnap_cons rfl (msnap_cons rfl (msnap_cons rfl (msnap_cons rfl (msnap_cons rfl (msnap_cons rfl msnap_nil (by rfl)) (by rfl)) (by rfl)) (by rfl)) (by rfl)) (by rfl)) (by rfl)) (by rfl)) (by rfl))) (msnap_cons (snap_agg (msnap_cons rfl (msnap_cons (snap_full (w:=3) (bx:=false) (ro:=false) kr) msnap_nil (by rfl)) (by rfl))) msnap_nil (by rfl)) (by rfl)) (fun x7 q8=>g_ref05_Known_Of_ok (Tharuspexref05_Known.mk p0.K.Which (p0.K.V.1,p0.K.V.2.1,p0.K.V.2.2.1,p0.K.V.2.2.2.1,p0.K.V.2.2.2.2.1,p0.K.V.2.2.2.2.2.1,p0.K.V.2.2.2.2.2.2.1,p0.K.V.2.2.2.2.2.2.2)) x5 x7 q8) gF h (fun x7 q8 h=>?_)
 refine sz 1 5 (reg_end rfl (wp_seq (reg_in (sz 3 3 ?_))))
 refine callR (as0:=[.agg [.int .u8 p0.D.V,.int .u8 p0.D.Value,.int .u8 p0.D.Node,.int .u8 p0.D.Row,.int .u8 p0.D.From,.int .u8 p0.D.To],.agg [vI x5.Grain,.ref 2 0 x5.Nodes.length]]) (ids:=[2]) kr bodyB_27 (msnap_cons (snap_agg (msnap_cons rfl (msnap_cons rfl (msnap_cons rfl (msnap_cons rfl (msnap_cons rfl (msnap_cons rfl msnap_nil (by rfl)) (by rfl)) (by rfl)) (by rfl)) (by rfl)) (by rfl))) (msnap_cons (snap_agg (msnap_cons rfl (msnap_cons (snap_full (w:=3) (bx:=false) (ro:=false) kr) msnap_nil (by rfl)) (by rfl))) msnap_nil (by rfl)) (by rfl)) (fun x9 q10=>g_ref24_Draft_Of_ok p0.D x5 x9 q10) gF h (fun x9 q10 h=>?_)
 refine sz 8 12 (reg_end rfl (wp_seq (wp_seq ?_)))
 refine wgc [3,4,7,5] [1,3,4,2] ⟨[(3,.ptr 0 0 0),(4,.ref 1 0 x7.length),(7,.ptr 2 0 0),(5,vI x9.1)],(s6_8 x5 x7 x9),157⟩ ?_
 refine rn ?_
 refine wbz h (fun q12 h=>?_) (fun q12 h=>?_)
 ·refine wp_seq (wg [] [] (rn (wg [2] [] ?_)))
  cases h
  exact wp_ret (show fnOut _ _ _ _=_ from by kernel_rfl)
 refine wp_skip (wp_seq (wg [3,4,7,5] [0,1,2,3] (rga hfol (sy 4 4 ?_))))
 refine bind_elim h (fun a13 q14 h=>?_)
 refine idxR' (enc:=eTapi_Node) (l:=x5.Nodes) (n:=x9.2.2.Node) (w:=3) (ob:=3) (ro:=false) (nr:=true) (fl:=false) (a:=a13) kr kr gE q14 ?_
 refine sy 1 6 ?_
 refine loadR (enc:=eTapi_Node) (l:=x5.Nodes) (n:=x9.2.2.Node) (w:=3) (ob:=3) (c:=2) (bx:=false) (ro:=false) (nr:=true) (fl:=false) (a:=a13) kr kr q14 gE ?_
 refine sy 2 9 ?_
 refine bind_elim h (fun a15 q16 h=>?_)
 refine idxL' (enc:=z1) (l:=a13.Rows) (n:=x9.2.2.Row) (fl:=false) (w:=1) (a:=a15) kr rfl gE q16 ?_
 refine sy 2 12 (rgd (wp_seq ?_))
 refine wgc [3,4,7,5,8] [0,1,2,3] ⟨[(3,.ptr 0 0 0),(4,.ref 1 0 x7.length),(7,.ptr 2 0 0),(5,vI x9.1),(8,z1 a15)],(s6_8 x5 x7 x9),157⟩ ?_
 refine rn (sq (wp_seq (wp_seq (reg_in (sz 3 3 ?_)))))
 refine bind_elim h (fun a17 q18 h=>?_)
 refine idxR' (enc:=eTapi_Node) (l:=x5.Nodes) (n:=x9.1) (w:=3) (ob:=3) (ro:=false) (nr:=true) (fl:=false) (a:=a17) kr kr gE q18 ?_
 refine sz 1 5 ?_
 refine loadR (enc:=eTapi_Node) (l:=x5.Nodes) (n:=x9.1) (w:=3) (ob:=3) (c:=0) (bx:=false) (ro:=false) (nr:=true) (fl:=false) (a:=a17) kr kr q18 gE ?_
 refine sz 1 7 (reg_end rfl (wp_block ?_))
 refine wwh h (fun s19=>⟨[(3,.ptr 0 0 0),(4,.ref 1 0 x7.length),(5,vI x9.1),(7,.ptr 2 0 0),(8,z1 a15),(9,vI s19.1),(10,vI s19.2.1),(11,.ptr 3 0 0),(55,vI a17.Card),(56,vI s19.2.2.1)],[oX false false 2 (.agg [vI x5.Grain,.ref 4 0 x5.Nodes.length]),oR true 1 eI x7,oX true true 4 (.agg [vI x9.2.2.Node,vI x9.2.2.Row,vI x9.2.2.From,vI x9.2.2.To]),oX true true 4 (.agg [vI s19.2.2.2.1,vI s19.2.2.2.2.1,vI s19.2.2.2.2.2.1,vI s19.2.2.2.2.2.2]),oR false 3 eTapi_Node x5.Nodes],157⟩) (fun x out=>out=match x with | .inl v=>.go (.ret) ⟨[(2,vB false)],[],157⟩ | .inr v=>.go (.exit 0) ⟨[(3,.ptr 0 0 0),(4,.ref 1 0 x7.length),(9,vI v.1),(10,vI v.2.1),(11,.ptr 2 0 0)],[oX false false 2 (.agg [vI x5.Grain,.ref 3 0 x5.Nodes.length]),oR true 1 eI x7,oX true true 4 (.agg [vI v.2.2.1,vI v.2.2.2.1,vI v.2.2.2.2.1,vI v.2.2.2.2.2]),oR false 3 eTapi_Node x5.Nodes],157⟩) (wk_gc (live:=[3,4,5,7,8,9,10,11,55,56]) (keep:=[0,1,2,4,3]) kr) ?_ ?_
 ·intro s19 o h
  unfold g_law24_SensitiveSums_b2 at h
  refine sq (wp_seq ?_)
  refine wb [57] h (fun q21 h=>?_) (fun q21 h=>?_)
  ·refine wcT (wp_skip (wp_seq (wp_block (sq (wp_seq (reg_in (sz 5 5 ?_)))))))
   refine callR (as0:=[.agg [vI x5.Grain,.ref 4 0 x5.Nodes.length],.ref 1 0 x7.length,vI x9.1,vI s19.2.2.1,.agg [vI x9.2.2.Node,vI x9.2.2.Row,vI x9.2.2.From,vI x9.2.2.To]]) (ids:=[4,1]) kr bodyB_12 (msnap_cons (snap_agg (msnap_cons rfl (msnap_cons (snap_full (w:=3) (bx:=false) (ro:=false) kr) msnap_nil (by rfl)) (by rfl))) (msnap_cons (snap_full (w:=1) (bx:=false) (ro:=false) kr) (msnap_cons rfl (msnap_cons rfl (msnap_cons (snap_agg (msnap_cons rfl (msnap_cons rfl (msnap_cons rfl (msnap_cons rfl msnap_nil (by rfl)) (by rfl)) (by rfl)) (by rfl))) msnap_nil (by rfl)) (by rfl)) (by rfl)) (by rfl)) (by rfl)) (fun x22 q23=>g_sensitive_Line_ok x5 x7 x9.1 s19.2.2.1 x9.2.2 x22 q23) gF h (fun x22 q23 h=>?_)
   refine sz 6 12 (reg_end rfl (wp_seq (wp_seq ?_)))
   refine wgc [3,4,5,7,8,9,10,11,55,56,12,13,14] [0,1,2,3,5,4] ⟨[(3,.ptr 0 0 0),(4,.ref 1 0 x7.length),(5,vI x9.1),(7,.ptr 2 0 0),(8,z1 a15),(9,vI s19.1),(10,vI s19.2.1),(11,.ptr 3 0 0),(55,vI a17.Card),(56,vI s19.2.2.1),(12,vI s19.2.2.1),(13,.ptr 4 0 0),(14,vI x22.2)],(s6_26 x5 x7 x9 s19 x22),157⟩ ?_
   refine reg_in (sz 3 3 ?_)
   refine rb [69,70] h (fun q25 h=>?_) (fun q25 h=>?_)
   ·refine sz 17 20 (reg_end rfl (wcT (wp_seq ?_)))
    refine wgc [] [] ⟨[],[],157⟩ ?_
    refine rn (wg [2] [] ?_)
    refine wp_ret ?_
    cases h
    exact ⟨kr,rfl⟩
   refine sz 3 6 (rwg [3,4,5,7,8,9,10,11,55,56,13,70,73] [0,1,2,3,4,5] ?_)
   refine rb [73] h (fun q27 h=>?_) (fun q27 h=>?_)
   ·refine sz 6 12 (rwg [3,4,5,7,8,9,10,11,55,56,13,70,73,79] [0,1,2,3,4,5] ?_)
    refine rb [79] h (fun q29 h=>?_) (fun q29 h=>?_)
    ·refine sz 8 20 (reg_end rfl (wcT (wp_seq ?_)))
     refine wgc [] [] ⟨[],[],157⟩ ?_
     refine rn (wg [2] [] ?_)
     refine wp_ret ?_
     cases h
     exact ⟨kr,rfl⟩
    refine sz 8 20 (reg_end rfl ?_)
    refine wbz h (fun q31 h=>?_) (fun q31 h=>?_)
    ·refine wp_seq ?_
     refine wgc [] [] ⟨[],[],157⟩ ?_
     refine rn (wg [2] [] ?_)
     refine wp_ret ?_
     cases h
     exact ⟨kr,rfl⟩
    refine wp_skip (wp_seq (wp_seq ?_))
    refine wgc [3,4,5,7,8,9,10,11,55,56,13] [0,1,2,3,4,5] ⟨[(3,.ptr 0 0 0),(4,.ref 1 0 x7.length),(5,vI x9.1),(7,.ptr 2 0 0),(8,z1 a15),(9,vI s19.1),(10,vI s19.2.1),(11,.ptr 3 0 0),(55,vI a17.Card),(56,vI s19.2.2.1),(13,.ptr 4 0 0)],(s6_26 x5 x7 x9 s19 x22),157⟩ ?_
    refine rga hfol (sy 3 3 ?_)
    refine bind_elim h (fun a32 q33 h=>?_)
    refine idxL' (enc:=eI) (l:=a15) (n:=x9.2.2.To) (fl:=true) (w:=1) (a:=a32) kr rfl gE q33 ?_
    refine sy 5 9 ?_
    refine bind_elim h (fun a34 q35 h=>?_)
    refine idxL' (enc:=eI) (l:=a15) (n:=x9.2.2.From) (fl:=true) (w:=1) (a:=a34) kr rfl gE q35 ?_
    refine sy 3 13 (rgd (wp_block ?_))
    refine wwh h (fun s36=>⟨[(3,.ptr 0 0 0),(4,.ref 1 0 x7.length),(5,vI x9.1),(7,.ptr 2 0 0),(8,z1 a15),(9,vI s19.1),(10,vI s19.2.1),(11,.ptr 3 0 0),(13,.ptr 4 0 0),(55,vI a17.Card),(56,vI s19.2.2.1),(99,.agg [vI (zw (0 - a32)),vI a34]),(100,vI s36)],(s6_26 x5 x7 x9 s19 x22),157⟩) (fun x out=>out=match x with | .inl v=>.go (.ret) ⟨[(2,vB false)],[],157⟩ | .inr v=>.go (.exit 2) ⟨[(3,.ptr 0 0 0),(4,.ref 1 0 x7.length),(5,vI x9.1),(7,.ptr 2 0 0),(8,z1 a15),(9,vI s19.1),(10,vI s19.2.1),(11,.ptr 3 0 0),(13,.ptr 4 0 0),(55,vI a17.Card),(56,vI s19.2.2.1)],(s6_26 x5 x7 x9 s19 x22),157⟩) (wk_gc (live:=[3,4,5,7,8,9,10,11,13,55,56,99,100]) (keep:=[0,1,2,3,4,5]) kr) ?_ ?_
    ·intro s36 o h
     unfold g_law24_SensitiveSums_b0 at h
     refine sq (wp_seq ?_)
     refine wb [101] h (fun q38 h=>?_) (fun q38 h=>?_)
     ·refine wcT (wp_skip (wp_seq (wp_block (wp_seq (reg_in ?_)))))
      refine bind_elim h (fun a39 q40 h=>?_)
      refine idxA (enc:=eI) (l:=([zw (0 - a32),a34]:(List Int))) (n:=s36) (a:=a39) (w:=1) (g:=false) (v:=vI a39) kr (fun _=>rfl) rfl q40 kr gE ?_
      refine sz 1 2 (reg_end rfl (wp_seq (reg_in (sz 9 9 ?_))))
      refine rw_wk (wk_gc (live:=[3,4,5,7,8,9,10,11,13,55,56,99,100,16,111]) (keep:=[0,1,2,3,4,5]) (st':=⟨[(3,.ptr 0 0 0),(4,.ref 1 0 x7.length),(5,vI x9.1),(7,.ptr 2 0 0),(8,z1 a15),(9,vI s19.1),(10,vI s19.2.1),(11,.ptr 3 0 0),(13,.ptr 4 0 0),(55,vI a17.Card),(56,vI s19.2.2.1),(99,.agg [vI (zw (0 - a32)),vI a34]),(100,vI s36),(16,vI a39),(111,vB (decide ((zw (x22.1.1+(zw (x22.1.2.1*a39)))) < 0)))],(s6_26 x5 x7 x9 s19 x22),157⟩) kr) ?_
      refine rb [111] h (fun q42 h=>?_) (fun q42 h=>?_)
      ·refine sz 16 25 (reg_end rfl (wcT (wp_seq ?_)))
       refine wgc [] [] ⟨[],[],157⟩ ?_
       refine rn (wg [2] [] ?_)
       refine wp_ret ?_
       cases h
       exact ⟨kr,rfl⟩
      refine sz 16 25 (reg_end rfl ?_)
      refine wbz h (fun q44 h=>?_) (fun q44 h=>?_)
      ·refine wp_seq ?_
       refine wgc [] [] ⟨[],[],157⟩ ?_
       refine rn (wg [2] [] ?_)
       refine wp_ret ?_
       cases h
       exact ⟨kr,rfl⟩
      refine wp_skip ?_
      refine wgc [3,4,5,7,8,9,10,11,13,55,56,99,100] [0,1,2,3,4,5] ⟨[(3,.ptr 0 0 0),(4,.ref 1 0 x7.length),(5,vI x9.1),(7,.ptr 2 0 0),(8,z1 a15),(9,vI s19.1),(10,vI s19.2.1),(11,.ptr 3 0 0),(13,.ptr 4 0 0),(55,vI a17.Card),(56,vI s19.2.2.1),(99,.agg [vI (zw (0 - a32)),vI a34]),(100,vI s36)],(s6_26 x5 x7 x9 s19 x22),157⟩ ?_
      refine rn ?_
      cases h
      exact ⟨_,rfl,(wk_gc (live:=[3,4,5,7,8,9,10,11,13,55,56,99,100]) (keep:=[0,1,2,3,4,5]) kr)⟩
     refine wcF (wg [3,4,5,7,8,9,10,11,13,55,56] [0,1,2,3,4,5] ?_)
     refine wp_exit ?_
     cases h
     exact ⟨kr,rfl⟩
    intro x45 h out hx
    subst hx
    rcases x45 with x46 | x47
    ·dsimp only at h ⊢
     cases h
     exact ⟨kr,rfl⟩
    ·dsimp only at h ⊢
     refine rga hfol (sy 12 12 (rgd (wg [3,4,5,7,8,9,10,11,55,56] [0,1,2,3,5] (rn ?_))))
     cases h
     exact ⟨_,rfl,(wk_gc (live:=[3,4,5,7,8,9,10,11,55,56]) (keep:=[0,1,2,3,4]) kr)⟩
   refine sz 14 20 (reg_end rfl (wcF (wp_skip (wp_seq (wp_seq ?_)))))
   refine wgc [3,4,5,7,8,9,10,11,55,56,13] [0,1,2,3,4,5] ⟨[(3,.ptr 0 0 0),(4,.ref 1 0 x7.length),(5,vI x9.1),(7,.ptr 2 0 0),(8,z1 a15),(9,vI s19.1),(10,vI s19.2.1),(11,.ptr 3 0 0),(55,vI a17.Card),(56,vI s19.2.2.1),(13,.ptr 4 0 0)],(s6_26 x5 x7 x9 s19 x22),157⟩ ?_
   refine rga hfol (sy 3 3 ?_)
   refine bind_elim h (fun a48 q49 h=>?_)
   refine idxL' (enc:=eI) (l:=a15) (n:=x9.2.2.To) (fl:=true) (w:=1) (a:=a48) kr rfl gE q49 ?_
   refine sy 5 9 ?_
   refine bind_elim h (fun a50 q51 h=>?_)
   refine idxL' (enc:=eI) (l:=a15) (n:=x9.2.2.From) (fl:=true) (w:=1) (a:=a50) kr rfl gE q51 ?_
   refine sy 3 13 (rgd (wp_block ?_))
   refine wwh h (fun s52=>⟨[(3,.ptr 0 0 0),(4,.ref 1 0 x7.length),(5,vI x9.1),(7,.ptr 2 0 0),(8,z1 a15),(9,vI s19.1),(10,vI s19.2.1),(11,.ptr 3 0 0),(13,.ptr 4 0 0),(55,vI a17.Card),(56,vI s19.2.2.1),(99,.agg [vI (zw (0 - a48)),vI a50]),(100,vI s52)],(s6_26 x5 x7 x9 s19 x22),157⟩) (fun x out=>out=match x with | .inl v=>.go (.ret) ⟨[(2,vB false)],[],157⟩ | .inr v=>.go (.exit 2) ⟨[(3,.ptr 0 0 0),(4,.ref 1 0 x7.length),(5,vI x9.1),(7,.ptr 2 0 0),(8,z1 a15),(9,vI s19.1),(10,vI s19.2.1),(11,.ptr 3 0 0),(13,.ptr 4 0 0),(55,vI a17.Card),(56,vI s19.2.2.1)],(s6_26 x5 x7 x9 s19 x22),157⟩) (wk_gc (live:=[3,4,5,7,8,9,10,11,13,55,56,99,100]) (keep:=[0,1,2,3,4,5]) kr) ?_ ?_
   ·intro s52 o h
    unfold g_law24_SensitiveSums_b1 at h
    refine sq (wp_seq ?_)
    refine wb [101] h (fun q54 h=>?_) (fun q54 h=>?_)
    ·refine wcT (wp_skip (wp_seq (wp_block (wp_seq (reg_in ?_)))))
     refine bind_elim h (fun a55 q56 h=>?_)
     refine idxA (enc:=eI) (l:=([zw (0 - a48),a50]:(List Int))) (n:=s52) (a:=a55) (w:=1) (g:=false) (v:=vI a55) kr (fun _=>rfl) rfl q56 kr gE ?_
     refine sz 1 2 (reg_end rfl (wp_seq (reg_in (sz 9 9 ?_))))
     refine rw_wk (wk_gc (live:=[3,4,5,7,8,9,10,11,13,55,56,99,100,16,111]) (keep:=[0,1,2,3,4,5]) (st':=⟨[(3,.ptr 0 0 0),(4,.ref 1 0 x7.length),(5,vI x9.1),(7,.ptr 2 0 0),(8,z1 a15),(9,vI s19.1),(10,vI s19.2.1),(11,.ptr 3 0 0),(13,.ptr 4 0 0),(55,vI a17.Card),(56,vI s19.2.2.1),(99,.agg [vI (zw (0 - a48)),vI a50]),(100,vI s52),(16,vI a55),(111,vB (decide ((zw (x22.1.1+(zw (x22.1.2.1*a55)))) < 0)))],(s6_26 x5 x7 x9 s19 x22),157⟩) kr) ?_
     refine rb [111] h (fun q58 h=>?_) (fun q58 h=>?_)
     ·refine sz 16 25 (reg_end rfl (wcT (wp_seq ?_)))
      refine wgc [] [] ⟨[],[],157⟩ ?_
      refine rn (wg [2] [] ?_)
      refine wp_ret ?_
      cases h
      exact ⟨kr,rfl⟩
     refine sz 16 25 (reg_end rfl ?_)
     refine wbz h (fun q60 h=>?_) (fun q60 h=>?_)
     ·refine wp_seq ?_
      refine wgc [] [] ⟨[],[],157⟩ ?_
      refine rn (wg [2] [] ?_)
      refine wp_ret ?_
      cases h
      exact ⟨kr,rfl⟩
     refine wp_skip ?_
     refine wgc [3,4,5,7,8,9,10,11,13,55,56,99,100] [0,1,2,3,4,5] ⟨[(3,.ptr 0 0 0),(4,.ref 1 0 x7.length),(5,vI x9.1),(7,.ptr 2 0 0),(8,z1 a15),(9,vI s19.1),(10,vI s19.2.1),(11,.ptr 3 0 0),(13,.ptr 4 0 0),(55,vI a17.Card),(56,vI s19.2.2.1),(99,.agg [vI (zw (0 - a48)),vI a50]),(100,vI s52)],(s6_26 x5 x7 x9 s19 x22),157⟩ ?_
     refine rn ?_
     cases h
     exact ⟨_,rfl,(wk_gc (live:=[3,4,5,7,8,9,10,11,13,55,56,99,100]) (keep:=[0,1,2,3,4,5]) kr)⟩
    refine wcF (wg [3,4,5,7,8,9,10,11,13,55,56] [0,1,2,3,4,5] ?_)
    refine wp_exit ?_
    cases h
    exact ⟨kr,rfl⟩
   intro x61 h out hx
   subst hx
   rcases x61 with x62 | x63
   ·dsimp only at h ⊢
    cases h
    exact ⟨kr,rfl⟩
   ·dsimp only at h ⊢
    refine rga hfol (sy 12 12 (rgd (wg [3,4,5,7,8,9,10,11,55,56] [0,1,2,3,5] (rn ?_))))
    cases h
    exact ⟨_,rfl,(wk_gc (live:=[3,4,5,7,8,9,10,11,55,56]) (keep:=[0,1,2,3,4]) kr)⟩
  refine wcF (wg [3,4,9,10,11] [0,1,3,4] ?_)
  refine wp_exit ?_
  cases h
  exact ⟨kr,rfl⟩
 intro x64 h out hx
 subst hx
 rcases x64 with x65 | x66
 ·dsimp only at h ⊢
  cases h
  show fnOut _ _ _ _=_
  kernel_rfl
 ·dsimp only at h ⊢
  refine wp_seq (rga hfol (sy 5 5 ?_))
  refine rb [142,143] h (fun q68 h=>?_) (fun q68 h=>?_)
  ·refine sy 6 11 ?_
   refine rb [147,148,149] h (fun q70 h=>?_) (fun q70 h=>?_)
   ·refine sy 4 15 ?_
    refine callR (as0:=[.agg [vI x5.Grain,.ref 3 0 x5.Nodes.length],.ref 1 0 x7.length]) (ids:=[3,1]) kr bodyB_28 (msnap_cons (snap_agg (msnap_cons rfl (msnap_cons (snap_full (w:=3) (bx:=false) (ro:=false) kr) msnap_nil (by rfl)) (by rfl))) (msnap_cons (snap_full (w:=1) (bx:=false) (ro:=false) kr) msnap_nil (by rfl)) (by rfl)) (fun x71 q72=>g_ref05_Mass_ok x5 x7 x71 q72) gF h (fun x71 q72 h=>?_)
    refine sy 3 19 (rgd ?_)
    refine wgc [2] [] ⟨[(2,vB (x66.2.2.2.2.1==x71))],[],157⟩ ?_
    cases h
    exact wp_ret (show fnOut _ _ _ _=_ from by kernel_rfl)
   refine sy 8 19 (rgd ?_)
   refine wgc [2] [] ⟨[(2,vB false)],[],157⟩ ?_
   cases h
   exact wp_ret (show fnOut _ _ _ _=_ from by kernel_rfl)
  refine sy 14 19 (rgd ?_)
  refine wgc [2] [] ⟨[(2,vB false)],[],157⟩ ?_
  cases h
  exact wp_ret (show fnOut _ _ _ _=_ from by kernel_rfl)
end Go.Ab
namespace Go.Ab
open Go
theorem whileN_spec {σ ρ:Type} {body:σ→Option (Step σ ρ)} (I:σ→Prop) (m:σ→Nat) (Q:ρ→Prop)
  (step:∀s,I s→(∃s',body s=some (.next s')∧I s'∧m s' < m s)∨(∃r,body s=some (.done r)∧Q r)) :
  ∀(n:Nat) (s:σ),I s→m s < n→∃r,whileN n body s=some r∧Q r
 | 0,s,_,h=>by omega
 | n+1,s,hI,h=>by
  unfold whileN
  rcases step s hI with ⟨s',h1,h2,h3⟩ | ⟨r,h1,h2⟩
  ·rw [h1]
   exact whileN_spec I m Q step n s' h2 (by omega)
  ·rw [h1]
   exact ⟨r,rfl,h2⟩
theorem whileN_ex {σ ρ:Type} {body:σ→Option (Step σ ρ)} (I:σ→Prop) (m:σ→Nat) (Q:ρ→Prop)
  (step:∀s,I s→(∃s',body s=some (.next s')∧I s'∧m s' < m s)∨(∃r,body s=some (.done r)∧Q r)) (s:σ) (hI:I s) (hm:m s < 1152921504606846976):∃r,whileN fuel body s=some r∧Q r :=
 whileN_spec I m Q step fuel s hI hm
theorem whileN_count {σ ρ:Type} {body:σ→Option (Step σ ρ)} (f:Nat → σ) (n:Nat) (r:ρ) (step:∀k,k < n→body (f k)=some (.next (f (k+1)))) (done:body (f n)=some (.done r)) (hn:n < 1152921504606846976) :
  whileN fuel body (f 0)=some r:=by
 have key:∀(j N k:Nat),k+j=n→j < N→whileN N body (f k)=some r:=by
  intro j
  induction j with
  | zero =>
   intro N k hk hN
   obtain ⟨N,rfl⟩:∃M,N=M+1:=⟨N - 1,by omega⟩
   have:k=n:=by omega
   subst this
   simp [whileN,done]
  | succ j ih =>
   intro N k hk hN
   obtain ⟨N,rfl⟩:∃M,N=M+1:=⟨N - 1,by omega⟩
   simp only [whileN,step k (by omega)]
   exact ih N (k+1) (by omega) (by omega)
 exact key n fuel 0 (by omega) hn
theorem whileN_run {σ ρ:Type} {body:σ→Option (Step σ ρ)} {s0:σ} (f:Nat → σ) (n:Nat) (r:ρ) (h0:f 0=s0) (step:∀k,k < n→body (f k)=some (.next (f (k+1)))) (done:body (f n)=some (.done r)) (hn:n < 1152921504606846976) :
  whileN fuel body s0=some r:=by rw [←h0]; exact whileN_count f n r step done hn
theorem w64 {n:Int} (h:-9223372036854775808≤n∧n≤9223372036854775807):IntKind.i64.wrap n=n:=by rw [IntKind.wrap_i64]; omega
theorem lkI_nat {α:Type} {l:List α} {k:Nat} (h:k < l.length):lkI l (k:Int)=some l[k]:=by
 unfold lkI
 rw [if_neg (by omega),Int.toNat_natCast,List.getElem?_eq_getElem h]
theorem tdiv_pos {a b:Int} (h:0≤a):Int.tdiv a b=a / b:=Int.tdiv_eq_ediv_of_nonneg h
theorem tmod_pos {a b:Int} (h:0≤a):Int.tmod a b=a % b:=Int.tmod_eq_emod_of_nonneg h
end Go.Ab
namespace Go.Ab
open Go
def rowG {α:Type} (n:Nat) (F:Nat → α):List α:=(List.range n).map F
theorem rowG_len {α:Type} {n:Nat} {F:Nat → α}:(rowG n F).length=n:=by simp [rowG]
theorem rowG_get {α:Type} {n:Nat} {F:Nat → α} {k:Nat} (h:k < n):lkI (rowG n F) (k:Int)=some (F k):=by
 rw [lkI_nat (by rw [rowG_len]; exact h)]; simp [rowG]
theorem rowG_congr {α:Type} {n:Nat} {F G:Nat → α} (h:∀k,k < n→F k=G k):rowG n F=rowG n G:=by
 unfold rowG
 apply List.map_congr_left
 intro t ht
 exact h t (by simpa using ht)
theorem rowG_set {α:Type} {n:Nat} {F:Nat → α} {k:Nat} {x:α}:(rowG n F).set k x=rowG n (fun s=>if s=k then x else F s):=by
 apply List.ext_getElem?
 intro s
 rw [List.getElem?_set]
 simp only [rowG,List.getElem?_map,List.length_map,List.length_range]
 by_cases e:k=s
 ·subst e
  rw [if_pos rfl]
  by_cases hk:k < n
  ·rw [if_pos hk,List.getElem?_range hk]; simp
  ·rw [if_neg hk,List.getElem?_eq_none (by simpa using hk)]; rfl
 ·rw [if_neg e]
  by_cases hs:s < n
  ·rw [List.getElem?_range hs]; simp only [Option.map_some]; rw [if_neg (Ne.symm e)]
  ·rw [List.getElem?_eq_none (by simpa using hs)]; rfl
theorem rowG_rep {α:Type} (n:Nat) (x:α):List.replicate n x=rowG n (fun _=>x):=by
 apply List.ext_getElem?
 intro s
 rw [List.getElem?_replicate]
 by_cases hs:s < n
 ·rw [if_pos hs]; simp [rowG,List.getElem?_range hs]
 ·rw [if_neg hs,List.getElem?_eq_none (by rw [rowG_len]; omega)]
theorem rowG_succ {α:Type} {n:Nat} {F:Nat → α}:rowG n F++[F n]=rowG (n+1) F:=by
 unfold rowG; rw [List.range_succ]; simp
def upd {α:Type} (w:Nat → α) (i:Nat) (x:α):Nat → α:=fun s=>if s=i then x else w s
theorem upd_same {α:Type} {w:Nat → α} {i:Nat} {x:α}:upd w i x i=x:=by simp [upd]
theorem upd_ne {α:Type} {w:Nat → α} {i j:Nat} {x:α} (h:j≠i):upd w i x j=w j:=by simp [upd,h]
def sumI:Nat → (Nat → Int)→Int
 | 0,_=>0
 | n+1,f=>sumI n f+f n
theorem sumI_congr {n:Nat} {f g:Nat → Int} (h:∀k,k < n→f k=g k):sumI n f=sumI n g:=by
 induction n with
 | zero=>rfl
 | succ n ih=>simp only [sumI]; rw [ih (fun k hk=>h k (by omega)),h n (by omega)]
theorem sumI_add {n:Nat} {f g:Nat → Int}:sumI n (fun k=>f k+g k)=sumI n f+sumI n g:=by
 induction n with
 | zero=>rfl
 | succ n ih=>simp only [sumI,ih]; omega
theorem sumI_mul {n:Nat} {f:Nat → Int} {c:Int}:sumI n (fun k=>f k*c)=sumI n f*c:=by
 induction n with
 | zero=>simp [sumI]
 | succ n ih=>simp only [sumI,ih]; rw [Int.add_mul]
theorem sumI_zero {n:Nat}:sumI n (fun _=>0)=0:=by
 induction n with
 | zero=>rfl
 | succ n ih=>simp only [sumI,ih]; rfl
theorem sumI_nonneg {n:Nat} {f:Nat → Int} (h:∀k,k < n→0≤f k):0≤sumI n f:=by
 induction n with
 | zero=>exact Int.le_refl 0
 | succ n ih=>simp only [sumI]; have:=ih (fun k hk=>h k (by omega)); have:=h n (by omega); omega
theorem sumI_le {n:Nat} {f g:Nat → Int} (h:∀k,k < n→f k≤g k):sumI n f≤sumI n g:=by
 induction n with
 | zero=>exact Int.le_refl 0
 | succ n ih=>simp only [sumI]; have:=ih (fun k hk=>h k (by omega)); have:=h n (by omega); omega
theorem sumI_one {n k:Nat} {c:Int} (h:k < n):sumI n (fun x=>if k=x then c else 0)=c:=by
 induction n with
 | zero=>omega
 | succ n ih =>
  simp only [sumI]
  by_cases e:k=n
  ·subst e
   rw [if_pos rfl,sumI_congr (g:=fun _=>0) (fun x hx=>if_neg (by omega)),sumI_zero]; omega
  ·rw [if_neg e,ih (by omega)]; omega
theorem sumI_split {a b:Nat} {f:Nat → Int}:sumI (a+b) f=sumI a f+sumI b (fun k=>f (a+k)):=by
 induction b with
 | zero=>simp [sumI]
 | succ b ih=>rw [←Nat.add_assoc]; simp only [sumI,ih]; omega
theorem sumI_block {a b:Nat} {f:Nat → Int}:sumI (a*b) f=sumI a (fun x=>sumI b (fun y=>f (x*b+y))):=by
 induction a with
 | zero=>simp [sumI]
 | succ a ih=>rw [Nat.succ_mul,sumI_split,ih]; simp only [sumI]
def prodTo:Nat → (Nat → Nat)→Nat
 | 0,_=>1
 | n+1,f=>prodTo n f*f n
theorem prodTo_congr {n:Nat} {f g:Nat → Nat} (h:∀k,k < n→f k=g k):prodTo n f=prodTo n g:=by
 induction n with
 | zero=>rfl
 | succ n ih=>simp only [prodTo]; rw [ih (fun k hk=>h k (by omega)),h n (by omega)]
theorem prodTo_le {n K:Nat} {f:Nat → Nat} (h:∀k,k < n→f k≤K):prodTo n f≤K^n:=by
 induction n with
 | zero=>simp [prodTo]
 | succ n ih=>simp only [prodTo,Nat.pow_succ]; exact Nat.mul_le_mul (ih fun k hk=>h k (by omega)) (h n (by omega))
theorem prodTo_apart {n j:Nat} {f:Nat → Nat} (h:j < n):prodTo n (fun v=>if v=j then 1 else f v)*f j=prodTo n f:=by
 induction n with
 | zero=>omega
 | succ n ih =>
  simp only [prodTo]
  by_cases e:n=j
  ·subst e
   rw [if_pos rfl,Nat.mul_one,prodTo_congr (g:=f) (fun k hk=>if_neg (by omega))]
  ·rw [if_neg e,←ih (by omega),Nat.mul_assoc,Nat.mul_comm (f n),←Nat.mul_assoc]
end Go.Ab
namespace Go.Ab
open Go
structure NF where
 n:Nat
 g:Nat
 card:Nat → Nat
 par:Nat → List Nat
 W:Nat → Nat → Nat → Nat
def lprod (f:Nat → Nat) (l:List Nat):Nat := l.foldl (fun r p=>r*f p) 1
def NF.rows (D:NF) (v:Nat):Nat := lprod D.card (D.par v)
def NF.node (D:NF) (v:Nat):Tapi_Node:=⟨D.card v,(D.par v).map (fun (p:Nat)=>(p:Int)),rowG (D.rows v) fun r=>rowG (D.card v) fun x=>(D.W v r x:Int)⟩
def NF.net (D:NF):Tapi_Net:=⟨D.g,rowG D.n D.node⟩
def rowI (n:Nat) (w:Nat → Nat):List Int:=rowG n fun j=>(w j:Int)
theorem rowI_get {n k:Nat} {w:Nat → Nat} (h:k < n):lkI (rowI n w) (k:Int)=some (w k:Int):=rowG_get h
theorem rowI_len {n:Nat} {w:Nat → Nat}:(rowI n w).length=n:=rowG_len
structure VN (D:NF):Prop where
 n1:1≤D.n
 n8:D.n≤8
 g1:1≤D.g
 g60:D.g≤60
 card:∀v,v < D.n→1≤D.card v∧D.card v≤4
 par:∀v,v < D.n→∀p∈D.par v,p < D.n
 len:∀v,v < D.n→(D.par v).length≤8
 W:∀v r x,v < D.n→r < D.rows v→x < D.card v→D.W v r x≤D.g
 worlds:prodTo D.n D.card≤1024
def horner (c w:Nat → Nat) (l:List Nat):Nat := l.foldl (fun r p=>r*c p+w p) 0
theorem horner_append {c w:Nat → Nat} {l:List Nat} {p:Nat}:horner c w (l++[p])=horner c w l*c p+w p:=by simp [horner]
theorem lprod_append {f:Nat → Nat} {l:List Nat} {p:Nat}:lprod f (l++[p])=lprod f l*f p:=by simp [lprod]
theorem horner_lt {c w:Nat → Nat} {l:List Nat} (h:∀p∈l,w p < c p):horner c w l < lprod c l:=by
 have key:∀(l:List Nat) (r R:Nat),r < R→(∀p∈l,w p < c p)→l.foldl (fun r p=>r*c p+w p) r < l.foldl (fun r p=>r*c p) R:=by
  intro l
  induction l with
  | nil=>intro r R h _; exact h
  | cons p l ih =>
   intro r R hr hp
   simp only [List.foldl_cons]
   refine ih _ _ ?_ (fun q hq=>hp q (List.mem_cons_of_mem _ hq))
   have h1:=hp p (by simp)
   have h2:(r+1)*c p≤R*c p:=Nat.mul_le_mul_right _ hr
   rw [Nat.succ_mul] at h2
   omega
 exact key l 0 1 (by omega) h
theorem lprod_le {f:Nat → Nat} {l:List Nat} (h:∀p∈l,f p≤4):lprod f l≤4^l.length:=by
 have key:∀(l:List Nat) (R K:Nat),R≤K→(∀p∈l,f p≤4)→l.foldl (fun r p=>r*f p) R≤K*4^l.length:=by
  intro l
  induction l with
  | nil=>intro R K h _; simpa using h
  | cons p l ih =>
   intro R K hr hp
   simp only [List.foldl_cons,List.length_cons,Nat.pow_succ]
   have:=ih (R*f p) (K*4) (Nat.mul_le_mul hr (hp p (by simp))) (fun q hq=>hp q (List.mem_cons_of_mem _ hq))
   rwa [Nat.mul_assoc,Nat.mul_comm 4] at this
 have:=key l 1 1 (by omega) h
 simpa [lprod] using this
def NF.idx (D:NF) (v:Nat) (w:Nat → Nat):Nat := horner D.card w (D.par v)
def NF.wt (D:NF) (w:Nat → Nat) (v:Nat):Nat := D.W v (D.idx v w) (w v)
def NF.ok (D:NF) (w:Nat → Nat):Prop:=∀v,v < D.n→w v < D.card v
section
variable {D:NF} (V:VN D) {w:Nat → Nat}
include V
theorem VN.idx_lt (hw:D.ok w) {v:Nat} (hv:v < D.n):D.idx v w < D.rows v:=horner_lt fun p hp=>hw p (V.par v hv p hp)
theorem VN.wt_le (hw:D.ok w) {v:Nat} (hv:v < D.n):D.wt w v≤60:=Nat.le_trans (V.W v _ _ hv (V.idx_lt hw hv) (hw v hv)) V.g60
theorem VN.rows_le {v:Nat} (hv:v < D.n):D.rows v≤65536:=by
 refine Nat.le_trans (lprod_le fun p hp=>(V.card p (V.par v hv p hp)).2) ?_
 exact Nat.pow_le_pow_right (by omega) (V.len v hv)
omit V in
theorem take_succ' {α:Type} {l:List α} {k:Nat} (h:k < l.length):l.take (k+1)=l.take k++[l[k]]:=by rw [List.take_add_one,List.getElem?_eq_getElem h]; rfl
theorem VN.node {v:Nat} (hv:v < D.n):lkI D.net.Nodes (v:Int)=some (D.node v):=rowG_get hv
theorem VN.weigh0 (hw:D.ok w) {v:Nat} (hv:v < D.n):whileN fuel (g_sensitive_weigh_b0 (D.node v) D.net (rowI D.n w)) (0,0)=some (D.idx v w:Int):=by
 have hl:(D.node v).Parents.length=(D.par v).length:=by simp [NF.node]
 refine whileN_run (fun k=>((horner D.card w ((D.par v).take k):Int),(k:Int))) (D.par v).length _ rfl (fun k hk=>?_) ?_ (by have:=V.len v hv; omega)
 ·have hlen:=V.len v hv
  have hp:=V.par v hv (D.par v)[k] (List.getElem_mem hk)
  have hpar:lkI (D.node v).Parents (k:Int)=some (((D.par v)[k]:Nat):Int):=by rw [lkI_nat (by rw [hl]; exact hk)]; simp [NF.node]
  have h1:horner D.card w ((D.par v).take k) < lprod D.card ((D.par v).take k):=horner_lt fun p hp=>hw p (V.par v hv p (List.mem_of_mem_take hp))
  have h2:lprod D.card ((D.par v).take k)≤4^8:=Nat.le_trans (lprod_le fun p hp=>(V.card p (V.par v hv p (List.mem_of_mem_take hp))).2) (Nat.pow_le_pow_right (by omega) (by rw [List.length_take]; omega))
  have h3:horner D.card w ((D.par v).take (k+1))=horner D.card w ((D.par v).take k)*D.card (D.par v)[k]+w (D.par v)[k]:=by rw [take_succ' hk,horner_append]
  have hc:=(V.card _ hp).2
  have hww:=hw _ hp
  have h4:horner D.card w ((D.par v).take k)*D.card (D.par v)[k]≤65536*4:=Nat.mul_le_mul (by omega) hc
  unfold g_sensitive_weigh_b0
  simp only
  rw [if_pos (by rw [hl]; simpa using hk),hpar]
  simp only [Option.bind_some]
  rw [V.node hp]
  simp only [Option.bind_some]
  rw [rowI_get hp]
  simp only [Option.bind_some]
  have e1:((horner D.card w ((D.par v).take k):Nat):Int)*(D.node (D.par v)[k]).Card=((horner D.card w ((D.par v).take k)*D.card (D.par v)[k]:Nat):Int):=by simp [NF.node]
  have w1:IntKind.i64.wrap ((horner D.card w ((D.par v).take k)*D.card (D.par v)[k]:Nat):Int)=((horner D.card w ((D.par v).take k)*D.card (D.par v)[k]:Nat):Int):=w64 (by omega)
  rw [e1,w1,w64 (by omega),w64 (by omega),h3]
  simp
 ·unfold g_sensitive_weigh_b0
  simp only
  rw [if_neg (by rw [hl]; simp)]
  simp [NF.idx]
end
structure SF where
 N:Nat
 R:Nat
 F:Nat
 T:Nat
def SF.sh (s:SF):Tapi_Shift:=⟨s.N,s.R,s.F,s.T⟩
def NF.hit (D:NF) (s:SF) (w:Nat → Nat):Bool:=D.idx s.N w==s.R
def NF.change (D:NF) (s:SF) (w:Nat → Nat):Int:=if D.hit s w=true then (if w s.N=s.F then -1 else if w s.N=s.T then 1 else 0) else 0
def NF.rest (D:NF) (s:SF) (w:Nat → Nat):Nat → Nat := fun k=>prodTo k fun v=>if v=s.N∧D.hit s w=true then 1 else D.wt w v
def NF.own (D:NF) (s:SF) (w:Nat → Nat):Nat := if D.hit s w=true then D.wt w s.N else 1
def NF.fA (D:NF) (s:SF) (w:Nat → Nat):Int:=(D.rest s w D.n:Int)*D.own s w
def NF.fB (D:NF) (s:SF) (w:Nat → Nat):Int:=(D.rest s w D.n:Int)*D.change s w
section
variable {D:NF} (V:VN D) {w:Nat → Nat} {s:SF}
include V
theorem VN.rest_le (hw:D.ok w) {k:Nat} (hk:k≤D.n):D.rest s w k≤167961600000000:=by
 have h1:D.rest s w k≤60^k:=prodTo_le fun v hv=>by
  split
  ·omega
  ·exact V.wt_le hw (by omega)
 have h2:(60:Nat)^k≤60^8:=Nat.pow_le_pow_right (by omega) (by have:=V.n8; omega)
 exact Nat.le_trans h1 (Nat.le_trans h2 (by decide))
theorem VN.own_le (hw:D.ok w) (hs:s.N < D.n):D.own s w≤60:=by
 unfold NF.own
 split
 ·exact V.wt_le hw hs
 ·omega
theorem VN.weigh_eq (hw:D.ok w) (hs:s.N < D.n):g_sensitive_weigh D.net (rowI D.n w) s.sh=some (D.fA s w,D.fB s w):=by
 have hlen:D.net.Nodes.length=D.n:=rowG_len
 have hn8:=V.n8
 have hrun:whileN fuel (g_sensitive_weigh_b1 D.net (rowI D.n w) s.sh) (1,1,0,0)=some ((D.rest s w D.n:Int),(D.own s w:Int),D.change s w):=by
  refine whileN_run (fun k=>((D.rest s w k:Int),(if s.N < k then (D.own s w:Int) else 1),(if s.N < k then D.change s w else 0),(k:Int))) D.n _ (by simp [NF.rest,prodTo]) (fun k hk=>?_) ?_ (by omega)
  ·have hb:=V.rest_le (s:=s) hw (k:=k) (by omega)
   have hwt:=V.wt_le hw hk
   have hr1:D.rest s w (k+1)=D.rest s w k*(if k=s.N∧D.hit s w=true then 1 else D.wt w k):=rfl
   have hi:=V.idx_lt hw hk
   have hm:D.rest s w k*D.wt w k≤167961600000000*60:=Nat.mul_le_mul hb hwt
   unfold g_sensitive_weigh_b1
   simp only
   rw [if_pos (by rw [hlen]; simpa using hk),V.node hk]
   simp only [Option.bind_some]
   rw [V.weigh0 hw hk]
   simp only [Option.bind_some]
   rw [show lkI (D.node k).Rows (D.idx k w:Int)=some (rowG (D.card k) fun x=>(D.W k (D.idx k w) x:Int)) from rowG_get hi]
   simp only [Option.bind_some]
   rw [rowI_get hk]
   simp only [Option.bind_some]
   rw [show lkI (rowG (D.card k) fun x=>(D.W k (D.idx k w) x:Int)) (w k:Int)=some (D.wt w k:Int) from rowG_get (hw k hk)]
   simp only [Option.bind_some]
   have hi1:IntKind.i64.wrap ((k:Int)+1)=((k+1:Nat):Int):=by rw [w64 (by omega)]; omega
   rw [hi1]
   by_cases hN:k=s.N
   ·subst hN
    by_cases hh:D.hit s w=true
    ·have hR:D.idx s.N w=s.R:=by simpa [NF.hit] using hh
     rw [if_neg (by simp [SF.sh,hR])]
     have hrest:D.rest s w (s.N+1)=D.rest s w s.N:=by rw [hr1,if_pos ⟨rfl,hh⟩,Nat.mul_one]
     rw [hrest]
     simp only [Nat.lt_irrefl,if_false,Nat.lt_succ_self,if_true,NF.own,NF.change,hh]
     by_cases hF:w s.N=s.F
     ·rw [if_pos (by simp [SF.sh,hF])]; simp [hF]
     ·rw [if_neg (by simp [SF.sh]; omega)]
      by_cases hT:w s.N=s.T
      ·rw [if_pos (by simp [SF.sh,hT]),if_neg hF,if_pos hT]
      ·rw [if_neg (by simp [SF.sh]; omega),if_neg hF,if_neg hT]
    ·have hR:D.idx s.N w≠s.R:=by simpa [NF.hit] using hh
     rw [if_pos (by simp [SF.sh]; omega)]
     have hrest:D.rest s w (s.N+1)=D.rest s w s.N*D.wt w s.N:=by rw [hr1,if_neg (fun h=>hh h.2)]
     rw [hrest]
     simp only [Nat.lt_irrefl,if_false,Nat.lt_succ_self,if_true,NF.own,NF.change,hh]
     rw [w64 (by rw [←Int.natCast_mul]; omega)]
     simp
   ·have e1:(s.N < k+1)=(s.N < k):=propext (by omega)
    rw [if_pos (by simp [SF.sh]; omega)]
    have hrest:D.rest s w (k+1)=D.rest s w k*D.wt w k:=by rw [hr1,if_neg (fun h=>hN h.1)]
    rw [hrest]
    simp only [e1]
    rw [w64 (by rw [←Int.natCast_mul]; omega)]
    simp
  ·unfold g_sensitive_weigh_b1
   simp only
   rw [if_neg (by rw [hlen]; simp)]
   simp [hs]
 have hb:=V.rest_le (s:=s) hw (k:=D.n) (Nat.le_refl _)
 have ho:=V.own_le (s:=s) hw hs
 have hm:D.rest s w D.n*D.own s w≤167961600000000*60:=Nat.mul_le_mul hb ho
 have hc:D.change s w=-1∨D.change s w=0∨D.change s w=1:=by
  unfold NF.change
  split
  ·split
   ·exact .inl rfl
   ·split
    ·exact .inr (.inr rfl)
    ·exact .inr (.inl rfl)
  ·exact .inr (.inl rfl)
 unfold g_sensitive_weigh
 rw [hrun]
 simp only [Option.bind_some]
 rw [w64 (by rw [←Int.natCast_mul]; omega),w64 (by rcases hc with h | h | h <;> rw [h] <;> omega)]
 rfl
theorem VN.fB_bound (hw:D.ok w):-167961600000000≤D.fB s w∧D.fB s w≤167961600000000:=by
 have hb:=V.rest_le (s:=s) hw (k:=D.n) (Nat.le_refl _)
 have hc:D.change s w=-1∨D.change s w=0∨D.change s w=1:=by
  unfold NF.change
  split
  ·split
   ·exact .inl rfl
   ·split
    ·exact .inr (.inr rfl)
    ·exact .inr (.inl rfl)
  ·exact .inr (.inl rfl)
 unfold NF.fB
 rcases hc with h | h | h <;> rw [h] <;> omega
theorem VN.fA_eq (hs:s.N < D.n):D.fA s w=(prodTo D.n (D.wt w):Int):=by
 unfold NF.fA NF.rest NF.own
 by_cases hh:D.hit s w=true
 ·rw [if_pos hh,prodTo_congr (g:=fun v=>if v=s.N then 1 else D.wt w v) (fun k _=>by simp [hh]),←Int.natCast_mul,prodTo_apart hs]
 ·rw [if_neg hh,prodTo_congr (g:=D.wt w) (fun k _=>by rw [if_neg (fun h=>hh h.2)])]; simp
end
end Go.Ab
namespace Go.Ab
open Go
def TM (D:NF) (E:Nat → Int) (f:(Nat → Nat)→Int):Nat → Nat → (Nat → Nat)→Int
 | 0,_,w=>f w
 | d+1,i,w=>sumI (D.card i) fun x=>if E i=-1∨E i=(x:Int) then TM D E f d (i+1) (upd w i x) else 0
def PC (D:NF):Nat → Nat → Nat
 | 0,_=>1
 | d+1,i=>D.card i*PC D d (i+1)
theorem pc_pos {D:NF} (V:VN D):∀(d i:Nat),i+d=D.n→1≤PC D d i
 | 0,_,_=>Nat.le_refl 1
 | d+1,i,h=>by
  have:=pc_pos V d (i+1) (by omega)
  have h2:=(V.card i (by omega)).1
  exact Nat.le_trans (by simp) (Nat.mul_le_mul h2 this)
theorem pc_prod {D:NF}:∀(d i:Nat),prodTo i D.card*PC D d i=prodTo (i+d) D.card
 | 0,i=>by simp [PC]
 | d+1,i=>by
  have:=pc_prod (D:=D) d (i+1)
  simp only [PC]
  rw [←Nat.mul_assoc]
  rw [show i+(d+1)=i+1+d by omega,←this]; rfl
def Ext (D:NF) (f:(Nat → Nat)→Int):Prop:=∀w w',(∀j,j < D.n→w j=w' j)→f w=f w'
theorem tm_congr {D:NF} {E:Nat → Int} {f:(Nat → Nat)→Int} (hf:Ext D f):∀(d i:Nat) (w w':Nat → Nat),i+d=D.n→(∀j,j < i→w j=w' j)→TM D E f d i w=TM D E f d i w'
 | 0,i,w,w',h,hw=>hf w w' fun j hj=>hw j (by omega)
 | d+1,i,w,w',h,hw=>by
  unfold TM
  refine sumI_congr fun x _=>?_
  rw [tm_congr hf d (i+1) (upd w i x) (upd w' i x) (by omega) (fun j hj=>?_)]
  unfold upd
  by_cases e:j=i
  ·rw [if_pos e,if_pos e]
  ·rw [if_neg e,if_neg e]; exact hw j (by omega)
def KK:Int:=167961600000000
def BD (m:Nat) (z:Int):Prop:=-((m:Int)*KK)≤z∧z≤(m:Int)*KK
theorem BD.add {m p:Nat} {a b:Int} (h:BD m a) (k:BD p b):BD (m+p) (a+b):=by
 unfold BD at *
 rw [Int.natCast_add,Int.add_mul]; omega
theorem BD.zero {m:Nat}:BD m 0:=by unfold BD KK; omega
theorem BD.mono {m p:Nat} {a:Int} (h:BD m a) (hp:m≤p):BD p a:=by
 unfold BD KK at *; omega
theorem BD.fit {m:Nat} {a:Int} (h:BD m a) (hm:m≤1024):-9223372036854775808≤a∧a≤9223372036854775807:=by unfold BD KK at h; omega
theorem BD.sum {n p:Nat} {f:Nat → Int} (h:∀k,k < n→BD p (f k)):BD (n*p) (sumI n f):=by
 induction n with
 | zero=>exact BD.zero
 | succ n ih=>simp only [sumI]; rw [Nat.succ_mul]; exact (ih fun k hk=>h k (by omega)).add (h n (by omega))
theorem ok_upd {D:NF} {w:Nat → Nat} {i x:Nat} (h:D.ok w) (hx:x < D.card i):D.ok (upd w i x):=fun v hv=>by
 unfold upd
 by_cases e:v=i
 ·rw [if_pos e,e]; exact hx
 ·rw [if_neg e]; exact h v hv
theorem tm_bound {D:NF} {E:Nat → Int} {f:(Nat → Nat)→Int} (hf:∀w,D.ok w→BD 1 (f w)):∀(d i:Nat) (w:Nat → Nat),i+d=D.n→D.ok w→BD (PC D d i) (TM D E f d i w)
 | 0,i,w,_,hw=>hf w hw
 | d+1,i,w,h,hw=>by
  unfold TM PC
  refine BD.sum fun x hx=>?_
  split
  ·exact tm_bound hf d (i+1) _ (by omega) (ok_upd hw hx)
  ·exact BD.zero
def quad (A B:Nat → Int):Nat → Int × Int × Int × Int:=fun x=>(A x,B x,0,0)
def at' (v x:Nat) (f:(Nat → Nat)→Int):(Nat → Nat)→Int:=fun w=>if w v=x then f w else 0
section
variable {D:NF} (V:VN D) {s:SF} {E:Nat → Int} {v:Nat}
theorem idx_ext (V:VN D) {w w':Nat → Nat} (h:∀j,j < D.n→w j=w' j) {u:Nat} (hu:u < D.n):D.idx u w=D.idx u w':=by
 unfold NF.idx horner
 have:∀(l:List Nat) (r:Nat),(∀p∈l,p < D.n)→l.foldl (fun r p=>r*D.card p+w p) r=l.foldl (fun r p=>r*D.card p+w' p) r:=by
  intro l
  induction l with
  | nil=>intros; rfl
  | cons p l ih =>
   intro r hp
   simp only [List.foldl_cons]
   rw [h p (hp p (by simp)),ih _ (fun q hq=>hp q (List.mem_cons_of_mem _ hq))]
 exact this _ 0 (V.par u hu)
theorem wt_ext (V:VN D) {w w':Nat → Nat} (h:∀j,j < D.n→w j=w' j) {u:Nat} (hu:u < D.n):D.wt w u=D.wt w' u:=by
 unfold NF.wt; rw [idx_ext V h hu,h u hu]
theorem hit_ext (V:VN D) (hs:s.N < D.n) {w w':Nat → Nat} (h:∀j,j < D.n→w j=w' j):D.hit s w=D.hit s w':=by unfold NF.hit; rw [idx_ext V h hs]
theorem rest_ext (V:VN D) (hs:s.N < D.n) {w w':Nat → Nat} (h:∀j,j < D.n→w j=w' j):D.rest s w D.n=D.rest s w' D.n:=by
 unfold NF.rest
 exact prodTo_congr fun u hu=>by rw [hit_ext V hs h,wt_ext V h hu]
theorem fA_ext (V:VN D) (hs:s.N < D.n):Ext D (D.fA s):=fun w w' h=>by
 unfold NF.fA NF.own; rw [rest_ext V hs h,hit_ext V hs h,wt_ext V h hs]
theorem fB_ext (V:VN D) (hs:s.N < D.n):Ext D (D.fB s):=fun w w' h=>by
 unfold NF.fB NF.change; rw [rest_ext V hs h,hit_ext V hs h,h s.N hs]
theorem at_ext {f:(Nat → Nat)→Int} (hv:v < D.n) (hf:Ext D f) {x:Nat}:Ext D (at' v x f):=fun w w' h=>by
 unfold at'; rw [h v hv,hf w w' h]
theorem fA_bd (V:VN D) (hs:s.N < D.n):∀w,D.ok w→BD 1 (D.fA s w):=fun w hw=>by
 rw [V.fA_eq hs]
 have h1:prodTo D.n (D.wt w)≤60^D.n:=prodTo_le fun u hu=>V.wt_le hw hu
 have h2:(60:Nat)^D.n≤60^8:=Nat.pow_le_pow_right (by omega) V.n8
 have h3:(60:Nat)^8=167961600000000:=by decide
 unfold BD KK; omega
theorem fB_bd (V:VN D):∀w,D.ok w→BD 1 (D.fB s w):=fun w hw=>by
 have:=V.fB_bound (s:=s) hw
 unfold BD KK; omega
theorem at_bd {f:(Nat → Nat)→Int} (hf:∀w,D.ok w→BD 1 (f w)) {x:Nat}:∀w,D.ok w→BD 1 (at' v x f w):=fun w hw=>by
 unfold at'
 split
 ·exact hf w hw
 ·exact BD.zero
def SM (D:NF) (E:Nat → Int) (f:(Nat → Nat)→Int) (d i:Nat) (w:Nat → Nat) (x:Nat):Int:=sumI x fun y=>if E i=-1∨E i=(y:Int) then TM D E f d (i+1) (upd w i y) else 0
theorem sm_bd {f:(Nat → Nat)→Int} (hf:∀w,D.ok w→BD 1 (f w)) {d i x:Nat} {w:Nat → Nat} (hi:i+1+d=D.n) (hw:D.ok w) (hx:x≤D.card i):BD (x*PC D d (i+1)) (SM D E f d i w x):=by
 refine BD.sum fun y hy=>?_
 split
 ·exact tm_bound hf d (i+1) _ hi (ok_upd hw (by omega))
 ·exact BD.zero
def RS (D:NF) (s:SF) (E:Nat → Int) (v m d i:Nat) (w:Nat → Nat) (A B:Nat → Int) (C Dd:Int):Prop :=
 D.ok w∧(∀x,BD m (A x)∧BD m (B x))∧BD m C∧BD m Dd∧m+PC D d i≤1024∧i+d=D.n
theorem lines_rec (V:VN D) (hs:s.N < D.n) (hv:v < D.n) (hE:∀j,j < D.n→-1≤E j∧E j < D.card j):∀(d N:Nat),d < N→∀(i m:Nat) (w:Nat → Nat) (A B:Nat → Int) (C Dd:Int),RS D s E v m d i w A B C Dd →
  ∃w',D.ok w'∧(∀j,j < i→w' j=w j)∧recN (g_sensitive_lines_r1 D.net s.sh (v:Int) (rowG D.n E)) N ((i:Int),rowG (D.card v) (quad A B),C,Dd,rowI D.n w) =
   some (rowG (D.card v) (quad (fun x=>A x+TM D E (at' v x (D.fA s)) d i w) (fun x=>B x+TM D E (at' v x (D.fB s)) d i w)),C+TM D E (D.fA s) d i w,Dd+TM D E (D.fB s) d i w,rowI D.n w')
 | d,0,h,_,_,_,_,_,_,_,_=>by omega
 | 0,N+1,_,i,m,w,A,B,C,Dd,⟨hw,hAB,hC,hD,hm,hi⟩=>by
  have hm':m+1≤1024:=hm
  refine ⟨w,hw,fun _ _=>rfl,?_⟩
  show g_sensitive_lines_r1 _ _ _ _ _ _=_
  unfold g_sensitive_lines_r1
  simp only
  rw [if_pos (by rw [rowI_len]; simp; omega),V.weigh_eq hw hs]
  simp only [Option.bind_some]
  rw [rowI_get hv]
  simp only [Option.bind_some]
  rw [show lkI (rowG (D.card v) (quad A B)) (w v:Int)=some (quad A B (w v)) from rowG_get (hw v hv)]
  simp only [Option.bind_some,quad,Int.toNat_natCast]
  have f1:=((hAB (w v)).1.add (fA_bd V hs w hw)).fit hm'
  have f2:=((hAB (w v)).2.add (fB_bd V (s:=s) w hw)).fit hm'
  have f3:=(hC.add (fA_bd V hs w hw)).fit hm'
  have f4:=(hD.add (fB_bd V (s:=s) w hw)).fit hm'
  rw [w64 f1,w64 f2,w64 f3,w64 f4]
  simp only [TM]
  rw [rowG_set,rowG_set]
  congr 2
  refine rowG_congr fun x hx=>?_
  simp only [quad,at']
  by_cases e:x=w v
  ·subst e; simp
  ·rw [if_neg e,if_neg e,if_neg (Ne.symm e),if_neg (Ne.symm e)]; simp
 | d+1,N+1,hN,i,m,w,A,B,C,Dd,⟨hw,hAB,hC,hD,hm,hi⟩=>by
  have hin:i < D.n:=by omega
  have hc:=V.card i hin
  have hPC:PC D (d+1) i=D.card i*PC D d (i+1):=rfl
  have hEi:=hE i hin
  have hloop:=whileN_ex (body:=g_sensitive_lines_b0 (D.node i) (rowG D.n E) ((i:Int),rowG (D.card v) (quad A B),C,Dd,rowI D.n w) (recN (g_sensitive_lines_r1 D.net s.sh (v:Int) (rowG D.n E)) N))
   (fun st=>∃(x:Nat) (w':Nat → Nat),x≤D.card i∧D.ok w'∧(∀j,j < i→w' j=w j)∧st=((x:Int),rowG (D.card v) (quad (fun y=>A y+SM D E (at' v y (D.fA s)) d i w x) (fun y=>B y+SM D E (at' v y (D.fB s)) d i w x)),C+SM D E (D.fA s) d i w x,Dd+SM D E (D.fB s) d i w x,rowI D.n w'))
   (fun st=>D.card i - st.1.toNat)
   (fun r=>∃(w':Nat → Nat),D.ok w'∧(∀j,j < i→w' j=w j)∧r=(rowG (D.card v) (quad (fun y=>A y+TM D E (at' v y (D.fA s)) (d+1) i w) (fun y=>B y+TM D E (at' v y (D.fB s)) (d+1) i w)),C+TM D E (D.fA s) (d+1) i w,Dd+TM D E (D.fB s) (d+1) i w,rowI D.n w'))
   (fun st hst=>?_) ((0:Int),rowG (D.card v) (quad A B),C,Dd,rowI D.n w) ⟨0,w,by omega,hw,fun _ _=>rfl,by simp [SM,sumI]⟩ (by simp; omega)
  ·obtain ⟨r,h1,w',h2,h3,rfl⟩:=hloop
   refine ⟨w',h2,h3,?_⟩
   show g_sensitive_lines_r1 _ _ _ _ (recN (g_sensitive_lines_r1 D.net s.sh (v:Int) (rowG D.n E)) N) _=_
   rw [g_sensitive_lines_r1]
   simp only
   rw [if_neg (by rw [rowI_len]; simp; omega),V.node hin]
   simp only [Option.bind_some]
   rw [h1]
   rfl
  ·obtain ⟨x,w',hx,hw',hag,rfl⟩:=hst
   have ew:IntKind.i64.wrap ((x:Int)+1)=((x+1:Nat):Int):=by rw [w64 (by omega)]; omega
   have ei:IntKind.i64.wrap ((i:Int)+1)=((i+1:Nat):Int):=by have:=V.n8; rw [w64 (by omega)]; omega
   unfold g_sensitive_lines_b0
   simp only
   by_cases hlt:x < D.card i
   ·left
    rw [if_pos (by simp [NF.node]; omega),show lkI (rowG D.n E) (i:Int)=some (E i) from rowG_get hin]
    simp only [Option.bind_some]
    have hsm:∀f,SM D E f d i w (x+1)=SM D E f d i w x+(if E i=-1∨E i=(x:Int) then TM D E f d (i+1) (upd w i x) else 0):=fun f=>rfl
    by_cases hok:E i=-1∨E i=(x:Int)
    ·
     have hxm:m+x*PC D d (i+1)+PC D d (i+1)≤1024:=by
      have:(x+1)*PC D d (i+1)≤D.card i*PC D d (i+1):=Nat.mul_le_mul_right _ hlt
      rw [Nat.succ_mul] at this
      omega
     have okw:D.ok (upd w' i x):=ok_upd hw' hlt
     obtain ⟨w2,k1,k2,k3⟩:=lines_rec V hs hv hE d N (by omega) (i+1) (m+x*PC D d (i+1)) (upd w' i x)
      (fun y=>A y+SM D E (at' v y (D.fA s)) d i w x) (fun y=>B y+SM D E (at' v y (D.fB s)) d i w x) (C+SM D E (D.fA s) d i w x) (Dd+SM D E (D.fB s) d i w x)
      ⟨okw,fun y=>⟨(hAB y).1.add (sm_bd (at_bd (fA_bd V hs)) (by omega) hw (by omega)),(hAB y).2.add (sm_bd (at_bd (fB_bd V)) (by omega) hw (by omega))⟩,hC.add (sm_bd (fA_bd V hs) (by omega) hw (by omega)),hD.add (sm_bd (fB_bd V) (by omega) hw (by omega)),hxm,by omega⟩
     have hcg:∀f,Ext D f→TM D E f d (i+1) (upd w' i x)=TM D E f d (i+1) (upd w i x):=fun f hf=>tm_congr hf d (i+1) _ _ (by omega) fun j hj=>by
      by_cases e:j=i
      ·subst e; rw [upd_same,upd_same]
      ·rw [upd_ne e,upd_ne e]; exact hag j (by omega)
     have hset:(rowI D.n w').set i (x:Int)=rowI D.n (upd w' i x):=by
      unfold rowI; rw [rowG_set]
      refine rowG_congr fun j _=>?_
      unfold upd
      split <;> rfl
     have fin:((if (E i==-1)=true then (lkI (rowI D.n w') (i:Int)).bind fun _=>(recN (g_sensitive_lines_r1 D.net s.sh (v:Int) (rowG D.n E)) N (IntKind.i64.wrap ((i:Int)+1),rowG (D.card v) (quad (fun y=>A y+SM D E (at' v y (D.fA s)) d i w x) (fun y=>B y+SM D E (at' v y (D.fB s)) d i w x)),C+SM D E (D.fA s) d i w x,Dd+SM D E (D.fB s) d i w x,List.set (rowI D.n w') (Int.toNat (i:Int)) (x:Int))).bind fun x27=>some (Step.next (IntKind.i64.wrap ((x:Int)+1),x27.1,x27.2.1,x27.2.2.1,x27.2.2.2))
       else if (E i==(x:Int))=true then (lkI (rowI D.n w') (i:Int)).bind fun _=>(recN (g_sensitive_lines_r1 D.net s.sh (v:Int) (rowG D.n E)) N (IntKind.i64.wrap ((i:Int)+1),rowG (D.card v) (quad (fun y=>A y+SM D E (at' v y (D.fA s)) d i w x) (fun y=>B y+SM D E (at' v y (D.fB s)) d i w x)),C+SM D E (D.fA s) d i w x,Dd+SM D E (D.fB s) d i w x,List.set (rowI D.n w') (Int.toNat (i:Int)) (x:Int))).bind fun x27=>some (Step.next (IntKind.i64.wrap ((x:Int)+1),x27.1,x27.2.1,x27.2.2.1,x27.2.2.2))
       else some (Step.next (IntKind.i64.wrap ((x:Int)+1),rowG (D.card v) (quad (fun y=>A y+SM D E (at' v y (D.fA s)) d i w x) (fun y=>B y+SM D E (at' v y (D.fB s)) d i w x)),C+SM D E (D.fA s) d i w x,Dd+SM D E (D.fB s) d i w x,rowI D.n w'))):Option (Step (Int × (List (Int × Int × Int × Int)) × Int × Int × (List Int)) ((List (Int × Int × Int × Int)) × Int × Int × (List Int)))) =
       some (Step.next (((x+1:Nat):Int),rowG (D.card v) (quad (fun y=>A y+SM D E (at' v y (D.fA s)) d i w (x+1)) (fun y=>B y+SM D E (at' v y (D.fB s)) d i w (x+1))),C+SM D E (D.fA s) d i w (x+1),Dd+SM D E (D.fB s) d i w (x+1),rowI D.n w2)):=by
      rw [ew,ei,Int.toNat_natCast,hset,rowI_get hin]
      simp only [Option.bind_some]
      rw [k3]
      simp only [Option.bind_some]
      rw [hcg _ (fA_ext V hs),hcg _ (fB_ext V hs)]
      have e2:∀y,TM D E (at' v y (D.fA s)) d (i+1) (upd w' i x)=TM D E (at' v y (D.fA s)) d (i+1) (upd w i x):=fun y=>hcg _ (at_ext hv (fA_ext V hs))
      have e3:∀y,TM D E (at' v y (D.fB s)) d (i+1) (upd w' i x)=TM D E (at' v y (D.fB s)) d (i+1) (upd w i x):=fun y=>hcg _ (at_ext hv (fB_ext V hs))
      simp only [hsm,if_pos hok,e2,e3,←Int.add_assoc]
      rcases hok with h | h
      ·rw [if_pos (by simp [h])]
      ·by_cases h':E i=-1
       ·rw [if_pos (by simp [h'])]
       ·rw [if_neg (by simp [h']),if_pos (by simp [h])]
     refine ⟨_,fin,⟨x+1,w2,by omega,k1,fun j hj=>by rw [k2 j (by omega),upd_ne (by omega),hag j hj],rfl⟩,by simp; omega⟩
    ·rw [if_neg (by simp; exact fun h=>hok (.inl h)),if_neg (by simp; exact fun h=>hok (.inr h)),ew]
     refine ⟨_,rfl,⟨x+1,w',by omega,hw',hag,?_⟩,by simp; omega⟩
     simp only [hsm,if_neg hok,Int.add_zero]
   ·right
    have:x=D.card i:=by omega
    subst this
    rw [if_neg (by simp [NF.node])]
    exact ⟨_,rfl,w',hw',hag,rfl⟩
end
end Go.Ab
namespace Go.Ab
open Go
def SW (D:NF) (E:Nat → Int) (f:(Nat → Nat)→Int):Int:=TM D E f D.n 0 (fun _=>0)
def EvOk (D:NF) (E:Nat → Int):Prop:=∀j,j < D.n→-1≤E j∧E j < D.card j
def lineF (D:NF) (s:SF) (E:Nat → Int) (v:Nat) (x:Nat):Int × Int × Int × Int:=(SW D E (at' v x (D.fA s)),SW D E (at' v x (D.fB s)),SW D E (D.fA s),SW D E (D.fB s))
section
variable {D:NF} {s:SF} {E:Nat → Int} {v:Nat}
theorem pc_all (V:VN D):PC D D.n 0≤1024:=by
 have:=pc_prod (D:=D) D.n 0
 simp only [prodTo,Nat.one_mul,Nat.zero_add] at this
 rw [this]; exact V.worlds
theorem lines_eq (V:VN D) (hs:s.N < D.n) (hv:v < D.n) (hE:EvOk D E):g_sensitive_lines D.net (rowG D.n E) (v:Int) s.sh=some (rowG (D.card v) (lineF D s E v)):=by
 have hn8:=V.n8
 have hcv:=V.card v hv
 have hlen:D.net.Nodes.length=D.n:=rowG_len
 obtain ⟨w',h1,h2,h3⟩:=lines_rec V hs hv hE D.n fuel (by show D.n < 1152921504606846976; omega) 0 0 (fun _=>0) (fun _=>0) (fun _=>0) 0 0
  ⟨fun u hu=>(V.card u hu).1,fun _=>⟨BD.zero,BD.zero⟩,BD.zero,BD.zero,by have:=pc_all V; omega,by omega⟩
 unfold g_sensitive_lines
 rw [V.node hv]
 simp only [Option.bind_some]
 have hcard:(D.node v).Card=(D.card v:Int):=rfl
 rw [if_pos (by rw [hcard]; omega),if_pos (by rw [hlen]; omega)]
 rw [hcard,hlen,Int.toNat_natCast,Int.toNat_natCast,rowG_rep,rowG_rep]
 have e0:(rowG (D.card v) fun _=>((0:Int),(0:Int),(0:Int),(0:Int)))=rowG (D.card v) (quad (fun _=>0) (fun _=>0)):=rfl
 have e1:(rowG D.n fun _=>(0:Int))=rowI D.n (fun _=>0):=rfl
 rw [e0,e1,show ((0:Int),rowG (D.card v) (quad (fun _=>0) (fun _=>0)),(0:Int),(0:Int),rowI D.n (fun _=>0))=(((0:Nat):Int),rowG (D.card v) (quad (fun _=>0) (fun _=>0)),(0:Int),(0:Int),rowI D.n (fun _=>0)) from rfl,h3]
 simp only [Option.bind_some,Int.zero_add]
 have hrun:whileN fuel (g_sensitive_lines_b2 (rowG (D.card v) (quad (fun x=>TM D E (at' v x (D.fA s)) D.n 0 fun _=>0) (fun x=>TM D E (at' v x (D.fB s)) D.n 0 fun _=>0)),TM D E (D.fA s) D.n 0 (fun _=>0),TM D E (D.fB s) D.n 0 (fun _=>0),rowI D.n w'))
   (0,rowG (D.card v) (quad (fun x=>TM D E (at' v x (D.fA s)) D.n 0 fun _=>0) (fun x=>TM D E (at' v x (D.fB s)) D.n 0 fun _=>0)))=some (rowG (D.card v) (lineF D s E v)):=by
  refine whileN_run (fun k=>((k:Int),rowG (D.card v) fun x=>if x < k then lineF D s E v x else quad (fun x=>TM D E (at' v x (D.fA s)) D.n 0 fun _=>0) (fun x=>TM D E (at' v x (D.fB s)) D.n 0 fun _=>0) x)) (D.card v) _ (by simp) (fun k hk=>?_) ?_ (by omega)
  ·unfold g_sensitive_lines_b2
   simp only
   rw [if_pos (by rw [rowG_len]; simpa using hk),rowG_get hk]
   simp only [Option.bind_some,Nat.lt_irrefl,if_false,quad,Int.toNat_natCast]
   rw [rowG_set,rowG_set,w64 (by omega)]
   congr 3
   refine rowG_congr fun x hx=>?_
   by_cases e:x=k
   ·subst e; simp [lineF,SW]
   ·rw [if_neg e,if_neg e]
    by_cases e2:x < k
    ·rw [if_pos e2,if_pos (by omega)]
    ·rw [if_neg e2,if_neg (by omega)]
  ·unfold g_sensitive_lines_b2
   simp only
   rw [if_neg (by rw [rowG_len]; simp)]
   congr 2
   refine rowG_congr fun x hx=>?_
   rw [if_pos hx]
 rw [hrun]
 rfl
theorem line_eq (V:VN D) (hs:s.N < D.n) (hv:v < D.n) (hE:EvOk D E) {x:Nat} (hx:x < D.card v) (hc:g_sensitive_check D.net (rowG D.n E) (v:Int) s.sh [(x:Int)]=some 0) :
  g_sensitive_Line D.net (rowG D.n E) (v:Int) (x:Int) s.sh=some (lineF D s E v x,0):=by
 unfold g_sensitive_Line
 rw [hc]
 simp only [Option.bind_some]
 rw [if_neg (by simp),lines_eq V hs hv hE]
 simp only [Option.bind_some]
 rw [rowG_get hx]
 rfl
theorem tm_add {f g:(Nat → Nat)→Int}:∀(d i:Nat) (w:Nat → Nat),TM D E (fun w=>f w+g w) d i w=TM D E f d i w+TM D E g d i w
 | 0,_,_=>rfl
 | d+1,i,w=>by
  unfold TM
  rw [←sumI_add]
  refine sumI_congr fun x _=>?_
  split
  ·exact tm_add d (i+1) _
  ·rfl
theorem tm_mul {f:(Nat → Nat)→Int} {c:Int}:∀(d i:Nat) (w:Nat → Nat),TM D E (fun w=>f w*c) d i w=TM D E f d i w*c
 | 0,_,_=>rfl
 | d+1,i,w=>by
  unfold TM
  rw [←sumI_mul]
  refine sumI_congr fun x _=>?_
  split
  ·exact tm_mul d (i+1) _
  ·exact (Int.zero_mul c).symm
theorem tm_le {f g:(Nat → Nat)→Int} (h:∀w,D.ok w→f w≤g w):∀(d i:Nat) (w:Nat → Nat),i+d=D.n→D.ok w→TM D E f d i w≤TM D E g d i w
 | 0,_,w,_,hw=>h w hw
 | d+1,i,w,hi,hw=>by
  unfold TM
  refine sumI_le fun x hx=>?_
  split
  ·exact tm_le h d (i+1) _ (by omega) (ok_upd hw hx)
  ·exact Int.le_refl 0
theorem tm_eq {f g:(Nat → Nat)→Int} (h:∀w,D.ok w→f w=g w) {d i:Nat} {w:Nat → Nat} (hi:i+d=D.n) (hw:D.ok w):TM D E f d i w=TM D E g d i w :=
 Int.le_antisymm (tm_le (fun w hw=>Int.le_of_eq (h w hw)) d i w hi hw) (tm_le (fun w hw=>Int.le_of_eq (h w hw).symm) d i w hi hw)
theorem tm_zero:∀(d i:Nat) (w:Nat → Nat),TM D E (fun _=>0) d i w=0
 | 0,_,_=>rfl
 | d+1,i,w=>by
  unfold TM
  rw [sumI_congr (g:=fun _=>0) (fun x _=>by simp [tm_zero d]),sumI_zero]
theorem tm_sum {n:Nat} {F:Nat → (Nat → Nat)→Int} {d i:Nat} {w:Nat → Nat}:TM D E (fun w=>sumI n (fun x=>F x w)) d i w=sumI n fun x=>TM D E (F x) d i w:=by
 induction n with
 | zero=>exact tm_zero d i w
 | succ n ih=>simp only [sumI]; rw [tm_add,ih]
theorem ok0 (V:VN D):D.ok (fun _=>0):=fun u hu=>(V.card u hu).1
theorem sw_values (V:VN D) (hv:v < D.n) {f:(Nat → Nat)→Int}:sumI (D.card v) (fun x=>SW D E (at' v x f))=SW D E f:=by
 unfold SW
 rw [←tm_sum]
 refine tm_eq (fun w hw=>?_) (by omega) (ok0 V)
 exact sumI_one (hw v hv)
theorem line_range (V:VN D) (hs:s.N < D.n) (hR:s.R < D.rows s.N) (hF:s.F < D.card s.N) (hT:s.T < D.card s.N) (hFT:s.F≠s.T) {t:Int}
  (ht:-(D.W s.N s.R s.T:Int)≤t∧t≤D.W s.N s.R s.F) (x:Nat):0≤(lineF D s E v x).1+(lineF D s E v x).2.1*t∧(lineF D s E v x).1+(lineF D s E v x).2.1*t≤(lineF D s E v x).2.2.1+(lineF D s E v x).2.2.2*t:=by
 have hpos:∀w,D.ok w→0≤D.fA s w+D.fB s w*t:=fun w hw=>by
  have e:D.fA s w+D.fB s w*t=(D.rest s w D.n:Int)*(D.own s w+D.change s w*t):=by
   unfold NF.fA NF.fB; rw [Int.mul_add,Int.mul_assoc]
  rw [e]
  refine Int.mul_nonneg (Int.natCast_nonneg _) ?_
  unfold NF.own NF.change
  by_cases hh:D.hit s w=true
  ·have hi:D.idx s.N w=s.R:=by simpa [NF.hit] using hh
   rw [if_pos hh,if_pos hh]
   have hw1:D.wt w s.N=D.W s.N s.R (w s.N):=by unfold NF.wt; rw [hi]
   by_cases h1:w s.N=s.F
   ·rw [if_pos h1,hw1,h1]; omega
   ·rw [if_neg h1]
    by_cases h2:w s.N=s.T
    ·rw [if_pos h2,hw1,h2]; omega
    ·rw [if_neg h2]; omega
  ·rw [if_neg hh,if_neg hh]; omega
 unfold lineF SW
 simp only
 rw [←tm_mul,←tm_mul,←tm_add,←tm_add]
 constructor
 ·rw [←tm_zero (D:=D) (E:=E) D.n 0 (fun _=>0)]
  refine tm_le (fun w hw=>?_) _ _ _ (by omega) (ok0 V)
  unfold at'
  split
  ·exact hpos w hw
  ·simp
 ·refine tm_le (fun w hw=>?_) _ _ _ (by omega) (ok0 V)
  unfold at'
  split
  ·exact Int.le_refl _
  ·have:=hpos w hw; simpa using this
end
end Go.Ab
namespace Go.Ab
open Go
section
variable {D:NF} {E:Nat → Int}
theorem bind_run {α β:Type} {o:Option α} {a:α} {k:α→Option β} {r:Option β} (h:o=some a) (h2:k a=r):o.bind k=r:=by rw [h]; exact h2
theorem cards_eq (V:VN D):g_ref05_Cards D.net=some (rowI D.n D.card):=by
 have hlen:D.net.Nodes.length=D.n:=rowG_len
 have hn:=V.n8
 unfold g_ref05_Cards
 refine bind_run (whileN_run (s0:=((0:Int),([]:List Int))) (r:=rowI D.n D.card) (fun k=>((k:Int),rowI k D.card)) D.n rfl (fun k hk=>?_) ?_ (by omega)) rfl
 ·unfold g_ref05_Cards_b0
  simp only
  rw [if_pos (by rw [hlen]; simpa using hk),V.node hk]
  simp only [Option.bind_some]
  rw [show (D.node k).Card=(D.card k:Int) from rfl,show rowI k D.card++[(D.card k:Int)]=rowI (k+1) D.card from rowG_succ,if_pos (by rw [rowI_len]; omega),w64 (by omega)]
  rfl
 ·unfold g_ref05_Cards_b0
  simp only
  rw [if_neg (by rw [hlen]; simp)]
theorem size_eq {n:Nat} {f:Nat → Nat} (hf:∀k,k < n→f k≤4) (hn:n≤8):g_ref02_Size (rowI n f)=some (prodTo n f:Int):=by
 unfold g_ref02_Size
 refine bind_run (whileN_run (s0:=((1:Int),(0:Int))) (r:=(prodTo n f:Int)) (fun k=>((prodTo k f:Int),(k:Int))) n rfl (fun k hk=>?_) ?_ (by omega)) rfl
 ·have h1:prodTo k f≤4^k:=prodTo_le fun j hj=>hf j (by omega)
  have h2:(4:Nat)^k≤4^8:=Nat.pow_le_pow_right (by omega) (by omega)
  have h3:prodTo k f*f k≤65536*4:=Nat.mul_le_mul (by omega) (hf k hk)
  unfold g_ref02_Size_b0
  simp only
  rw [if_pos (by rw [rowI_len]; simpa using hk),rowI_get hk]
  simp only [Option.bind_some]
  have e:(prodTo k f:Int)*(f k:Int)=((prodTo (k+1) f:Nat):Int):=by simp [prodTo]
  rw [e,w64 (by simp only [prodTo]; omega),w64 (by omega)]
  rfl
 ·unfold g_ref02_Size_b0
  simp only
  rw [if_neg (by rw [rowI_len]; simp)]
theorem worlds_eq (V:VN D):g_ref05_Worlds D.net=some (prodTo D.n D.card:Int):=by
 unfold g_ref05_Worlds
 rw [cards_eq V]
 simp only [Option.bind_some]
 rw [size_eq (fun k hk=>(V.card k hk).2) V.n8]
 rfl
def PS (D:NF) (k:Nat):Nat := PC D (D.n - k) k
theorem ps_step {k:Nat} (h:k < D.n):PS D k=D.card k*PS D (k+1):=by
 unfold PS
 rw [show D.n - k=(D.n - (k+1))+1 by omega]; rfl
theorem ps_end:PS D D.n=1:=by unfold PS; rw [Nat.sub_self]; rfl
theorem ps_pos (V:VN D) {k:Nat} (h:k≤D.n):1≤PS D k:=pc_pos V _ _ (by omega)
def dig (D:NF) (W k:Nat):Nat := W / PS D (k+1) % D.card k
theorem dig_ok (V:VN D) (W:Nat):D.ok (dig D W):=fun v hv=>Nat.mod_lt _ (V.card v hv).1
theorem values_eq (V:VN D) {W:Nat} (hW:W < 1125899906842624):g_ref05_Values D.net (W:Int)=some (rowI D.n (dig D W)):=by
 have hn:=V.n8
 have hlen:(rowI D.n D.card).length=D.n:=rowI_len
 unfold g_ref05_Values
 rw [cards_eq V]
 simp only [Option.bind_some]
 unfold g_ref02_Values
 rw [hlen,if_pos (by omega),Int.toNat_natCast,rowG_rep]
 refine bind_run (bind_run (whileN_run (s0:=((W:Int),IntKind.i64.wrap ((D.n:Int) - 1),rowG D.n fun _=>(0:Int))) (r:=rowI D.n (dig D W)) (fun m=>(((W / PS D (D.n - m):Nat):Int),((D.n - m:Nat):Int) - 1,rowG D.n fun j=>if D.n - m≤j then (dig D W j:Int) else 0)) D.n ?_ (fun m hm=>?_) ?_ (by omega)) rfl) rfl
 ·have e1:(rowG D.n fun j=>if D.n - 0≤j then (dig D W j:Int) else 0)=rowG D.n fun _=>(0:Int):=rowG_congr fun j hj=>if_neg (by omega)
  rw [w64 (by omega),e1]
  simp only [Nat.sub_zero,ps_end,Nat.div_one]
 ·obtain ⟨k,hk⟩:∃k,D.n - m=k+1:=⟨D.n - m - 1,by omega⟩
  have hkn:k < D.n:=by omega
  have hc:=V.card k hkn
  have hk2:D.n - (m+1)=k:=by omega
  simp only [hk,hk2]
  have hkk:((k+1:Nat):Int) - 1=(k:Int):=by omega
  rw [hkk]
  unfold g_ref02_Values_b0
  simp only
  rw [if_pos (by simp),rowI_get hkn]
  simp only [Option.bind_some]
  rw [if_pos (by omega),rowG_get hkn]
  simp only [Option.bind_some]
  rw [if_pos (by omega),tdiv_pos (Int.natCast_nonneg _),tmod_pos (Int.natCast_nonneg _),Int.toNat_natCast,rowG_set]
  have h1:W / PS D (k+1) / D.card k=W / PS D k:=by rw [Nat.div_div_eq_div_mul,ps_step hkn,Nat.mul_comm]
  have h2:((W / PS D (k+1):Nat):Int) / (D.card k:Int)=((W / PS D k:Nat):Int):=by rw [←h1]; simp
  have h3:((W / PS D (k+1):Nat):Int) % (D.card k:Int)=(dig D W k:Int):=by unfold dig; simp
  have h4:W / PS D k≤W:=Nat.div_le_self _ _
  rw [h2,h3]
  obtain ⟨q,hq⟩:∃q,W / PS D k=q:=⟨_,rfl⟩
  rw [hq] at h4 ⊢
  rw [w64 (by omega),w64 (by omega)]
  congr 4
  refine rowG_congr fun j hj=>?_
  by_cases e:j=k
  ·subst e; simp
  ·rw [if_neg e]
   by_cases e2:k+1≤j
   ·rw [if_pos e2,if_pos (by omega)]
   ·rw [if_neg e2,if_neg (by omega)]
 ·unfold g_ref02_Values_b0
  simp only [Nat.sub_self]
  rw [if_neg (by simp)]
  exact congrArg (fun z=>some (Step.done z)) (rowG_congr fun j hj=>if_pos (by omega))
def okE (E:Nat → Int) (j x:Nat):Prop:=E j=-1∨E j=(x:Int)
instance (E:Nat → Int) (j x:Nat):Decidable (okE E j x):=by unfold okE; infer_instance
def MatchF (n:Nat) (E:Nat → Int) (i:Nat) (w:Nat → Nat):Prop:=∀j,i≤j→j < n→okE E j (w j)
theorem matches_true {n:Nat} {w:Nat → Nat} (hn:n≤8) (hE:∀j,j < n→-1≤E j) (h:MatchF n E 0 w):g_ref05_Matches (rowI n w) (rowG n E)=some true:=by
 unfold g_ref05_Matches
 refine bind_run (whileN_run (s0:=(0:Int)) (r:=Sum.inr ()) (fun k=>(k:Int)) n rfl (fun k hk=>?_) ?_ (by omega)) rfl
 ·unfold g_ref05_Matches_b0
  rw [if_pos (by rw [rowI_len]; simpa using hk),rowG_get hk]
  simp only [Option.bind_some]
  have e:IntKind.i64.wrap ((k:Int)+1)=((k+1:Nat):Int):=by rw [w64 (by omega)]; omega
  rcases h k (by omega) hk with h1 | h1
  ·rw [if_neg (by rw [h1]; simp),e]
  ·by_cases h0:E k≥0
   ·rw [if_pos (by simpa using h0),rowI_get hk]
    simp only [Option.bind_some]
    rw [if_neg (by rw [h1]; simp),e]
   ·omega
 ·unfold g_ref05_Matches_b0
  rw [if_neg (by rw [rowI_len]; simp)]
theorem matches_false {n:Nat} {w:Nat → Nat} (hn:n≤8) (hE:∀j,j < n→-1≤E j) (h:¬ MatchF n E 0 w):g_ref05_Matches (rowI n w) (rowG n E)=some false:=by
 unfold g_ref05_Matches
 have hw:=whileN_ex (body:=g_ref05_Matches_b0 (rowI n w) (rowG n E)) (fun s=>∃k:Nat,k≤n∧s=(k:Int)∧∀j,j < k→okE E j (w j)) (fun s=>n - s.toNat) (fun r=>r=Sum.inl ()) (fun s hs=>?_) (0:Int) ⟨0,by omega,rfl,fun j hj=>by omega⟩ (by simp; omega)
 ·obtain ⟨r,h1,h2⟩:=hw
  rw [h1,h2]; rfl
 ·obtain ⟨k,hk,rfl,hpre⟩:=hs
  have hlt:k < n:=by
   rcases Nat.lt_or_ge k n with h' | h'
   ·exact h'
   ·exact absurd (fun j _ hj=>hpre j (by omega)) h
  have e:IntKind.i64.wrap ((k:Int)+1)=((k+1:Nat):Int):=by rw [w64 (by omega)]; omega
  have hb:=hE k hlt
  unfold g_ref05_Matches_b0
  rw [if_pos (by rw [rowI_len]; simpa using hlt),rowG_get hlt]
  simp only [Option.bind_some]
  by_cases h0:E k≥0
  ·rw [if_pos (by simpa using h0),rowI_get hlt]
   simp only [Option.bind_some]
   by_cases h1:E k=(w k:Int)
   ·left
    rw [if_neg (by rw [h1]; simp),e]
    exact ⟨_,rfl,⟨k+1,by omega,rfl,fun j hj=>by
     rcases Nat.lt_succ_iff_lt_or_eq.1 hj with h2 | h2
     ·exact hpre j h2
     ·subst h2; exact .inr h1⟩,by simp; omega⟩
   ·right
    rw [if_pos (by simpa using h1)]
    exact ⟨_,rfl,rfl⟩
  ·left
   rw [if_neg (by simpa using h0),e]
   exact ⟨_,rfl,⟨k+1,by omega,rfl,fun j hj=>by
    rcases Nat.lt_succ_iff_lt_or_eq.1 hj with h2 | h2
    ·exact hpre j h2
    ·subst h2; exact .inl (by omega)⟩,by simp; omega⟩
theorem at_eq {n:Nat} {f:Nat → Nat} {l:List Nat} (hl:∀p∈l,p < n) (h8:l.length≤8):g_ref02_At (rowI n f) (l.map fun (p:Nat)=>(p:Int))=some (l.map fun p=>(f p:Int)):=by
 unfold g_ref02_At
 refine bind_run (whileN_run (s0:=((0:Int),([]:List Int))) (r:=l.map fun p=>(f p:Int)) (fun k=>((k:Int),(l.take k).map fun p=>(f p:Int))) l.length (by simp) (fun k hk=>?_) ?_ (by omega)) rfl
 ·unfold g_ref02_At_b0
  simp only
  rw [if_pos (by simpa using hk),lkI_nat (by simpa using hk)]
  simp only [Option.bind_some,List.getElem_map]
  rw [rowI_get (hl _ (List.getElem_mem hk))]
  simp only [Option.bind_some]
  rw [if_pos (by simp [List.length_take]; omega),w64 (by omega),take_succ' hk]
  simp only [List.map_append,List.map_cons,List.map_nil]
  rfl
 ·unfold g_ref02_At_b0
  simp only
  rw [if_neg (by simp),List.take_of_length_le (Nat.le_refl _)]
def ix (c w:Nat → Nat):List Nat → Nat
 | []=>0
 | p::l=>w p*lprodR c l+ix c w l
where lprodR (c:Nat → Nat):List Nat → Nat
 | []=>1
 | p::l=>c p*lprodR c l
theorem foldl_ix (c w:Nat → Nat):∀(l:List Nat) (r:Nat),l.foldl (fun r p=>r*c p+w p) r=r*ix.lprodR c l+ix c w l
 | [],r=>by simp [ix,ix.lprodR]
 | p::l,r=>by
  simp only [List.foldl_cons,foldl_ix c w l,ix,ix.lprodR]
  rw [Nat.add_mul,Nat.mul_assoc,Nat.add_assoc]
theorem horner_ix {c w:Nat → Nat} {l:List Nat}:horner c w l=ix c w l:=by
 unfold horner; rw [foldl_ix]; simp
theorem lprodR_le {c:Nat → Nat} {l:List Nat} (h:∀p∈l,c p≤4):ix.lprodR c l≤4^l.length:=by
 induction l with
 | nil=>simp [ix.lprodR]
 | cons p l ih =>
  simp only [ix.lprodR,List.length_cons,Nat.pow_succ]
  rw [Nat.mul_comm]
  exact Nat.mul_le_mul (ih fun q hq=>h q (List.mem_cons_of_mem _ hq)) (h p (by simp))
theorem ix_le {c w:Nat → Nat} {l:List Nat} (h:∀p∈l,c p≤4∧w p < c p):ix c w l < ix.lprodR c l:=by
 induction l with
 | nil=>simp [ix,ix.lprodR]
 | cons p l ih =>
  have h1:=ih fun q hq=>h q (List.mem_cons_of_mem _ hq)
  have h2:=(h p (by simp)).2
  simp only [ix,ix.lprodR]
  have:(w p+1)*ix.lprodR c l≤c p*ix.lprodR c l:=Nat.mul_le_mul_right _ h2
  rw [Nat.succ_mul] at this
  omega
theorem index_eq {c w:Nat → Nat} {l:List Nat} (h:∀p∈l,c p≤4∧w p < c p) (h8:l.length≤8) :
  g_ref02_Index (l.map fun p=>(c p:Int)) (l.map fun p=>(w p:Int))=some (horner c w l:Int):=by
 unfold g_ref02_Index
 have hd:∀(k:Nat) (hk:k < l.length),l.drop k=l[k]'hk::l.drop (k+1):=fun k hk=>List.drop_eq_getElem_cons hk
 refine bind_run (whileN_run (s0:=((0:Int),(1:Int),IntKind.i64.wrap (((l.map fun p=>(c p:Int)).length:Int) - 1))) (r:=(horner c w l:Int)) (fun m=>((ix c w (l.drop (l.length - m)):Int),(ix.lprodR c (l.drop (l.length - m)):Int),((l.length - m:Nat):Int) - 1)) l.length ?_ (fun m hm=>?_) ?_ (by omega)) rfl
 ·simp only [Nat.sub_zero,List.drop_length,ix,ix.lprodR,List.length_map]
  rw [w64 (by omega)]
  rfl
 ·obtain ⟨k,hk⟩:∃k,l.length - m=k+1:=⟨l.length - m - 1,by omega⟩
  have hkn:k < l.length:=by omega
  have hk2:l.length - (m+1)=k:=by omega
  simp only [hk,hk2]
  have hkk:((k+1:Nat):Int) - 1=(k:Int):=by omega
  rw [hkk]
  have hmem:=h _ (List.getElem_mem hkn)
  have hsub:∀p∈l.drop (k+1),c p≤4∧w p < c p:=fun p hp=>h p (List.mem_of_mem_drop hp)
  have b1:=lprodR_le (c:=c) (l:=l.drop (k+1)) (fun p hp=>(hsub p hp).1)
  have b2:(4:Nat)^(l.drop (k+1)).length≤4^8:=Nat.pow_le_pow_right (by omega) (by rw [List.length_drop]; omega)
  have b3:=ix_le hsub
  have b4:w l[k]*ix.lprodR c (l.drop (k+1))≤4*65536:=Nat.mul_le_mul (by omega) (by omega)
  have b5:ix.lprodR c (l.drop (k+1))*c l[k]≤65536*4:=Nat.mul_le_mul (by omega) hmem.1
  unfold g_ref02_Index_b0
  simp only
  rw [if_pos (by simp),lkI_nat (by simpa using hkn)]
  simp only [Option.bind_some]
  rw [lkI_nat (by simpa using hkn)]
  simp only [Option.bind_some,List.getElem_map]
  have e1:(w l[k]:Int)*(ix.lprodR c (l.drop (k+1)):Int)=((w l[k]*ix.lprodR c (l.drop (k+1)):Nat):Int):=by simp
  have e2:(ix.lprodR c (l.drop (k+1)):Int)*(c l[k]:Int)=((ix.lprodR c (l.drop (k+1))*c l[k]:Nat):Int):=by simp
  have w1:IntKind.i64.wrap ((w l[k]*ix.lprodR c (l.drop (k+1)):Nat):Int)=((w l[k]*ix.lprodR c (l.drop (k+1)):Nat):Int):=w64 (by omega)
  rw [e1,e2,w1,w64 (by omega),w64 (by omega),w64 (by omega),hd k hkn]
  simp only [ix,ix.lprodR]
  congr 3
  ·rw [Int.natCast_add]; omega
  ·rw [Nat.mul_comm]
 ·unfold g_ref02_Index_b0
  simp only [Nat.sub_self,List.drop_zero]
  rw [if_neg (by simp),horner_ix]
theorem pcards_eq (V:VN D) {v:Nat} (hv:v < D.n):g_ref05_ParentCards D.net (v:Int)=some ((D.par v).map fun p=>(D.card p:Int)):=by
 unfold g_ref05_ParentCards
 rw [cards_eq V]
 simp only [Option.bind_some]
 rw [V.node hv]
 simp only [Option.bind_some]
 rw [show (D.node v).Parents=(D.par v).map fun (p:Nat)=>(p:Int) from rfl,at_eq (V.par v hv) (V.len v hv)]
 rfl
theorem row_eq (V:VN D) {w:Nat → Nat} (hw:D.ok w) {v:Nat} (hv:v < D.n):g_ref05_Row D.net (v:Int) (rowI D.n w)=some (rowG (D.card v) fun x=>(D.W v (D.idx v w) x:Int)):=by
 unfold g_ref05_Row
 rw [V.node hv]
 simp only [Option.bind_some]
 rw [pcards_eq V hv]
 simp only [Option.bind_some]
 rw [show (D.node v).Parents=(D.par v).map fun (p:Nat)=>(p:Int) from rfl,at_eq (V.par v hv) (V.len v hv)]
 simp only [Option.bind_some]
 rw [index_eq (fun p hp=>⟨(V.card p (V.par v hv p hp)).2,hw p (V.par v hv p hp)⟩) (V.len v hv)]
 simp only [Option.bind_some]
 rw [show lkI (D.node v).Rows (horner D.card w (D.par v):Int)=some (rowG (D.card v) fun x=>(D.W v (D.idx v w) x:Int)) from rowG_get (V.idx_lt hw hv)]
 rfl
theorem weight_eq (V:VN D) {W:Nat} (hW:W < 1125899906842624):g_ref05_Weight D.net (W:Int)=some (prodTo D.n (D.wt (dig D W)):Int):=by
 have hlen:D.net.Nodes.length=D.n:=rowG_len
 have hn:=V.n8
 have hw:=dig_ok V W
 unfold g_ref05_Weight
 rw [values_eq V hW]
 simp only [Option.bind_some]
 refine bind_run (whileN_run (s0:=((1:Int),(0:Int))) (r:=(prodTo D.n (D.wt (dig D W)):Int)) (fun k=>((prodTo k (D.wt (dig D W)):Int),(k:Int))) D.n rfl (fun k hk=>?_) ?_ (by omega)) rfl
 ·have h1:prodTo k (D.wt (dig D W))≤60^k:=prodTo_le fun j hj=>V.wt_le hw (by omega)
  have h2:(60:Nat)^k≤60^8:=Nat.pow_le_pow_right (by omega) (by omega)
  have h3:prodTo k (D.wt (dig D W))*D.wt (dig D W) k≤167961600000000*60:=Nat.mul_le_mul (Nat.le_trans h1 (Nat.le_trans h2 (by decide))) (V.wt_le hw hk)
  unfold g_ref05_Weight_b0
  simp only
  rw [if_pos (by rw [hlen]; simpa using hk),row_eq V hw hk]
  simp only [Option.bind_some]
  rw [rowI_get hk]
  simp only [Option.bind_some]
  rw [rowG_get (hw k hk)]
  simp only [Option.bind_some]
  have e:(prodTo k (D.wt (dig D W)):Int)*(D.W k (D.idx k (dig D W)) (dig D W k):Int)=((prodTo (k+1) (D.wt (dig D W)):Nat):Int):=by simp [prodTo,NF.wt]
  rw [e,w64 (by simp only [prodTo]; omega),w64 (by omega)]
  rfl
 ·unfold g_ref05_Weight_b0
  simp only
  rw [if_neg (by rw [hlen]; simp)]
def mix (D:NF) (i:Nat) (w:Nat → Nat) (W:Nat):Nat → Nat := fun j=>if j < i then w j else dig D W j
theorem ps_div (V:VN D) {i j:Nat} (hij:i≤j) (hj:j < D.n):∃M,PS D i=M*(D.card j*PS D (j+1)):=by
 obtain ⟨k,rfl⟩:=Nat.exists_eq_add_of_le hij
 induction k generalizing i with
 | zero=>exact ⟨1,by rw [Nat.add_zero,Nat.one_mul,ps_step (by omega)]⟩
 | succ k ih =>
  obtain ⟨M,hM⟩:=ih (i:=i+1) (by omega) (by omega)
  refine ⟨D.card i*M,?_⟩
  rw [ps_step (by omega),hM]
  rw [show i+1+k=i+(k+1) by omega,Nat.mul_assoc]
open Classical in
theorem sum_worlds (V:VN D) {f:(Nat → Nat)→Int} (hf:Ext D f):∀(d i:Nat) (w:Nat → Nat),i+d=D.n →
  sumI (PC D d i) (fun W=>if MatchF D.n E i (mix D i w W) then f (mix D i w W) else 0)=TM D E f d i w
 | 0,i,w,h=>by
  simp only [PC,sumI,TM,Int.zero_add]
  rw [if_pos (show MatchF D.n E i (mix D i w 0) from fun j h1 h2=>by omega)]
  exact hf _ _ fun j hj=>by unfold mix; rw [if_pos (by omega)]
 | d+1,i,w,h=>by
  have hi:i < D.n:=by omega
  simp only [PC,TM]
  rw [sumI_block]
  refine sumI_congr fun x hx=>?_
  have hP:PC D d (i+1)=PS D (i+1):=by unfold PS; rw [show D.n - (i+1)=d by omega]
  have hpos:=ps_pos V (k:=i+1) (by omega)
  have hag:∀y,y < PC D d (i+1)→∀j,j < D.n→mix D i w (x*PC D d (i+1)+y) j=mix D (i+1) (upd w i x) y j:=fun y hy j hj=>by
   unfold mix
   by_cases h1:j < i
   ·rw [if_pos h1,if_pos (by omega),upd_ne (by omega)]
   ·rw [if_neg h1]
    by_cases h2:j=i
    ·subst h2
     rw [if_pos (by omega),upd_same]
     unfold dig
     rw [hP] at hy ⊢
     rw [Nat.mul_comm,Nat.mul_add_div (by omega),Nat.div_eq_of_lt hy,Nat.add_zero,Nat.mod_eq_of_lt hx]
    ·rw [if_neg (by omega)]
     unfold dig
     rw [hP]
     obtain ⟨M,hM⟩:=ps_div V (i:=i+1) (j:=j) (by omega) hj
     have hpj:=ps_pos V (k:=j+1) (by omega)
     rw [hM,show x*(M*(D.card j*PS D (j+1)))+y=PS D (j+1)*(D.card j*(x*M))+y by
      rw [Nat.mul_comm (D.card j),←Nat.mul_assoc,←Nat.mul_assoc,Nat.mul_comm (PS D (j+1)),Nat.mul_comm (D.card j),Nat.mul_right_comm (x*M)]]
     rw [Nat.mul_add_div (by omega),Nat.mul_add_mod]
  rw [sumI_congr (g:=fun y=>if okE E i x then (if MatchF D.n E (i+1) (mix D (i+1) (upd w i x) y) then f (mix D (i+1) (upd w i x) y) else 0) else 0) (fun y hy=>?_)]
  ·by_cases hok:okE E i x
   ·rw [sumI_congr (g:=fun y=>if MatchF D.n E (i+1) (mix D (i+1) (upd w i x) y) then f (mix D (i+1) (upd w i x) y) else 0) (fun y _=>if_pos hok),sum_worlds V hf d (i+1) _ (by omega),if_pos (show E i=-1∨E i=(x:Int) from hok)]
   ·rw [sumI_congr (g:=fun _=>0) (fun y _=>if_neg hok),sumI_zero,if_neg (show ¬ (E i=-1∨E i=(x:Int)) from hok)]
  ·have e:=hag y hy
   have hiff:MatchF D.n E i (mix D i w (x*PC D d (i+1)+y))↔okE E i x∧MatchF D.n E (i+1) (mix D (i+1) (upd w i x) y):=by
    constructor
    ·intro hm
     refine ⟨?_,fun j h1 h2=>?_⟩
     ·have:=hm i (by omega) hi
      rw [e i hi] at this
      unfold mix at this
      rwa [if_pos (by omega),upd_same] at this
     ·have:=hm j (by omega) h2
      rwa [e j h2] at this
    ·rintro ⟨h1,h2⟩ j h3 h4
     rw [e j h4]
     by_cases h5:j=i
     ·subst h5; unfold mix; rwa [if_pos (by omega),upd_same]
     ·exact h2 j (by omega) h4
   by_cases hok:okE E i x
   ·rw [if_pos hok]
    by_cases hm:MatchF D.n E (i+1) (mix D (i+1) (upd w i x) y)
    ·rw [if_pos (hiff.2 ⟨hok,hm⟩),if_pos hm,hf _ _ e]
    ·rw [if_neg (fun c=>hm (hiff.1 c).2),if_neg hm]
   ·rw [if_neg (fun c=>hok (hiff.1 c).1),if_neg hok]
def fM (D:NF) (w:Nat → Nat):Int:=(prodTo D.n (D.wt w):Int)
theorem fM_ext (V:VN D):Ext D (fM D):=fun w w' h=>by
 unfold fM; rw [prodTo_congr fun u hu=>wt_ext V h hu]
theorem fM_bd (V:VN D):∀w,D.ok w→BD 1 (fM D w):=fun w hw=>by
 have h1:prodTo D.n (D.wt w)≤60^D.n:=prodTo_le fun u hu=>V.wt_le hw hu
 have h2:(60:Nat)^D.n≤60^8:=Nat.pow_le_pow_right (by omega) V.n8
 have h3:(60:Nat)^8=167961600000000:=by decide
 unfold fM BD KK; omega
open Classical in
theorem mass_eq (V:VN D) (hE:∀j,j < D.n→-1≤E j):g_ref05_Mass D.net (rowG D.n E)=some (SW D E (fM D)):=by
 have hw:=V.worlds
 have hpc:PC D D.n 0=prodTo D.n D.card:=by have:=pc_prod (D:=D) D.n 0; simpa [prodTo] using this
 have hmix:∀W,mix D 0 (fun _=>0) W=dig D W:=fun W=>by funext j; simp [mix]
 have key:SW D E (fM D)=sumI (prodTo D.n D.card) (fun W=>if MatchF D.n E 0 (dig D W) then fM D (dig D W) else 0):=by
  unfold SW
  rw [←sum_worlds V (fM_ext V) D.n 0 (fun _=>0) (by omega),hpc]
  exact sumI_congr fun W _=>by rw [hmix]
 have hb:∀k,BD (k*1) (sumI k (fun W=>if MatchF D.n E 0 (dig D W) then fM D (dig D W) else 0)):=fun k=>BD.sum fun W _=>by
  split
  ·exact fM_bd V _ (dig_ok V W)
  ·exact BD.zero
 unfold g_ref05_Mass
 refine bind_run (whileN_run (s0:=((0:Int),(0:Int))) (r:=SW D E (fM D)) (fun k=>(sumI k (fun W=>if MatchF D.n E 0 (dig D W) then fM D (dig D W) else 0),(k:Int))) (prodTo D.n D.card) rfl (fun k hk=>?_) ?_ (by omega)) rfl
 ·have e:IntKind.i64.wrap ((k:Int)+1)=((k+1:Nat):Int):=by rw [w64 (by omega)]; omega
  have hfit:=(hb (k+1)).fit (by omega)
  unfold g_ref05_Mass_b0
  simp only
  rw [worlds_eq V]
  simp only [Option.bind_some]
  rw [if_pos (by simpa using hk),values_eq V (by omega)]
  simp only [Option.bind_some]
  by_cases hm:MatchF D.n E 0 (dig D k)
  ·rw [matches_true V.n8 hE hm]
   simp only [Option.bind_some,if_true]
   rw [weight_eq V (by omega)]
   simp only [Option.bind_some]
   have e2:sumI (k+1) (fun W=>if MatchF D.n E 0 (dig D W) then fM D (dig D W) else 0)=sumI k (fun W=>if MatchF D.n E 0 (dig D W) then fM D (dig D W) else 0)+(prodTo D.n (D.wt (dig D k)):Int):=by
    simp only [sumI]; rw [if_pos hm]; rfl
   rw [e2] at hfit ⊢
   rw [w64 hfit,e]
  ·rw [matches_false V.n8 hE hm]
   simp only [Option.bind_some,Bool.false_eq_true,if_false]
   have e2:sumI (k+1) (fun W=>if MatchF D.n E 0 (dig D W) then fM D (dig D W) else 0)=sumI k (fun W=>if MatchF D.n E 0 (dig D W) then fM D (dig D W) else 0):=by
    simp only [sumI]; rw [if_neg hm]; omega
   rw [e2,e]
 ·unfold g_ref05_Mass_b0
  simp only
  rw [worlds_eq V]
  simp only [Option.bind_some]
  rw [if_neg (by simp),key]
end
end Go.Ab
namespace Go.Ab
open Go
theorem u64_nat {n:Nat} (h:n < 18446744073709551616):IntKind.u64.wrap (n:Int)=(n:Int):=by
 simp [IntKind.wrap,IntKind.bits,IntKind.signed]; omega
theorem bv_nat {a:Nat} (h:a < 18446744073709551616):(BitVec.ofInt (IntKind.bits .u64) (a:Int)).toNat = a:=by
 rw [BitVec.ofInt_natCast,BitVec.toNat_ofNat]
 exact Nat.mod_eq_of_lt h
theorem fdiv_pow {a k:Nat}:Int.fdiv (a:Int) ((2:Int)^k)=((a / 2^k:Nat):Int):=by
 rw [Int.fdiv_eq_ediv_of_nonneg _ (by exact_mod_cast Nat.zero_le (2^k))]
 simp
theorem u_bit {a k:Nat} (ha:a < 18446744073709551616) (hk:k < 64) :
  (IntKind.u64.wrap (BitVec.ofInt (IntKind.bits .u64) (Int.fdiv (a:Int) (2^min (Int.toNat (k:Int)) (IntKind.bits .u64))) &&& BitVec.ofInt (IntKind.bits .u64) 1).toNat == 0)=!(a.testBit k):=by
 have hb:IntKind.bits .u64=64:=rfl
 have e0:min (Int.toNat (k:Int)) (IntKind.bits .u64)=k:=by rw [hb,Int.toNat_natCast]; omega
 rw [e0,fdiv_pow]
 have h1:a / 2^k < 18446744073709551616:=Nat.lt_of_le_of_lt (Nat.div_le_self _ _) ha
 have e1:(BitVec.ofInt (IntKind.bits .u64) ((a / 2^k:Nat):Int) &&& BitVec.ofInt (IntKind.bits .u64) 1).toNat = (a / 2^k) % 2:=by
  rw [BitVec.toNat_and,bv_nat h1,show (BitVec.ofInt (IntKind.bits .u64) 1).toNat = 1 from rfl,Nat.and_one_is_mod]
 rw [e1,u64_nat (by omega)]
 have e2:a.testBit k=((a / 2^k) % 2==1):=by rw [Nat.testBit_eq_decide_div_mod_eq]; rfl
 rw [e2]
 rcases Nat.mod_two_eq_zero_or_one (a / 2^k) with h | h <;> rw [h] <;> rfl
theorem u_or {a k:Nat} (ha:a < 18446744073709551616) (hk:k < 64) :
  IntKind.u64.wrap (BitVec.ofInt (IntKind.bits .u64) (a:Int) ||| BitVec.ofInt (IntKind.bits .u64) (IntKind.u64.wrap (1*2^min (Int.toNat (k:Int)) (IntKind.bits .u64)))).toNat = ((a ||| 2^k:Nat):Int):=by
 have hb:IntKind.bits .u64=64:=rfl
 have e0:min (Int.toNat (k:Int)) (IntKind.bits .u64)=k:=by rw [hb,Int.toNat_natCast]; omega
 have hp:2^k < 18446744073709551616:=by
  have:2^k < 2^64:=Nat.pow_lt_pow_right (by omega) hk
  exact this
 rw [e0,show (1:Int)*2^k=((2^k:Nat):Int) by simp,u64_nat hp]
 have e1:(BitVec.ofInt (IntKind.bits .u64) (a:Int) ||| BitVec.ofInt (IntKind.bits .u64) ((2^k:Nat):Int)).toNat = a ||| 2^k:=by
  rw [BitVec.toNat_or,bv_nat ha,bv_nat hp]
 rw [e1,u64_nat]
 exact Nat.or_lt_two_pow (n:=64) ha hp
theorem or_lt {a k:Nat} (ha:a < 18446744073709551616) (hk:k < 64):a ||| 2^k < 18446744073709551616 :=
 Nat.or_lt_two_pow (n:=64) ha (Nat.pow_lt_pow_right (by omega) hk)
theorem or_bit {a k j:Nat}:(a ||| 2^k).testBit j=(a.testBit j || decide (k=j)):=by
 rw [Nat.testBit_or,Nat.testBit_two_pow]
theorem u_sub {a b:Nat} (ha:a < 18446744073709551616) (hb:b < 18446744073709551616) :
  (IntKind.u64.wrap (BitVec.ofInt (IntKind.bits .u64) (a:Int) &&& ~~~ BitVec.ofInt (IntKind.bits .u64) (b:Int)).toNat == 0)=true↔∀j,a.testBit j=true→b.testBit j=true:=by
 have h1:(BitVec.ofInt (IntKind.bits .u64) (a:Int) &&& ~~~ BitVec.ofInt (IntKind.bits .u64) (b:Int)).toNat < 18446744073709551616:=BitVec.isLt _
 rw [u64_nat h1]
 generalize hx:BitVec.ofInt (IntKind.bits .u64) (a:Int) &&& ~~~ BitVec.ofInt (IntKind.bits .u64) (b:Int)=x
 have hbit:∀j,j < 64→x.getLsbD j=(a.testBit j && !(b.testBit j)):=fun j hj=>by
  rw [←hx,BitVec.getLsbD_and,BitVec.getLsbD_not]
  have:(IntKind.bits .u64)=64:=rfl
  have e1:(BitVec.ofInt (IntKind.bits .u64) (a:Int)).getLsbD j=a.testBit j:=by unfold BitVec.getLsbD; rw [bv_nat ha]
  have e2:(BitVec.ofInt (IntKind.bits .u64) (b:Int)).getLsbD j=b.testBit j:=by unfold BitVec.getLsbD; rw [bv_nat hb]
  rw [e1,e2]
  simp [this,hj]
 constructor
 ·intro h j hj
  have hx0:x.toNat = 0:=by simpa using h
  have h64:j < 64:=by
   rcases Nat.lt_or_ge j 64 with h' | h'
   ·exact h'
   ·have:=Nat.testBit_lt_two_pow (i:=j) (x:=a) (Nat.lt_of_lt_of_le ha (Nat.pow_le_pow_right (n:=2) (by omega) h'))
    rw [this] at hj; cases hj
  have h2:=hbit j h64
  have h3:x.getLsbD j=false:=by unfold BitVec.getLsbD; rw [hx0]; simp
  rw [h3,hj] at h2
  simpa using h2
 ·intro h
  have:x=0#_:=by
   apply BitVec.eq_of_getLsbD_eq
   intro j hj
   have hj':j < 64:=hj
   rw [hbit j hj']
   cases ha':a.testBit j with
   | false=>simp
   | true=>rw [h j ha']; simp
  rw [this]; rfl
end Go.Ab
