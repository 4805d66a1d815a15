/- What functions compute. No conditions. -/
import Derived.Test.YtokcpkcoahlkjaaProg
import Derived.Test.YtokcpkcoahlkjaaW8
import Derived.KernelRfl
import Derived.Test.YtokcpkcoahlkjaaW9
set_option linter.all false
namespace Go.Ab
open Go Go.Proofs
set_option maxRecDepth 100000
set_option maxHeartbeats 4000000
noncomputable abbrev s20_5 (x1:Tapi_Net) (x3:((Int × Int × Int × Int) × Int)) (x5:((Int × Int × Int × Int) × Int)):List AObj:=[oX false false 2 (.agg [vI x1.Grain,.ref 6 0 x1.Nodes.length]),.row false false true true 1 [vI (-1),vI 1],oX true true 4 (.agg [vI 0,vI 0,vI 0,vI 1]),oX true true 4 (.agg [vI 1,vI 1,vI 1,vI 0]),oX true true 4 (.agg [vI x3.1.1,vI x3.1.2.1,vI x3.1.2.2.1,vI x3.1.2.2.2]),oX true true 4 (.agg [vI x5.1.1,vI x5.1.2.1,vI x5.1.2.2.1,vI x5.1.2.2.2]),oR false 3 eTapi_Node x1.Nodes]
noncomputable abbrev s20_17 (x5:((Int × Int × Int × Int) × Int)):List AObj:=[.row false false true true 1 [vI (-1),vI 1],oX true true 4 (.agg [vI 0,vI 0,vI 0,vI 1]),oX true true 4 (.agg [vI 1,vI 1,vI 1,vI 0]),oX true true 4 (.agg [vI x5.1.1,vI x5.1.2.1,vI x5.1.2.2.1,vI x5.1.2.2.2]),oX true true 2 (.agg [vI 1,vI 2])]
noncomputable abbrev s20_22  : List AObj:=[.row false false true true 1 [vI (-1),vI 1],oX true true 4 (.agg [vI 0,vI 0,vI 0,vI 1]),oX true true 4 (.agg [vI 1,vI 1,vI 1,vI 0]),oX true true 2 (.agg [vI 1,vI 2])]
theorem g_law24_works_ok  (x:Bool) (h:g_law24_works=some x):CallOk Try.prog 20 [] (.ret (vB x) []):=by
 refine fn_ok [] Try.func20 rfl (by decide +kernel) rfl ?_
 unfold g_law24_works at h
 refine wp_eqB (base':=0) (st':=⟨[],[],181⟩) kr kr ?_
 refine sq (wp_seq (reg_in ?_))
 refine callW bodyB_31 (g_law24_rain_ok ) h (fun x1 _ h=>?_)
 refine sgL false [] [] true gE ?_
 refine sgL false [] [] false gE ?_
 refine sz 2 5 (reg_end rfl (sq (wp_seq (wg [1,2,3,4] [2,1,3,4,0] (reg_in (sz 3 3 ?_))))))
 refine callR (as0:=[.agg [vI x1.Grain,.ref 4 0 x1.Nodes.length],.ref 1 0 2,vI 0,vI 1,.agg [vI 0,vI 0,vI 0,vI 1]]) (ids:=[4,1]) kr bodyB_12 (msnap_cons (snap_agg (msnap_cons rfl (msnap_cons (snap_full (w:=3) (bx:=false) (ro:=false) kr) msnap_nil (by rfl)) (by rfl))) (msnap_cons (show snap _ _ _=some (_,[1]) from kr) (msnap_cons rfl (msnap_cons rfl (msnap_cons (snap_agg (msnap_cons rfl (msnap_cons rfl (msnap_cons rfl (msnap_cons rfl msnap_nil (by rfl)) (by rfl)) (by rfl)) (by rfl))) msnap_nil (by rfl)) (by rfl)) (by rfl)) (by rfl)) (by rfl)) (fun x3 q4=>g_sensitive_Line_ok x1 [-1,1] 0 1 (Tapi_Shift.mk 0 0 0 1) x3 q4) gF h (fun x3 q4 h=>?_)
 refine sz 6 10 (reg_end rfl (wp_seq ?_))
 refine wgc [1,2,3,4,5,6] [0,1,2,3,5,4] ⟨[(1,.ptr 0 0 0),(2,.ref 1 0 2),(3,.ptr 2 0 0),(4,.ptr 3 0 0),(5,.ptr 4 0 0),(6,vI x3.2)],[oX false false 2 (.agg [vI x1.Grain,.ref 5 0 x1.Nodes.length]),.row false false true true 1 [vI (-1),vI 1],oX true true 4 (.agg [vI 0,vI 0,vI 0,vI 1]),oX true true 4 (.agg [vI 1,vI 1,vI 1,vI 0]),oX true true 4 (.agg [vI x3.1.1,vI x3.1.2.1,vI x3.1.2.2.1,vI x3.1.2.2.2]),oR false 3 eTapi_Node x1.Nodes],181⟩ ?_
 refine reg_in (sz 3 3 ?_)
 refine callR (as0:=[.agg [vI x1.Grain,.ref 5 0 x1.Nodes.length],.ref 1 0 2,vI 0,vI 1,.agg [vI 1,vI 1,vI 1,vI 0]]) (ids:=[5,1]) kr bodyB_12 (msnap_cons (snap_agg (msnap_cons rfl (msnap_cons (snap_full (w:=3) (bx:=false) (ro:=false) kr) msnap_nil (by rfl)) (by rfl))) (msnap_cons (show snap _ _ _=some (_,[1]) from kr) (msnap_cons rfl (msnap_cons rfl (msnap_cons (snap_agg (msnap_cons rfl (msnap_cons rfl (msnap_cons rfl (msnap_cons rfl msnap_nil (by rfl)) (by rfl)) (by rfl)) (by rfl))) msnap_nil (by rfl)) (by rfl)) (by rfl)) (by rfl)) (by rfl)) (fun x5 q6=>g_sensitive_Line_ok x1 [-1,1] 0 1 (Tapi_Shift.mk 1 1 1 0) x5 q6) gF h (fun x5 q6 h=>?_)
 refine sz 6 10 (reg_end rfl (wp_seq (wg [1,2,3,4,5,6,7,8] [0,1,2,3,4,6,5] (reg_in (sz 4 4 ?_)))))
 refine callR (as0:=[.agg [vI x1.Grain,.ref 6 0 x1.Nodes.length],.ref 1 0 2,vI 0,vI 1,.agg [vI 0,vI 0,vI 0,vI 1],.agg [vI 8,vI 1]]) (ids:=[6,1]) kr bodyB_16 (msnap_cons (snap_agg (msnap_cons rfl (msnap_cons (snap_full (w:=3) (bx:=false) (ro:=false) kr) msnap_nil (by rfl)) (by rfl))) (msnap_cons (show snap _ _ _=some (_,[1]) from kr) (msnap_cons rfl (msnap_cons rfl (msnap_cons (snap_agg (msnap_cons rfl (msnap_cons rfl (msnap_cons rfl (msnap_cons rfl msnap_nil (by rfl)) (by rfl)) (by rfl)) (by rfl))) (msnap_cons (snap_agg (msnap_cons rfl (msnap_cons rfl msnap_nil (by rfl)) (by rfl))) msnap_nil (by rfl)) (by rfl)) (by rfl)) (by rfl)) (by rfl)) (by rfl)) (fun x7 q8=>g_sensitive_At_ok x1 [-1,1] 0 1 (Tapi_Shift.mk 0 0 0 1) (Tapi_Q.mk 8 1) x7 q8) gF h (fun x7 q8 h=>?_)
 refine sz 6 11 (reg_end rfl (wp_seq ?_))
 refine wgc [1,2,3,4,5,6,7,8,10] [0,1,2,3,4,5,6] ⟨[(1,.ptr 0 0 0),(2,.ref 1 0 2),(3,.ptr 2 0 0),(4,.ptr 3 0 0),(5,.ptr 4 0 0),(6,vI x3.2),(7,.ptr 5 0 0),(8,vI x5.2),(10,vI x7.2)],(s20_5 x1 x3 x5),181⟩ ?_
 refine reg_in (sz 1 1 ?_)
 refine sgL false [] [] true gE ?_
 refine sz 1 3 ?_
 refine callR (as0:=[.agg [vI x1.Grain,.ref 6 0 x1.Nodes.length],.ref 7 0 2,vI 0,vI 1,.agg [vI 0,vI 0,vI 0,vI 1]]) (ids:=[6,7]) kr bodyB_12 (msnap_cons (snap_agg (msnap_cons rfl (msnap_cons (snap_full (w:=3) (bx:=false) (ro:=false) kr) msnap_nil (by rfl)) (by rfl))) (msnap_cons (show snap _ _ _=some (_,[7]) from kr) (msnap_cons rfl (msnap_cons rfl (msnap_cons (snap_agg (msnap_cons rfl (msnap_cons rfl (msnap_cons rfl (msnap_cons rfl msnap_nil (by rfl)) (by rfl)) (by rfl)) (by rfl))) msnap_nil (by rfl)) (by rfl)) (by rfl)) (by rfl)) (by rfl)) (fun x9 q10=>g_sensitive_Line_ok x1 [2,0] 0 1 (Tapi_Shift.mk 0 0 0 1) x9 q10) gF h (fun x9 q10 h=>?_)
 refine sz 6 10 (reg_end rfl (wp_seq (wg [1,2,3,4,5,6,7,8,10,12] [0,1,2,3,4,5,6] (reg_in (sz 3 3 ?_)))))
 refine callR (as0:=[.agg [vI x1.Grain,.ref 6 0 x1.Nodes.length],.ref 1 0 2,vI 2,vI 0,.agg [vI 0,vI 0,vI 0,vI 1]]) (ids:=[6,1]) kr bodyB_12 (msnap_cons (snap_agg (msnap_cons rfl (msnap_cons (snap_full (w:=3) (bx:=false) (ro:=false) kr) msnap_nil (by rfl)) (by rfl))) (msnap_cons (show snap _ _ _=some (_,[1]) from kr) (msnap_cons rfl (msnap_cons rfl (msnap_cons (snap_agg (msnap_cons rfl (msnap_cons rfl (msnap_cons rfl (msnap_cons rfl msnap_nil (by rfl)) (by rfl)) (by rfl)) (by rfl))) msnap_nil (by rfl)) (by rfl)) (by rfl)) (by rfl)) (by rfl)) (fun x11 q12=>g_sensitive_Line_ok x1 [-1,1] 2 0 (Tapi_Shift.mk 0 0 0 1) x11 q12) gF h (fun x11 q12 h=>?_)
 refine sz 6 10 (reg_end rfl (wp_seq ?_))
 refine wgc [1,2,3,4,5,6,7,8,10,12,14] [0,1,2,3,4,5,6] ⟨[(1,.ptr 0 0 0),(2,.ref 1 0 2),(3,.ptr 2 0 0),(4,.ptr 3 0 0),(5,.ptr 4 0 0),(6,vI x3.2),(7,.ptr 5 0 0),(8,vI x5.2),(10,vI x7.2),(12,vI x9.2),(14,vI x11.2)],(s20_5 x1 x3 x5),181⟩ ?_
 refine reg_in (sz 3 3 ?_)
 refine callR (as0:=[.agg [vI x1.Grain,.ref 6 0 x1.Nodes.length],.ref 1 0 2,vI 0,vI 1,.agg [vI 0,vI 0,vI 0,vI 0]]) (ids:=[6,1]) kr bodyB_12 (msnap_cons (snap_agg (msnap_cons rfl (msnap_cons (snap_full (w:=3) (bx:=false) (ro:=false) kr) msnap_nil (by rfl)) (by rfl))) (msnap_cons (show snap _ _ _=some (_,[1]) from kr) (msnap_cons rfl (msnap_cons rfl (msnap_cons (snap_agg (msnap_cons rfl (msnap_cons rfl (msnap_cons rfl (msnap_cons rfl msnap_nil (by rfl)) (by rfl)) (by rfl)) (by rfl))) msnap_nil (by rfl)) (by rfl)) (by rfl)) (by rfl)) (by rfl)) (fun x13 q14=>g_sensitive_Line_ok x1 [-1,1] 0 1 (Tapi_Shift.mk 0 0 0 0) x13 q14) gF h (fun x13 q14 h=>?_)
 refine sz 6 10 (reg_end rfl (wp_seq (wg [1,2,3,4,5,6,7,8,10,12,14,16] [0,1,2,3,4,5,6] (reg_in (sz 4 4 ?_)))))
 refine callR (as0:=[.agg [vI x1.Grain,.ref 6 0 x1.Nodes.length],.ref 1 0 2,vI 0,vI 1,.agg [vI 0,vI 0,vI 0,vI 1],.agg [vI 2,vI 4]]) (ids:=[6,1]) kr bodyB_16 (msnap_cons (snap_agg (msnap_cons rfl (msnap_cons (snap_full (w:=3) (bx:=false) (ro:=false) kr) msnap_nil (by rfl)) (by rfl))) (msnap_cons (show snap _ _ _=some (_,[1]) from kr) (msnap_cons rfl (msnap_cons rfl (msnap_cons (snap_agg (msnap_cons rfl (msnap_cons rfl (msnap_cons rfl (msnap_cons rfl msnap_nil (by rfl)) (by rfl)) (by rfl)) (by rfl))) (msnap_cons (snap_agg (msnap_cons rfl (msnap_cons rfl msnap_nil (by rfl)) (by rfl))) msnap_nil (by rfl)) (by rfl)) (by rfl)) (by rfl)) (by rfl)) (by rfl)) (fun x15 q16=>g_sensitive_At_ok x1 [-1,1] 0 1 (Tapi_Shift.mk 0 0 0 1) (Tapi_Q.mk 2 4) x15 q16) gF h (fun x15 q16 h=>?_)
 refine sz 6 11 (reg_end rfl (wp_seq ?_))
 refine wgc [1,2,3,4,5,6,7,8,10,12,14,16,18] [0,1,2,3,4,5,6] ⟨[(1,.ptr 0 0 0),(2,.ref 1 0 2),(3,.ptr 2 0 0),(4,.ptr 3 0 0),(5,.ptr 4 0 0),(6,vI x3.2),(7,.ptr 5 0 0),(8,vI x5.2),(10,vI x7.2),(12,vI x9.2),(14,vI x11.2),(16,vI x13.2),(18,vI x15.2)],(s20_5 x1 x3 x5),181⟩ ?_
 refine reg_in (sz 4 4 ?_)
 refine callR (as0:=[.agg [vI x1.Grain,.ref 6 0 x1.Nodes.length],.ref 1 0 2,vI 0,vI 1,.agg [vI 0,vI 0,vI 0,vI 1],.agg [vI 1,vI 2000]]) (ids:=[6,1]) kr bodyB_16 (msnap_cons (snap_agg (msnap_cons rfl (msnap_cons (snap_full (w:=3) (bx:=false) (ro:=false) kr) msnap_nil (by rfl)) (by rfl))) (msnap_cons (show snap _ _ _=some (_,[1]) from kr) (msnap_cons rfl (msnap_cons rfl (msnap_cons (snap_agg (msnap_cons rfl (msnap_cons rfl (msnap_cons rfl (msnap_cons rfl msnap_nil (by rfl)) (by rfl)) (by rfl)) (by rfl))) (msnap_cons (snap_agg (msnap_cons rfl (msnap_cons rfl msnap_nil (by rfl)) (by rfl))) msnap_nil (by rfl)) (by rfl)) (by rfl)) (by rfl)) (by rfl)) (by rfl)) (fun x17 q18=>g_sensitive_At_ok x1 [-1,1] 0 1 (Tapi_Shift.mk 0 0 0 1) (Tapi_Q.mk 1 2000) x17 q18) gF h (fun x17 q18 h=>?_)
 refine sz 6 11 (reg_end rfl (wp_seq (wg [2,3,4,5,6,7,8,10,12,14,16,18,20] [1,2,3,4,5] (rn (wp_seq (reg_in (sz 4 4 ?_)))))))
 refine rw_wk (wk_gc (live:=[2,3,4,6,7,8,10,12,14,16,18,20,21,90]) (keep:=[0,1,2,4,5]) (st':=⟨[(2,.ref 0 0 2),(3,.ptr 1 0 0),(4,.ptr 2 0 0),(6,vI x3.2),(7,.ptr 3 0 0),(8,vI x5.2),(10,vI x7.2),(12,vI x9.2),(14,vI x11.2),(16,vI x13.2),(18,vI x15.2),(20,vI x17.2),(21,.ptr 4 0 0),(90,vB ((x3.1.1==24) && ((x3.1.2.1==8) && ((x3.1.2.2.1==38) && ((x3.1.2.2.2==6) && true)))))],(s20_17 x5),181⟩) kr) ?_
 refine rb [90] h (fun q20 h=>?_) (fun q20 h=>?_)
 ·refine sz 4 8 (rwg [2,3,4,7,8,10,12,14,16,18,20,21,94] [0,1,2,3,4] ?_)
  refine rb [94] h (fun q22 h=>?_) (fun q22 h=>?_)
  ·refine sz 5 13 (rwg [2,3,4,8,10,12,14,16,18,20,21,99] [0,1,2,4] ?_)
   refine rb [99] h (fun q24 h=>?_) (fun q24 h=>?_)
   ·refine sz 4 17 (rwg [2,3,4,10,12,14,16,18,20,21,103] [0,1,2,3] ?_)
    refine rb [103] h (fun q26 h=>?_) (fun q26 h=>?_)
    ·refine sz 4 21 ?_
     refine rw_wk (wk_gc (live:=[2,3,4,12,14,16,18,20,21,107]) (keep:=[0,1,2,3]) (st':=⟨[(2,.ref 0 0 2),(3,.ptr 1 0 0),(4,.ptr 2 0 0),(12,vI x9.2),(14,vI x11.2),(16,vI x13.2),(18,vI x15.2),(20,vI x17.2),(21,.ptr 3 0 0),(107,vB (x7.2==2))],s20_22,181⟩) kr) ?_
     refine rb [107] h (fun q28 h=>?_) (fun q28 h=>?_)
     ·refine sz 4 25 (rwg [2,3,4,14,16,18,20,21,111] [0,1,2,3] ?_)
      refine rb [111] h (fun q30 h=>?_) (fun q30 h=>?_)
      ·refine sz 4 29 (rwg [2,3,4,16,18,20,21,115] [0,1,2,3] ?_)
       refine rb [115] h (fun q32 h=>?_) (fun q32 h=>?_)
       ·refine sz 4 33 (rwg [2,3,4,18,20,21,119] [0,1,2,3] ?_)
        refine rb [119] h (fun q34 h=>?_) (fun q34 h=>?_)
        ·refine sz 4 37 ?_
         refine rw_wk (wk_gc (live:=[2,3,4,20,21,123]) (keep:=[0,1,2,3]) (st':=⟨[(2,.ref 0 0 2),(3,.ptr 1 0 0),(4,.ptr 2 0 0),(20,vI x17.2),(21,.ptr 3 0 0),(123,vB (x15.2==5))],s20_22,181⟩) kr) ?_
         refine rb [123] h (fun q36 h=>?_) (fun q36 h=>?_)
         ·refine sz 4 41 (rwg [2,3,4,21,127] [0,1,2,3] ?_)
          refine rb [127] h (fun q38 h=>?_) (fun q38 h=>?_)
          ·refine callW bodyB_53 (g_law24_at_ok 0 12 19) h (fun x39 _ h=>?_)
           refine sz 2 44 ?_
           refine rb [128,129,130] h (fun q42 h=>?_) (fun q42 h=>?_)
           ·refine callW bodyB_53 (g_law24_at_ok 1 8 11) h (fun x43 _ h=>?_)
            refine sz 2 47 (rwg [2,3,4,21,133] [0,1,2,3] ?_)
            refine rb [133] h (fun q46 h=>?_) (fun q46 h=>?_)
            ·refine callW bodyB_53 (g_law24_at_ok 7 1 1) h (fun x47 _ h=>?_)
             refine sz 2 50 (reg_end rfl (wp_seq (reg_in (sz 2 2 ?_))))
             refine rw_wk (wk_gc (live:=[2,3,4,21,137]) (keep:=[0,1,2,3]) (st':=⟨[(2,.ref 0 0 2),(3,.ptr 1 0 0),(4,.ptr 2 0 0),(21,.ptr 3 0 0),(137,vB x47)],s20_22,181⟩) kr) ?_
             refine rb [137] h (fun q50 h=>?_) (fun q50 h=>?_)
             ·refine sz 4 6 ?_
              refine callR (as0:=[.ref 0 0 2,.agg [vI 0,vI 0,vI 0,vI 1],.agg [vI 1,vI 2],.agg [vI (-1),vI 1],vI 0]) (ids:=[0]) kr bodyB_54 (msnap_cons (show snap _ _ _=some (_,[0]) from kr) (msnap_cons (snap_agg (msnap_cons rfl (msnap_cons rfl (msnap_cons rfl (msnap_cons rfl msnap_nil (by rfl)) (by rfl)) (by rfl)) (by rfl))) (msnap_cons (snap_agg (msnap_cons rfl (msnap_cons rfl msnap_nil (by rfl)) (by rfl))) (msnap_cons (snap_agg (msnap_cons rfl (msnap_cons rfl msnap_nil (by rfl)) (by rfl))) (msnap_cons rfl msnap_nil (by rfl)) (by rfl)) (by rfl)) (by rfl)) (by rfl)) (fun x51 q52=>g_law24_threshold_ok [-1,1] (Tapi_Shift.mk 0 0 0 1) (Tapi_Q.mk 1 2) (Tapi_Q.mk (-1) 1) 0 x51 q52) gF h (fun x51 q52 h=>?_)
              refine sz 2 9 (rwg [2,3,4,21,144] [0,1,2,3] ?_)
              refine rb [144] h (fun q54 h=>?_) (fun q54 h=>?_)
              ·refine sz 1 10 ?_
               refine callR (as0:=[.ref 0 0 2,vI (-1),vI 7]) (ids:=[0]) kr bodyB_55 (msnap_cons (show snap _ _ _=some (_,[0]) from kr) (msnap_cons rfl (msnap_cons rfl msnap_nil (by rfl)) (by rfl)) (by rfl)) (fun x55 q56=>g_law24_stay_ok [-1,1] (-1) 7 x55 q56) gF h (fun x55 q56 h=>?_)
               refine sz 2 13 (rwg [2,3,4,21,148] [0,1,2,3] ?_)
               refine rb [148] h (fun q58 h=>?_) (fun q58 h=>?_)
               ·refine sgL false [] [] true gE ?_
                refine callR (as0:=[.ref 4 0 2,vI (-3),vI 2]) (ids:=[4]) kr bodyB_55 (msnap_cons (show snap _ _ _=some (_,[4]) from kr) (msnap_cons rfl (msnap_cons rfl msnap_nil (by rfl)) (by rfl)) (by rfl)) (fun x59 q60=>g_law24_stay_ok [-1,-1] (-3) 2 x59 q60) gF h (fun x59 q60 h=>?_)
                refine sz 2 17 (reg_end rfl (wp_seq (reg_in (sz 2 2 ?_))))
                refine rw_wk (wk_gc (live:=[2,3,4,21,153]) (keep:=[0,1,2,3]) (st':=⟨[(2,.ref 0 0 2),(3,.ptr 1 0 0),(4,.ptr 2 0 0),(21,.ptr 3 0 0),(153,vB x59)],s20_22,181⟩) kr) ?_
                refine rb [153] h (fun q62 h=>?_) (fun q62 h=>?_)
                ·refine sz 4 6 ?_
                 refine callR (as0:=[.ref 0 0 2,.agg [vI 0,vI 0,vI 0,vI 1],.agg [vI 0,vI 1],.agg [vI (-3),vI 1],vI 0]) (ids:=[0]) kr bodyB_54 (msnap_cons (show snap _ _ _=some (_,[0]) from kr) (msnap_cons (snap_agg (msnap_cons rfl (msnap_cons rfl (msnap_cons rfl (msnap_cons rfl msnap_nil (by rfl)) (by rfl)) (by rfl)) (by rfl))) (msnap_cons (snap_agg (msnap_cons rfl (msnap_cons rfl msnap_nil (by rfl)) (by rfl))) (msnap_cons (snap_agg (msnap_cons rfl (msnap_cons rfl msnap_nil (by rfl)) (by rfl))) (msnap_cons rfl msnap_nil (by rfl)) (by rfl)) (by rfl)) (by rfl)) (by rfl)) (fun x63 q64=>g_law24_threshold_ok [-1,1] (Tapi_Shift.mk 0 0 0 1) (Tapi_Q.mk 0 1) (Tapi_Q.mk (-3) 1) 0 x63 q64) gF h (fun x63 q64 h=>?_)
                 refine sz 2 9 (rwg [2,3,4,21,160] [0,1,2,3] ?_)
                 refine rb [160] h (fun q66 h=>?_) (fun q66 h=>?_)
                 ·refine sz 4 13 ?_
                  refine callR (as0:=[.ref 0 0 2,.agg [vI 1,vI 1,vI 1,vI 0],.agg [vI 1,vI 2],.agg [vI 10,vI 3],vI 0]) (ids:=[0]) kr bodyB_54 (msnap_cons (show snap _ _ _=some (_,[0]) from kr) (msnap_cons (snap_agg (msnap_cons rfl (msnap_cons rfl (msnap_cons rfl (msnap_cons rfl msnap_nil (by rfl)) (by rfl)) (by rfl)) (by rfl))) (msnap_cons (snap_agg (msnap_cons rfl (msnap_cons rfl msnap_nil (by rfl)) (by rfl))) (msnap_cons (snap_agg (msnap_cons rfl (msnap_cons rfl msnap_nil (by rfl)) (by rfl))) (msnap_cons rfl msnap_nil (by rfl)) (by rfl)) (by rfl)) (by rfl)) (by rfl)) (fun x67 q68=>g_law24_threshold_ok [-1,1] (Tapi_Shift.mk 1 1 1 0) (Tapi_Q.mk 1 2) (Tapi_Q.mk 10 3) 0 x67 q68) gF h (fun x67 q68 h=>?_)
                  refine sz 2 16 (rwg [2,3,4,167] [0,1,2] ?_)
                  refine rb [167] h (fun q70 h=>?_) (fun q70 h=>?_)
                  ·refine sgL false [] [] true gE ?_
                   refine sz 3 20 ?_
                   refine callR (as0:=[.ref 3 0 2,.agg [vI 0,vI 0,vI 0,vI 1],.agg [vI 1,vI 1],.agg [vI 0,vI 0],vI 4]) (ids:=[3]) kr bodyB_54 (msnap_cons (show snap _ _ _=some (_,[3]) from kr) (msnap_cons (snap_agg (msnap_cons rfl (msnap_cons rfl (msnap_cons rfl (msnap_cons rfl msnap_nil (by rfl)) (by rfl)) (by rfl)) (by rfl))) (msnap_cons (snap_agg (msnap_cons rfl (msnap_cons rfl msnap_nil (by rfl)) (by rfl))) (msnap_cons (snap_agg (msnap_cons rfl (msnap_cons rfl msnap_nil (by rfl)) (by rfl))) (msnap_cons rfl msnap_nil (by rfl)) (by rfl)) (by rfl)) (by rfl)) (by rfl)) (fun x71 q72=>g_law24_threshold_ok [1,1] (Tapi_Shift.mk 0 0 0 1) (Tapi_Q.mk 1 1) (Tapi_Q.mk 0 0) 4 x71 q72) gF h (fun x71 q72 h=>?_)
                   refine sz 2 23 ?_
                   refine rw_wk (wk_gc (live:=[2,4,174]) (keep:=[0,2]) (st':=⟨[(2,.ref 0 0 2),(4,.ptr 1 0 0),(174,vB x71)],[.row false false true true 1 [vI (-1),vI 1],oX true true 4 (.agg [vI 1,vI 1,vI 1,vI 0])],181⟩) kr) ?_
                   refine rb [174] h (fun q74 h=>?_) (fun q74 h=>?_)
                   ·refine sz 4 27 ?_
                    refine callR (as0:=[.ref 0 0 2,.agg [vI 1,vI 1,vI 1,vI 0],.agg [vI 3,vI 4],.agg [vI 0,vI 0],vI 4]) (ids:=[0]) kr bodyB_54 (msnap_cons (show snap _ _ _=some (_,[0]) from kr) (msnap_cons (snap_agg (msnap_cons rfl (msnap_cons rfl (msnap_cons rfl (msnap_cons rfl msnap_nil (by rfl)) (by rfl)) (by rfl)) (by rfl))) (msnap_cons (snap_agg (msnap_cons rfl (msnap_cons rfl msnap_nil (by rfl)) (by rfl))) (msnap_cons (snap_agg (msnap_cons rfl (msnap_cons rfl msnap_nil (by rfl)) (by rfl))) (msnap_cons rfl msnap_nil (by rfl)) (by rfl)) (by rfl)) (by rfl)) (by rfl)) (fun x75 q76=>g_law24_threshold_ok [-1,1] (Tapi_Shift.mk 1 1 1 0) (Tapi_Q.mk 3 4) (Tapi_Q.mk 0 0) 4 x75 q76) gF h (fun x75 q76 h=>?_)
                    refine sz 2 30 (reg_end rfl (wg [0] [] ?_))
                    cases h
                    exact wp_ret (show fnOut _ _ _ _=_ from by kernel_rfl)
                   refine sz 7 30 (reg_end rfl (wg [0] [] ?_))
                   cases h
                   exact wp_ret (show fnOut _ _ _ _=_ from by kernel_rfl)
                  refine sz 14 30 (reg_end rfl ?_)
                  refine wgc [0] [] ⟨[(0,vB false)],[],181⟩ ?_
                  cases h
                  exact wp_ret (show fnOut _ _ _ _=_ from by kernel_rfl)
                 refine sz 21 30 (reg_end rfl ?_)
                 refine wgc [0] [] ⟨[(0,vB false)],[],181⟩ ?_
                 cases h
                 exact wp_ret (show fnOut _ _ _ _=_ from by kernel_rfl)
                refine sz 28 30 (reg_end rfl ?_)
                refine wgc [0] [] ⟨[(0,vB false)],[],181⟩ ?_
                cases h
                exact wp_ret (show fnOut _ _ _ _=_ from by kernel_rfl)
               refine sz 4 17 (reg_end rfl (sq ?_))
               refine wgc [0] [] ⟨[(0,vB false)],[],181⟩ ?_
               cases h
               exact wp_ret (show fnOut _ _ _ _=_ from by kernel_rfl)
              refine sz 8 17 (reg_end rfl (wp_seq ?_))
              refine wgc [2,3,4,21,22] [0,1,2,3] ⟨[(2,.ref 0 0 2),(3,.ptr 1 0 0),(4,.ptr 2 0 0),(21,.ptr 3 0 0),(22,vB false)],s20_22,181⟩ ?_
              refine rn (wg [0] [] ?_)
              cases h
              exact wp_ret (show fnOut _ _ _ _=_ from by kernel_rfl)
             refine sz 15 17 (reg_end rfl (wp_seq (wg [2,3,4,21,22] [0,1,2,3] (rn ?_))))
             refine wgc [0] [] ⟨[(0,vB false)],[],181⟩ ?_
             cases h
             exact wp_ret (show fnOut _ _ _ _=_ from by kernel_rfl)
            refine sz 3 50 (reg_end rfl (sq (wp_seq ?_)))
            refine wgc [2,3,4,21,22] [0,1,2,3] ⟨[(2,.ref 0 0 2),(3,.ptr 1 0 0),(4,.ptr 2 0 0),(21,.ptr 3 0 0),(22,vB false)],s20_22,181⟩ ?_
            refine rn (wg [0] [] ?_)
            cases h
            exact wp_ret (show fnOut _ _ _ _=_ from by kernel_rfl)
           refine sz 6 50 (reg_end rfl (wp_seq ?_))
           refine wgc [2,3,4,21,22] [0,1,2,3] ⟨[(2,.ref 0 0 2),(3,.ptr 1 0 0),(4,.ptr 2 0 0),(21,.ptr 3 0 0),(22,vB false)],s20_22,181⟩ ?_
           refine rn (wp_seq (wg [2,3,4,21,22] [0,1,2,3] (rn (wg [0] [] ?_))))
           cases h
           exact wp_ret (show fnOut _ _ _ _=_ from by kernel_rfl)
          refine sz 9 50 (reg_end rfl (wp_seq (wg [2,3,4,21,22] [0,1,2,3] (rn (wp_seq ?_)))))
          refine wgc [2,3,4,21,22] [0,1,2,3] ⟨[(2,.ref 0 0 2),(3,.ptr 1 0 0),(4,.ptr 2 0 0),(21,.ptr 3 0 0),(22,vB false)],s20_22,181⟩ ?_
          refine rn (wg [0] [] ?_)
          cases h
          exact wp_ret (show fnOut _ _ _ _=_ from by kernel_rfl)
         refine sz 13 50 (reg_end rfl (wp_seq (wg [2,3,4,21,22] [0,1,2,3] (rn (wp_seq ?_)))))
         refine wgc [2,3,4,21,22] [0,1,2,3] ⟨[(2,.ref 0 0 2),(3,.ptr 1 0 0),(4,.ptr 2 0 0),(21,.ptr 3 0 0),(22,vB false)],s20_22,181⟩ ?_
         refine rn (wg [0] [] ?_)
         cases h
         exact wp_ret (show fnOut _ _ _ _=_ from by kernel_rfl)
        refine sz 17 50 (reg_end rfl (wp_seq ?_))
        refine wgc [2,3,4,21,22] [0,1,2,3] ⟨[(2,.ref 0 0 2),(3,.ptr 1 0 0),(4,.ptr 2 0 0),(21,.ptr 3 0 0),(22,vB false)],s20_22,181⟩ ?_
        refine rn (wp_seq (wg [2,3,4,21,22] [0,1,2,3] (rn (wg [0] [] ?_))))
        cases h
        exact wp_ret (show fnOut _ _ _ _=_ from by kernel_rfl)
       refine sz 21 50 (reg_end rfl (wp_seq ?_))
       refine wgc [2,3,4,21,22] [0,1,2,3] ⟨[(2,.ref 0 0 2),(3,.ptr 1 0 0),(4,.ptr 2 0 0),(21,.ptr 3 0 0),(22,vB false)],s20_22,181⟩ ?_
       refine rn (wp_seq (wg [2,3,4,21,22] [0,1,2,3] (rn (wg [0] [] ?_))))
       cases h
       exact wp_ret (show fnOut _ _ _ _=_ from by kernel_rfl)
      refine sz 25 50 (reg_end rfl (wp_seq ?_))
      refine wgc [2,3,4,21,22] [0,1,2,3] ⟨[(2,.ref 0 0 2),(3,.ptr 1 0 0),(4,.ptr 2 0 0),(21,.ptr 3 0 0),(22,vB false)],s20_22,181⟩ ?_
      refine rn (wp_seq (wg [2,3,4,21,22] [0,1,2,3] (rn (wg [0] [] ?_))))
      cases h
      exact wp_ret (show fnOut _ _ _ _=_ from by kernel_rfl)
     refine sz 29 50 (reg_end rfl (wp_seq ?_))
     refine wgc [2,3,4,21,22] [0,1,2,3] ⟨[(2,.ref 0 0 2),(3,.ptr 1 0 0),(4,.ptr 2 0 0),(21,.ptr 3 0 0),(22,vB false)],s20_22,181⟩ ?_
     refine rn (wp_seq (wg [2,3,4,21,22] [0,1,2,3] (rn (wg [0] [] ?_))))
     cases h
     exact wp_ret (show fnOut _ _ _ _=_ from by kernel_rfl)
    refine sgz 33 50 (S:=⟨[(2,.ref 0 0 2),(3,.ptr 1 0 0),(4,.ptr 2 0 0),(10,vI x7.2),(12,vI x9.2),(14,vI x11.2),(16,vI x13.2),(18,vI x15.2),(20,vI x17.2),(21,.ptr 3 0 0),(103,vB false),(104,.tup []),(105,.tup []),(106,vB false),(107,vB false),(108,.tup []),(109,.tup []),(110,vB false),(111,vB false),(112,.tup []),(113,.tup []),(114,vB false),(115,vB false),(116,.tup []),(117,.tup []),(118,vB false),(119,vB false),(120,.tup []),(121,.tup []),(122,vB false),(123,vB false),(124,.tup []),(125,.tup []),(126,vB false),(127,vB false),(128,.tup []),(129,vB false),(130,vB false),(131,.tup []),(132,vB false),(133,vB false),(134,.tup []),(135,vB false),(22,vB false)],s20_22,181⟩) ?_
    refine reg_end rfl (wp_seq (wg [2,3,4,21,22] [0,1,2,3] (rn (wp_seq (wg [2,3,4,21,22] [0,1,2,3] (rn (wg [0] [] ?_)))))))
    cases h
    exact wp_ret (show fnOut _ _ _ _=_ from by kernel_rfl)
   refine sgz 37 50 (S:=⟨[(2,.ref 0 0 2),(3,.ptr 1 0 0),(4,.ptr 2 0 0),(8,vI x5.2),(10,vI x7.2),(12,vI x9.2),(14,vI x11.2),(16,vI x13.2),(18,vI x15.2),(20,vI x17.2),(21,.ptr 3 0 0),(99,vB false),(100,.tup []),(101,.tup []),(102,vB false),(103,vB false),(104,.tup []),(105,.tup []),(106,vB false),(107,vB false),(108,.tup []),(109,.tup []),(110,vB false),(111,vB false),(112,.tup []),(113,.tup []),(114,vB false),(115,vB false),(116,.tup []),(117,.tup []),(118,vB false),(119,vB false),(120,.tup []),(121,.tup []),(122,vB false),(123,vB false),(124,.tup []),(125,.tup []),(126,vB false),(127,vB false),(128,.tup []),(129,vB false),(130,vB false),(131,.tup []),(132,vB false),(133,vB false),(134,.tup []),(135,vB false),(22,vB false)],s20_22,181⟩) ?_
   refine reg_end rfl (wp_seq (wg [2,3,4,21,22] [0,1,2,3] (rn (wp_seq (wg [2,3,4,21,22] [0,1,2,3] (rn (wg [0] [] ?_)))))))
   cases h
   exact wp_ret (show fnOut _ _ _ _=_ from by kernel_rfl)
  refine sgz 42 50 (S:=⟨[(2,.ref 0 0 2),(3,.ptr 1 0 0),(4,.ptr 2 0 0),(7,.ptr 3 0 0),(8,vI x5.2),(10,vI x7.2),(12,vI x9.2),(14,vI x11.2),(16,vI x13.2),(18,vI x15.2),(20,vI x17.2),(21,.ptr 4 0 0),(94,vB false),(95,.tup []),(96,.tup []),(97,.tup []),(98,vB false),(99,vB false),(100,.tup []),(101,.tup []),(102,vB false),(103,vB false),(104,.tup []),(105,.tup []),(106,vB false),(107,vB false),(108,.tup []),(109,.tup []),(110,vB false),(111,vB false),(112,.tup []),(113,.tup []),(114,vB false),(115,vB false),(116,.tup []),(117,.tup []),(118,vB false),(119,vB false),(120,.tup []),(121,.tup []),(122,vB false),(123,vB false),(124,.tup []),(125,.tup []),(126,vB false),(127,vB false),(128,.tup []),(129,vB false),(130,vB false),(131,.tup []),(132,vB false),(133,vB false),(134,.tup []),(135,vB false),(22,vB false)],(s20_17 x5),181⟩) ?_
  refine reg_end rfl (wp_seq (wg [2,3,4,21,22] [0,1,2,4] (rn (wp_seq (wg [2,3,4,21,22] [0,1,2,3] (rn (wg [0] [] ?_)))))))
  cases h
  exact wp_ret (show fnOut _ _ _ _=_ from by kernel_rfl)
 refine sgz 46 50 (S:=⟨[(2,.ref 0 0 2),(3,.ptr 1 0 0),(4,.ptr 2 0 0),(6,vI x3.2),(7,.ptr 3 0 0),(8,vI x5.2),(10,vI x7.2),(12,vI x9.2),(14,vI x11.2),(16,vI x13.2),(18,vI x15.2),(20,vI x17.2),(21,.ptr 4 0 0),(90,vB false),(91,.tup []),(92,.tup []),(93,vB false),(94,vB false),(95,.tup []),(96,.tup []),(97,.tup []),(98,vB false),(99,vB false),(100,.tup []),(101,.tup []),(102,vB false),(103,vB false),(104,.tup []),(105,.tup []),(106,vB false),(107,vB false),(108,.tup []),(109,.tup []),(110,vB false),(111,vB false),(112,.tup []),(113,.tup []),(114,vB false),(115,vB false),(116,.tup []),(117,.tup []),(118,vB false),(119,vB false),(120,.tup []),(121,.tup []),(122,vB false),(123,vB false),(124,.tup []),(125,.tup []),(126,vB false),(127,vB false),(128,.tup []),(129,vB false),(130,vB false),(131,.tup []),(132,vB false),(133,vB false),(134,.tup []),(135,vB false),(22,vB false)],(s20_17 x5),181⟩) ?_
 refine reg_end rfl (wp_seq (wg [2,3,4,21,22] [0,1,2,4] (rn (wp_seq (wg [2,3,4,21,22] [0,1,2,3] (rn (wg [0] [] ?_)))))))
 cases h
 exact wp_ret (show fnOut _ _ _ _=_ from by kernel_rfl)
noncomputable abbrev s9_1 (x1:Tapi_Net):List AObj:=[oR false 3 eTapi_Node x1.Nodes,oX false false 2 (.agg [vI x1.Grain,.ref 0 0 x1.Nodes.length]),.row false true true true 1 [vI 60,vI 0],.row false false true false 1 [.lst true [vI 60,vI 0]]]
noncomputable abbrev s9_14 (x1:Tapi_Net) (x5:(Tapi_Q × Int)) (x9:(Tapi_Q × Tapi_Q × Int)) (x11:(Tapi_Q × Int)):List AObj:=[oX false false 2 (.agg [vI x1.Grain,.ref 5 0 x1.Nodes.length]),oX true true 2 (.agg [vI x5.1.N,vI x5.1.D]),oX true true 2 (.agg [vI x9.1.N,vI x9.1.D]),oX true true 2 (.agg [vI x9.2.1.N,vI x9.2.1.D]),oX true true 2 (.agg [vI x11.1.N,vI x11.1.D]),oR false 3 eTapi_Node x1.Nodes]
noncomputable abbrev s9_25 (x5:(Tapi_Q × Int)) (x9:(Tapi_Q × Tapi_Q × Int)) (x11:(Tapi_Q × Int)):List AObj:=[oX true true 2 (.agg [vI x5.1.N,vI x5.1.D]),oX true true 2 (.agg [vI x9.1.N,vI x9.1.D]),oX true true 2 (.agg [vI x9.2.1.N,vI x9.2.1.D]),oX true true 2 (.agg [vI x11.1.N,vI x11.1.D])]
noncomputable abbrev s9_29 (x9:(Tapi_Q × Tapi_Q × Int)) (x11:(Tapi_Q × Int)):List AObj:=[oX true true 2 (.agg [vI x9.1.N,vI x9.1.D]),oX true true 2 (.agg [vI x9.2.1.N,vI x9.2.1.D]),oX true true 2 (.agg [vI x11.1.N,vI x11.1.D])]
theorem g_law24_SensitiveKnown_ok  (x:Bool) (h:g_law24_SensitiveKnown=some x):CallOk Try.prog 9 [] (.ret (vB x) []):=by
 refine fn_ok [] Try.func9 rfl (by decide +kernel) rfl ?_
 unfold g_law24_SensitiveKnown at h
 refine wp_eqB (base':=0) (st':=⟨[],[],208⟩) kr kr ?_
 refine sq (wp_seq (reg_in ?_))
 refine callW bodyB_31 (g_law24_rain_ok ) h (fun x1 _ h=>?_)
 refine sgL false [] [] false gE ?_
 refine sz 1 3 (reg_end rfl (wp_seq (reg_in ?_)))
 refine sgL (S:=⟨[(0,vB false),(31,.agg [vI x1.Grain,.ref 0 0 x1.Nodes.length]),(1,.ptr 1 0 0),(32,.ref 2 0 2)],[oR false 3 eTapi_Node x1.Nodes,oX false false 2 (.agg [vI x1.Grain,.ref 0 0 x1.Nodes.length]),.row false false true true 1 [vI 60,vI 0]],208⟩) false [] [] true kr ?_
 refine bsR (parts:=[(0,.lst true [vI 60,vI 0])]) (ids:=[2]) (es:=[(2,.row false true true true 1 [vI 60,vI 0]),(3,.row false false true (List.all [.lst true [vI 60,vI 0]] AV.scs) 1 [.lst true [vI 60,vI 0]])]) (S:=⟨[(0,vB false),(31,.agg [vI x1.Grain,.ref 0 0 x1.Nodes.length]),(1,.ptr 1 0 0),(32,.ref 2 0 2),(33,.ref 3 0 1)],(s9_1 x1),208⟩) [.lst true] false rfl (sparts_snap rfl (show snap _ _ _=some (_,[2]) from kr) sparts_nil (by rfl)) kr ?_
 refine sgz 1 3 (S:=⟨[(0,vB false),(31,.agg [vI x1.Grain,.ref 0 0 x1.Nodes.length]),(1,.ptr 1 0 0),(32,.ref 2 0 2),(33,.ref 3 0 1),(34,.agg [vI 2,.nils,.ref 3 0 1])],(s9_1 x1),208⟩) ?_
 refine bsR (parts:=[(0,.agg [vI 2,.nils,.lst false [.lst true [vI 60,vI 0]]])]) (ids:=[3]) (es:=[(3,.row false true true false 1 [.lst true [vI 60,vI 0]]),(4,.row false false true (List.all [.agg [vI 2,.nils,.lst false [.lst true [vI 60,vI 0]]]] AV.scs) 3 [.agg [vI 2,.nils,.lst false [.lst true [vI 60,vI 0]]]])]) (S:=⟨[(0,vB false),(31,.agg [vI x1.Grain,.ref 0 0 x1.Nodes.length]),(1,.ptr 1 0 0),(32,.ref 2 0 2),(33,.ref 3 0 1),(34,.agg [vI 2,.nils,.ref 3 0 1]),(35,.ref 4 0 1)],[oR false 3 eTapi_Node x1.Nodes,oX false false 2 (.agg [vI x1.Grain,.ref 0 0 x1.Nodes.length]),.row false true true true 1 [vI 60,vI 0],.row false true true false 1 [.lst true [vI 60,vI 0]],.row false false true false 3 [.agg [vI 2,.lst true [],.lst false [.lst true [vI 60,vI 0]]]]],208⟩) [.keep,.lst true,.lst false] false rfl (sparts_snap rfl (snap_agg (msnap_cons rfl (msnap_cons rfl (msnap_cons (show snap _ _ _=some (_,[3]) from kr) msnap_nil (by rfl)) (by rfl)) (by rfl))) sparts_nil (by rfl)) kr ?_
 refine sz 1 5 ?_
 refine sgL false [] [] false gE ?_
 refine sz 1 7 (reg_end rfl (wp_seq (wg [1,2] [1,5,0,4] (reg_in (sz 1 1 ?_)))))
 refine sgL false [] [] true gE ?_
 refine sz 2 4 ?_
 refine callR (as0:=[.agg [vI 60,.ref 3 0 1],.ref 4 0 1,vI 0,vI 1,.agg [vI 0,vI 0,vI 0,vI 1],.agg [vI 0,vI 1]]) (ids:=[3,4]) kr bodyB_16 (msnap_cons (snap_agg (msnap_cons rfl (msnap_cons (show snap _ _ _=some (_,[3]) from kr) msnap_nil (by rfl)) (by rfl))) (msnap_cons (show snap _ _ _=some (_,[4]) from kr) (msnap_cons rfl (msnap_cons rfl (msnap_cons (snap_agg (msnap_cons rfl (msnap_cons rfl (msnap_cons rfl (msnap_cons rfl msnap_nil (by rfl)) (by rfl)) (by rfl)) (by rfl))) (msnap_cons (snap_agg (msnap_cons rfl (msnap_cons rfl msnap_nil (by rfl)) (by rfl))) msnap_nil (by rfl)) (by rfl)) (by rfl)) (by rfl)) (by rfl)) (by rfl)) (fun x3 q4=>g_sensitive_At_ok (Tapi_Net.mk 60 [(Tapi_Node.mk 2 [] [[60,0]])]) [1] 0 1 (Tapi_Shift.mk 0 0 0 1) (Tapi_Q.mk 0 1) x3 q4) gF h (fun x3 q4 h=>?_)
 refine sz 6 11 (reg_end rfl (wp_seq ?_))
 refine wgc [1,2,4] [0,1,2,3] ⟨[(1,.ptr 0 0 0),(2,.ptr 1 0 0),(4,vI x3.2)],[oX false false 2 (.agg [vI x1.Grain,.ref 2 0 x1.Nodes.length]),oX false false 2 (.agg [vI 60,.ref 3 0 1]),oR false 3 eTapi_Node x1.Nodes,.row false false true false 3 [.agg [vI 2,.lst true [],.lst false [.lst true [vI 60,vI 0]]]]],208⟩ ?_
 refine reg_in (sz 1 1 ?_)
 refine sgL false [] [] true gE ?_
 refine sz 2 4 ?_
 refine callR (as0:=[.agg [vI 60,.ref 3 0 1],.ref 4 0 1,vI 0,vI 1,.agg [vI 0,vI 0,vI 0,vI 1],.agg [vI 1,vI 1000]]) (ids:=[3,4]) kr bodyB_16 (msnap_cons (snap_agg (msnap_cons rfl (msnap_cons (show snap _ _ _=some (_,[3]) from kr) msnap_nil (by rfl)) (by rfl))) (msnap_cons (show snap _ _ _=some (_,[4]) from kr) (msnap_cons rfl (msnap_cons rfl (msnap_cons (snap_agg (msnap_cons rfl (msnap_cons rfl (msnap_cons rfl (msnap_cons rfl msnap_nil (by rfl)) (by rfl)) (by rfl)) (by rfl))) (msnap_cons (snap_agg (msnap_cons rfl (msnap_cons rfl msnap_nil (by rfl)) (by rfl))) msnap_nil (by rfl)) (by rfl)) (by rfl)) (by rfl)) (by rfl)) (by rfl)) (fun x5 q6=>g_sensitive_At_ok (Tapi_Net.mk 60 [(Tapi_Node.mk 2 [] [[60,0]])]) [1] 0 1 (Tapi_Shift.mk 0 0 0 1) (Tapi_Q.mk 1 1000) x5 q6) gF h (fun x5 q6 h=>?_)
 refine sz 6 11 (reg_end rfl (wp_seq (wg [1,2,4,5,6] [0,1,5,2,3] (reg_in (sz 1 1 ?_)))))
 refine sgL false [] [] true gE ?_
 refine sz 1 3 ?_
 refine callR (as0:=[.agg [vI 60,.ref 4 0 1],.ref 5 0 1,vI 0,.agg [vI 0,vI 0,vI 0,vI 1]]) (ids:=[4,5]) kr bodyB_23 (msnap_cons (snap_agg (msnap_cons rfl (msnap_cons (show snap _ _ _=some (_,[4]) from kr) msnap_nil (by rfl)) (by rfl))) (msnap_cons (show snap _ _ _=some (_,[5]) from kr) (msnap_cons rfl (msnap_cons (snap_agg (msnap_cons rfl (msnap_cons rfl (msnap_cons rfl (msnap_cons rfl msnap_nil (by rfl)) (by rfl)) (by rfl)) (by rfl))) msnap_nil (by rfl)) (by rfl)) (by rfl)) (by rfl)) (fun x7 q8=>g_sensitive_Stay_ok (Tapi_Net.mk 60 [(Tapi_Node.mk 2 [] [[60,0]])]) [1] 0 (Tapi_Shift.mk 0 0 0 1) x7 q8) gF h (fun x7 q8 h=>?_)
 refine sz 9 13 (reg_end rfl (wp_seq ?_))
 refine wgc [1,2,4,5,6,9] [0,1,2,3,4] ⟨[(1,.ptr 0 0 0),(2,.ptr 1 0 0),(4,vI x3.2),(5,.ptr 2 0 0),(6,vI x5.2),(9,vI x7.2.2)],[oX false false 2 (.agg [vI x1.Grain,.ref 3 0 x1.Nodes.length]),oX false false 2 (.agg [vI 60,.ref 4 0 1]),oX true true 2 (.agg [vI x5.1.N,vI x5.1.D]),oR false 3 eTapi_Node x1.Nodes,.row false false true false 3 [.agg [vI 2,.lst true [],.lst false [.lst true [vI 60,vI 0]]]]],208⟩ ?_
 refine reg_in (sz 1 1 ?_)
 refine sgL false [] [] true gE ?_
 refine sz 1 3 ?_
 refine callR (as0:=[.agg [vI 60,.ref 4 0 1],.ref 5 0 1,vI 0,.agg [vI 0,vI 0,vI 0,vI 1]]) (ids:=[4,5]) kr bodyB_23 (msnap_cons (snap_agg (msnap_cons rfl (msnap_cons (show snap _ _ _=some (_,[4]) from kr) msnap_nil (by rfl)) (by rfl))) (msnap_cons (show snap _ _ _=some (_,[5]) from kr) (msnap_cons rfl (msnap_cons (snap_agg (msnap_cons rfl (msnap_cons rfl (msnap_cons rfl (msnap_cons rfl msnap_nil (by rfl)) (by rfl)) (by rfl)) (by rfl))) msnap_nil (by rfl)) (by rfl)) (by rfl)) (by rfl)) (fun x9 q10=>g_sensitive_Stay_ok (Tapi_Net.mk 60 [(Tapi_Node.mk 2 [] [[60,0]])]) [-1] 0 (Tapi_Shift.mk 0 0 0 1) x9 q10) gF h (fun x9 q10 h=>?_)
 refine sz 9 13 (reg_end rfl (wp_seq (wg [1,2,4,5,6,9,10,11,12] [0,1,2,6,7,3,4] (reg_in (sz 1 1 ?_)))))
 refine sgL false [] [] true gE ?_
 refine sz 2 4 ?_
 refine callR (as0:=[.agg [vI 60,.ref 6 0 1],.ref 7 0 1,vI 0,vI 1,.agg [vI 0,vI 0,vI 0,vI 1],.agg [vI 1,vI 1000]]) (ids:=[6,7]) kr bodyB_21 (msnap_cons (snap_agg (msnap_cons rfl (msnap_cons (show snap _ _ _=some (_,[6]) from kr) msnap_nil (by rfl)) (by rfl))) (msnap_cons (show snap _ _ _=some (_,[7]) from kr) (msnap_cons rfl (msnap_cons rfl (msnap_cons (snap_agg (msnap_cons rfl (msnap_cons rfl (msnap_cons rfl (msnap_cons rfl msnap_nil (by rfl)) (by rfl)) (by rfl)) (by rfl))) (msnap_cons (snap_agg (msnap_cons rfl (msnap_cons rfl msnap_nil (by rfl)) (by rfl))) msnap_nil (by rfl)) (by rfl)) (by rfl)) (by rfl)) (by rfl)) (by rfl)) (fun x11 q12=>g_sensitive_Threshold_ok (Tapi_Net.mk 60 [(Tapi_Node.mk 2 [] [[60,0]])]) [-1] 0 1 (Tapi_Shift.mk 0 0 0 1) (Tapi_Q.mk 1 1000) x11 q12) gF h (fun x11 q12 h=>?_)
 refine sz 6 11 (reg_end rfl (wp_seq ?_))
 refine wgc [1,4,5,6,9,10,11,12,13,14] [0,2,3,4,8,5] ⟨[(1,.ptr 0 0 0),(4,vI x3.2),(5,.ptr 1 0 0),(6,vI x5.2),(9,vI x7.2.2),(10,.ptr 2 0 0),(11,.ptr 3 0 0),(12,vI x9.2.2),(13,.ptr 4 0 0),(14,vI x11.2)],(s9_14 x1 x5 x9 x11),208⟩ ?_
 refine reg_in (sz 2 2 ?_)
 refine callR (as0:=[.agg [vI 0,.nils],.nils,vI (-1),vI (-1),.agg [vI 0,vI 0,vI 0,vI 0]]) (us:=[.agg [vI 0,.nils],.nils,vI (-1),vI (-1),.agg [vI 0,vI 0,vI 0,vI 0]]) (ids:=[]) kr bodyB_12 (msnap_cons (snap_agg (msnap_cons rfl (msnap_cons rfl msnap_nil))) (msnap_cons rfl (msnap_cons rfl (msnap_cons rfl (msnap_cons (snap_agg (msnap_cons rfl (msnap_cons rfl (msnap_cons rfl (msnap_cons rfl msnap_nil))))) msnap_nil))))) (fun x13 q14=>CallOk.args [[.keep,.lst false],[.lst true],[.keep],[.keep],[.keep,.keep,.keep,.keep]] (g_sensitive_Line_ok (Tapi_Net.mk 0 []) [] (-1) (-1) (Tapi_Shift.mk 0 0 0 0) x13 q14)) gF h (fun x13 q14 h=>?_)
 refine sz 6 9 (reg_end rfl (wp_seq (wg [1,4,5,6,9,10,11,12,13,14,16] [0,1,2,3,4,5] (reg_in (sz 1 1 ?_)))))
 refine sgL false [] [] true gE ?_
 refine sz 2 4 ?_
 refine callR (as0:=[.agg [vI x1.Grain,.ref 5 0 x1.Nodes.length],.ref 6 0 1,vI 0,vI 0,.agg [vI 0,vI 0,vI 0,vI 1],.agg [vI 0,vI 0]]) (ids:=[5,6]) kr bodyB_16 (msnap_cons (snap_agg (msnap_cons rfl (msnap_cons (snap_full (w:=3) (bx:=false) (ro:=false) kr) msnap_nil (by rfl)) (by rfl))) (msnap_cons (show snap _ _ _=some (_,[6]) from kr) (msnap_cons rfl (msnap_cons rfl (msnap_cons (snap_agg (msnap_cons rfl (msnap_cons rfl (msnap_cons rfl (msnap_cons rfl msnap_nil (by rfl)) (by rfl)) (by rfl)) (by rfl))) (msnap_cons (snap_agg (msnap_cons rfl (msnap_cons rfl msnap_nil (by rfl)) (by rfl))) msnap_nil (by rfl)) (by rfl)) (by rfl)) (by rfl)) (by rfl)) (by rfl)) (fun x15 q16=>g_sensitive_At_ok x1 [0] 0 0 (Tapi_Shift.mk 0 0 0 1) (Tapi_Q.mk 0 0) x15 q16) gF h (fun x15 q16 h=>?_)
 refine sz 6 11 (reg_end rfl (wp_seq ?_))
 refine wgc [1,4,5,6,9,10,11,12,13,14,16,18] [0,1,2,3,4,5] ⟨[(1,.ptr 0 0 0),(4,vI x3.2),(5,.ptr 1 0 0),(6,vI x5.2),(9,vI x7.2.2),(10,.ptr 2 0 0),(11,.ptr 3 0 0),(12,vI x9.2.2),(13,.ptr 4 0 0),(14,vI x11.2),(16,vI x13.2),(18,vI x15.2)],(s9_14 x1 x5 x9 x11),208⟩ ?_
 refine reg_in (sz 1 1 ?_)
 refine sgL false [] [] true gE ?_
 refine sz 2 4 ?_
 refine callR (as0:=[.agg [vI x1.Grain,.ref 5 0 x1.Nodes.length],.ref 6 0 2,vI 0,vI 0,.agg [vI 0,vI 0,vI 0,vI 1],.agg [vI 3,vI 2]]) (ids:=[5,6]) kr bodyB_21 (msnap_cons (snap_agg (msnap_cons rfl (msnap_cons (snap_full (w:=3) (bx:=false) (ro:=false) kr) msnap_nil (by rfl)) (by rfl))) (msnap_cons (show snap _ _ _=some (_,[6]) from kr) (msnap_cons rfl (msnap_cons rfl (msnap_cons (snap_agg (msnap_cons rfl (msnap_cons rfl (msnap_cons rfl (msnap_cons rfl msnap_nil (by rfl)) (by rfl)) (by rfl)) (by rfl))) (msnap_cons (snap_agg (msnap_cons rfl (msnap_cons rfl msnap_nil (by rfl)) (by rfl))) msnap_nil (by rfl)) (by rfl)) (by rfl)) (by rfl)) (by rfl)) (by rfl)) (fun x17 q18=>g_sensitive_Threshold_ok x1 [-1,-1] 0 0 (Tapi_Shift.mk 0 0 0 1) (Tapi_Q.mk 3 2) x17 q18) gF h (fun x17 q18 h=>?_)
 refine sz 6 11 (reg_end rfl (wp_seq (wg [1,4,5,6,9,10,11,12,13,14,16,18,20] [0,1,2,3,4,5] (reg_in (sz 1 1 ?_)))))
 refine sgL false [] [] true gE ?_
 refine sz 2 4 ?_
 refine callR (as0:=[.agg [vI x1.Grain,.ref 5 0 x1.Nodes.length],.ref 6 0 2,vI 0,vI 0,.agg [vI 0,vI 0,vI 0,vI 1],.agg [vI 1,vI 1001]]) (ids:=[5,6]) kr bodyB_21 (msnap_cons (snap_agg (msnap_cons rfl (msnap_cons (snap_full (w:=3) (bx:=false) (ro:=false) kr) msnap_nil (by rfl)) (by rfl))) (msnap_cons (show snap _ _ _=some (_,[6]) from kr) (msnap_cons rfl (msnap_cons rfl (msnap_cons (snap_agg (msnap_cons rfl (msnap_cons rfl (msnap_cons rfl (msnap_cons rfl msnap_nil (by rfl)) (by rfl)) (by rfl)) (by rfl))) (msnap_cons (snap_agg (msnap_cons rfl (msnap_cons rfl msnap_nil (by rfl)) (by rfl))) msnap_nil (by rfl)) (by rfl)) (by rfl)) (by rfl)) (by rfl)) (by rfl)) (fun x19 q20=>g_sensitive_Threshold_ok x1 [-1,-1] 0 0 (Tapi_Shift.mk 0 0 0 1) (Tapi_Q.mk 1 1001) x19 q20) gF h (fun x19 q20 h=>?_)
 refine sz 6 11 (reg_end rfl (wp_seq ?_))
 refine wgc [1,4,5,6,9,10,11,12,13,14,16,18,20,22] [0,1,2,3,4,5] ⟨[(1,.ptr 0 0 0),(4,vI x3.2),(5,.ptr 1 0 0),(6,vI x5.2),(9,vI x7.2.2),(10,.ptr 2 0 0),(11,.ptr 3 0 0),(12,vI x9.2.2),(13,.ptr 4 0 0),(14,vI x11.2),(16,vI x13.2),(18,vI x15.2),(20,vI x17.2),(22,vI x19.2)],(s9_14 x1 x5 x9 x11),208⟩ ?_
 refine reg_in (sz 1 1 ?_)
 refine sgL false [] [] true gE ?_
 refine sz 1 3 ?_
 refine callR (as0:=[.agg [vI x1.Grain,.ref 5 0 x1.Nodes.length],.ref 6 0 2,vI 0,vI 2,.agg [vI 0,vI 0,vI 0,vI 1]]) (ids:=[5,6]) kr bodyB_12 (msnap_cons (snap_agg (msnap_cons rfl (msnap_cons (snap_full (w:=3) (bx:=false) (ro:=false) kr) msnap_nil (by rfl)) (by rfl))) (msnap_cons (show snap _ _ _=some (_,[6]) from kr) (msnap_cons rfl (msnap_cons rfl (msnap_cons (snap_agg (msnap_cons rfl (msnap_cons rfl (msnap_cons rfl (msnap_cons rfl msnap_nil (by rfl)) (by rfl)) (by rfl)) (by rfl))) msnap_nil (by rfl)) (by rfl)) (by rfl)) (by rfl)) (by rfl)) (fun x21 q22=>g_sensitive_Line_ok x1 [-1,-1] 0 2 (Tapi_Shift.mk 0 0 0 1) x21 q22) gF h (fun x21 q22 h=>?_)
 refine sz 6 10 (reg_end rfl (wp_seq (wg [1,4,5,6,9,10,11,12,13,14,16,18,20,22,24] [0,1,2,3,4,5] (reg_in (sz 1 1 ?_)))))
 refine sgL false [] [] true gE ?_
 refine sz 1 3 ?_
 refine callR (as0:=[.agg [vI x1.Grain,.ref 5 0 x1.Nodes.length],.ref 6 0 2,vI 0,vI 1,.agg [vI 0,vI 1,vI 0,vI 1]]) (ids:=[5,6]) kr bodyB_12 (msnap_cons (snap_agg (msnap_cons rfl (msnap_cons (snap_full (w:=3) (bx:=false) (ro:=false) kr) msnap_nil (by rfl)) (by rfl))) (msnap_cons (show snap _ _ _=some (_,[6]) from kr) (msnap_cons rfl (msnap_cons rfl (msnap_cons (snap_agg (msnap_cons rfl (msnap_cons rfl (msnap_cons rfl (msnap_cons rfl msnap_nil (by rfl)) (by rfl)) (by rfl)) (by rfl))) msnap_nil (by rfl)) (by rfl)) (by rfl)) (by rfl)) (by rfl)) (fun x23 q24=>g_sensitive_Line_ok x1 [-1,-1] 0 1 (Tapi_Shift.mk 0 1 0 1) x23 q24) gF h (fun x23 q24 h=>?_)
 refine sz 6 10 (reg_end rfl (wp_seq ?_))
 refine wgc [1,4,5,6,9,10,11,12,13,14,16,18,20,22,24,26] [0,1,2,3,4,5] ⟨[(1,.ptr 0 0 0),(4,vI x3.2),(5,.ptr 1 0 0),(6,vI x5.2),(9,vI x7.2.2),(10,.ptr 2 0 0),(11,.ptr 3 0 0),(12,vI x9.2.2),(13,.ptr 4 0 0),(14,vI x11.2),(16,vI x13.2),(18,vI x15.2),(20,vI x17.2),(22,vI x19.2),(24,vI x21.2),(26,vI x23.2)],(s9_14 x1 x5 x9 x11),208⟩ ?_
 refine reg_in (sz 1 1 ?_)
 refine sgL false [] [] true gE ?_
 refine sz 1 3 ?_
 refine callR (as0:=[.agg [vI x1.Grain,.ref 5 0 x1.Nodes.length],.ref 6 0 2,vI 0,vI 1,.agg [vI 1,vI 2,vI 0,vI 1]]) (ids:=[5,6]) kr bodyB_12 (msnap_cons (snap_agg (msnap_cons rfl (msnap_cons (snap_full (w:=3) (bx:=false) (ro:=false) kr) msnap_nil (by rfl)) (by rfl))) (msnap_cons (show snap _ _ _=some (_,[6]) from kr) (msnap_cons rfl (msnap_cons rfl (msnap_cons (snap_agg (msnap_cons rfl (msnap_cons rfl (msnap_cons rfl (msnap_cons rfl msnap_nil (by rfl)) (by rfl)) (by rfl)) (by rfl))) msnap_nil (by rfl)) (by rfl)) (by rfl)) (by rfl)) (by rfl)) (fun x25 q26=>g_sensitive_Line_ok x1 [-1,-1] 0 1 (Tapi_Shift.mk 1 2 0 1) x25 q26) gF h (fun x25 q26 h=>?_)
 refine sz 6 10 (reg_end rfl (wp_seq (wg [1,4,5,6,9,10,11,12,13,14,16,18,20,22,24,26,28] [0,1,2,3,4,5] (reg_in (sz 1 1 ?_)))))
 refine sgL false [] [] true gE ?_
 refine sz 1 3 ?_
 refine callR (as0:=[.agg [vI x1.Grain,.ref 5 0 x1.Nodes.length],.ref 6 0 2,vI 0,vI 1,.agg [vI 0,vI 0,vI 0,vI 2]]) (ids:=[5,6]) kr bodyB_12 (msnap_cons (snap_agg (msnap_cons rfl (msnap_cons (snap_full (w:=3) (bx:=false) (ro:=false) kr) msnap_nil (by rfl)) (by rfl))) (msnap_cons (show snap _ _ _=some (_,[6]) from kr) (msnap_cons rfl (msnap_cons rfl (msnap_cons (snap_agg (msnap_cons rfl (msnap_cons rfl (msnap_cons rfl (msnap_cons rfl msnap_nil (by rfl)) (by rfl)) (by rfl)) (by rfl))) msnap_nil (by rfl)) (by rfl)) (by rfl)) (by rfl)) (by rfl)) (fun x27 q28=>g_sensitive_Line_ok x1 [-1,-1] 0 1 (Tapi_Shift.mk 0 0 0 2) x27 q28) gF h (fun x27 q28 h=>?_)
 refine sz 6 10 (reg_end rfl (wp_seq (wp_seq ?_)))
 refine wgc [4,5,6,9,10,11,12,13,14,16,18,20,22,24,26,28,30] [1,2,3,4] ⟨[(4,vI x3.2),(5,.ptr 0 0 0),(6,vI x5.2),(9,vI x7.2.2),(10,.ptr 1 0 0),(11,.ptr 2 0 0),(12,vI x9.2.2),(13,.ptr 3 0 0),(14,vI x11.2),(16,vI x13.2),(18,vI x15.2),(20,vI x17.2),(22,vI x19.2),(24,vI x21.2),(26,vI x23.2),(28,vI x25.2),(30,vI x27.2)],(s9_25 x5 x9 x11),208⟩ ?_
 refine reg_in (sz 3 3 ?_)
 refine rb [136,137] h (fun q30 h=>?_) (fun q30 h=>?_)
 ·refine sgz 35 38 (S:=⟨[(4,vI x3.2),(5,.ptr 0 0 0),(6,vI x5.2),(9,vI x7.2.2),(10,.ptr 1 0 0),(11,.ptr 2 0 0),(12,vI x9.2.2),(13,.ptr 3 0 0),(14,vI x11.2),(16,vI x13.2),(18,vI x15.2),(20,vI x17.2),(22,vI x19.2),(24,vI x21.2),(26,vI x23.2),(28,vI x25.2),(30,vI x27.2)]++[(135,vI x3.2),(136,vB true),(137,vB true),(138,.tup []),(139,.tup []),(140,.tup []),(141,vB true),(142,vB true),(143,.tup []),(144,.tup []),(145,vB true),(146,vB true),(147,.tup []),(148,.tup []),(149,vB true),(150,vB true),(151,.tup []),(152,.tup []),(153,vB true),(154,vB true),(155,.tup []),(156,.tup []),(157,.tup []),(158,vB true),(159,vB true),(160,.tup []),(161,.tup []),(162,.tup []),(163,vB true),(164,vB true),(165,.tup []),(166,.tup []),(167,vB true),(168,vB true),(169,.tup []),(170,.tup []),(171,.tup []),(172,vB true)],(s9_25 x5 x9 x11),208⟩) ?_
  refine reg_end rfl (wcT (wp_seq (wg [] [] (rn (wg [0] [] ?_)))))
  cases h
  exact wp_ret (show fnOut _ _ _ _=_ from by kernel_rfl)
 refine sz 5 8 (rwg [6,9,10,11,12,13,14,16,18,20,22,24,26,28,30,142] [1,2,3] ?_)
 refine rb [142] h (fun q32 h=>?_) (fun q32 h=>?_)
 ·refine sgz 30 38 (S:=⟨[(6,vI x5.2),(9,vI x7.2.2),(10,.ptr 0 0 0),(11,.ptr 1 0 0),(12,vI x9.2.2),(13,.ptr 2 0 0),(14,vI x11.2),(16,vI x13.2),(18,vI x15.2),(20,vI x17.2),(22,vI x19.2),(24,vI x21.2),(26,vI x23.2),(28,vI x25.2),(30,vI x27.2),(142,vB true),(143,.tup []),(144,.tup []),(145,vB true),(146,vB true),(147,.tup []),(148,.tup []),(149,vB true),(150,vB true),(151,.tup []),(152,.tup []),(153,vB true),(154,vB true),(155,.tup []),(156,.tup []),(157,.tup []),(158,vB true),(159,vB true),(160,.tup []),(161,.tup []),(162,.tup []),(163,vB true),(164,vB true),(165,.tup []),(166,.tup []),(167,vB true),(168,vB true),(169,.tup []),(170,.tup []),(171,.tup []),(172,vB true)],(s9_29 x9 x11),208⟩) ?_
  refine reg_end rfl (wcT (wp_seq (wg [] [] (rn (wg [0] [] ?_)))))
  cases h
  exact wp_ret (show fnOut _ _ _ _=_ from by kernel_rfl)
 refine sz 4 12 (rwg [9,10,11,12,13,14,16,18,20,22,24,26,28,30,146] [0,1,2] ?_)
 refine rb [146] h (fun q34 h=>?_) (fun q34 h=>?_)
 ·refine sgz 26 38 (S:=⟨[(9,vI x7.2.2),(10,.ptr 0 0 0),(11,.ptr 1 0 0),(12,vI x9.2.2),(13,.ptr 2 0 0),(14,vI x11.2),(16,vI x13.2),(18,vI x15.2),(20,vI x17.2),(22,vI x19.2),(24,vI x21.2),(26,vI x23.2),(28,vI x25.2),(30,vI x27.2),(146,vB true),(147,.tup []),(148,.tup []),(149,vB true),(150,vB true),(151,.tup []),(152,.tup []),(153,vB true),(154,vB true),(155,.tup []),(156,.tup []),(157,.tup []),(158,vB true),(159,vB true),(160,.tup []),(161,.tup []),(162,.tup []),(163,vB true),(164,vB true),(165,.tup []),(166,.tup []),(167,vB true),(168,vB true),(169,.tup []),(170,.tup []),(171,.tup []),(172,vB true)],(s9_29 x9 x11),208⟩) ?_
  refine reg_end rfl (wcT (wp_seq (wg [] [] (rn (wg [0] [] ?_)))))
  cases h
  exact wp_ret (show fnOut _ _ _ _=_ from by kernel_rfl)
 refine sz 4 16 ?_
 refine rw_wk (wk_gc (live:=[10,11,12,13,14,16,18,20,22,24,26,28,30,150]) (keep:=[0,1,2]) (st':=⟨[(10,.ptr 0 0 0),(11,.ptr 1 0 0),(12,vI x9.2.2),(13,.ptr 2 0 0),(14,vI x11.2),(16,vI x13.2),(18,vI x15.2),(20,vI x17.2),(22,vI x19.2),(24,vI x21.2),(26,vI x23.2),(28,vI x25.2),(30,vI x27.2),(150,vB (x7.2.2 != 7))],(s9_29 x9 x11),208⟩) kr) ?_
 refine rb [150] h (fun q36 h=>?_) (fun q36 h=>?_)
 ·refine sz 22 38 (reg_end rfl (wcT (wp_seq ?_)))
  refine wgc [] [] ⟨[],[],208⟩ ?_
  refine rn (wg [0] [] ?_)
  cases h
  exact wp_ret (show fnOut _ _ _ _=_ from by kernel_rfl)
 refine sz 4 20 (rwg [10,11,13,14,16,18,20,22,24,26,28,30,154] [0,1,2] ?_)
 refine rb [154] h (fun q38 h=>?_) (fun q38 h=>?_)
 ·refine sz 18 38 (reg_end rfl (wcT (wp_seq ?_)))
  refine wgc [] [] ⟨[],[],208⟩ ?_
  refine rn (wg [0] [] ?_)
  cases h
  exact wp_ret (show fnOut _ _ _ _=_ from by kernel_rfl)
 refine sz 5 25 (rwg [11,13,14,16,18,20,22,24,26,28,30,159] [1,2] ?_)
 refine rb [159] h (fun q40 h=>?_) (fun q40 h=>?_)
 ·refine sz 13 38 (reg_end rfl (wcT (wp_seq ?_)))
  refine wgc [] [] ⟨[],[],208⟩ ?_
  refine rn (wg [0] [] ?_)
  cases h
  exact wp_ret (show fnOut _ _ _ _=_ from by kernel_rfl)
 refine sz 5 30 ?_
 refine rw_wk (wk_gc (live:=[13,14,16,18,20,22,24,26,28,30,164]) (keep:=[1]) (st':=⟨[(13,.ptr 0 0 0),(14,vI x11.2),(16,vI x13.2),(18,vI x15.2),(20,vI x17.2),(22,vI x19.2),(24,vI x21.2),(26,vI x23.2),(28,vI x25.2),(30,vI x27.2),(164,vB (!((x9.2.1.N==30) && ((x9.2.1.D==1) && true))))],[oX true true 2 (.agg [vI x11.1.N,vI x11.1.D])],208⟩) kr) ?_
 refine rb [164] h (fun q42 h=>?_) (fun q42 h=>?_)
 ·refine sz 8 38 (reg_end rfl (wcT (wp_seq (wg [] [] (rn (wg [0] [] ?_))))))
  cases h
  exact wp_ret (show fnOut _ _ _ _=_ from by kernel_rfl)
 refine sz 4 34 (rwg [13,16,18,20,22,24,26,28,30,168] [0] ?_)
 refine rb [168] h (fun q44 h=>?_) (fun q44 h=>?_)
 ·refine sz 4 38 (reg_end rfl (wcT (wp_seq (wg [] [] (rn ?_)))))
  refine wgc [0] [] ⟨[(0,vB false)],[],208⟩ ?_
  cases h
  exact wp_ret (show fnOut _ _ _ _=_ from by kernel_rfl)
 refine sz 4 38 (reg_end rfl ?_)
 refine wbz h (fun q46 h=>?_) (fun q46 h=>?_)
 ·refine wp_seq (wg [] [] (rn ?_))
  refine wgc [0] [] ⟨[(0,vB false)],[],208⟩ ?_
  cases h
  exact wp_ret (show fnOut _ _ _ _=_ from by kernel_rfl)
 refine wp_skip (wp_seq (wg [16,18,20,22,24,26,28,30] [] (reg_in (sz 1 1 ?_))))
 refine callW bodyB_20 (g_law24_works_ok ) h (fun x47 _ h=>?_)
 refine sz 2 4 ?_
 refine rb [174,175,176] h (fun q50 h=>?_) (fun q50 h=>?_)
 ·refine sz 4 8 ?_
  refine rw_wk (wk_gc (live:=[18,20,22,24,26,28,30,180]) (keep:=[]) (st':=⟨[(18,vI x15.2),(20,vI x17.2),(22,vI x19.2),(24,vI x21.2),(26,vI x23.2),(28,vI x25.2),(30,vI x27.2),(180,vB (x13.2==50))],[],208⟩) kr) ?_
  refine rb [180] h (fun q52 h=>?_) (fun q52 h=>?_)
  ·refine sz 4 12 (rwg [20,22,24,26,28,30,184] [] ?_)
   refine rb [184] h (fun q54 h=>?_) (fun q54 h=>?_)
   ·refine sz 4 16 (rwg [22,24,26,28,30,188] [] ?_)
    refine rb [188] h (fun q56 h=>?_) (fun q56 h=>?_)
    ·refine sz 4 20 (rwg [24,26,28,30,192] [] ?_)
     refine rb [192] h (fun q58 h=>?_) (fun q58 h=>?_)
     ·refine sz 4 24 ?_
      refine rw_wk (wk_gc (live:=[26,28,30,196]) (keep:=[]) (st':=⟨[(26,vI x23.2),(28,vI x25.2),(30,vI x27.2),(196,vB (x21.2==2))],[],208⟩) kr) ?_
      refine rb [196] h (fun q60 h=>?_) (fun q60 h=>?_)
      ·refine sz 4 28 (rwg [28,30,200] [] ?_)
       refine rb [200] h (fun q62 h=>?_) (fun q62 h=>?_)
       ·refine sz 4 32 (rwg [30,204] [] ?_)
        refine rb [204] h (fun q64 h=>?_) (fun q64 h=>?_)
        ·refine sz 4 36 (reg_end rfl (wg [0] [] ?_))
         cases h
         exact wp_ret (show fnOut _ _ _ _=_ from by kernel_rfl)
        refine sz 4 36 (reg_end rfl (wg [0] [] ?_))
        cases h
        exact wp_ret (show fnOut _ _ _ _=_ from by kernel_rfl)
       refine sz 8 36 (reg_end rfl (wg [0] [] ?_))
       cases h
       exact wp_ret (show fnOut _ _ _ _=_ from by kernel_rfl)
      refine sz 12 36 (reg_end rfl (wg [0] [] ?_))
      cases h
      exact wp_ret (show fnOut _ _ _ _=_ from by kernel_rfl)
     refine sz 16 36 (reg_end rfl ?_)
     refine wgc [0] [] ⟨[(0,vB false)],[],208⟩ ?_
     cases h
     exact wp_ret (show fnOut _ _ _ _=_ from by kernel_rfl)
    refine sz 20 36 (reg_end rfl ?_)
    refine wgc [0] [] ⟨[(0,vB false)],[],208⟩ ?_
    cases h
    exact wp_ret (show fnOut _ _ _ _=_ from by kernel_rfl)
   refine sz 24 36 (reg_end rfl ?_)
   refine wgc [0] [] ⟨[(0,vB false)],[],208⟩ ?_
   cases h
   exact wp_ret (show fnOut _ _ _ _=_ from by kernel_rfl)
  refine sz 28 36 (reg_end rfl ?_)
  refine wgc [0] [] ⟨[(0,vB false)],[],208⟩ ?_
  cases h
  exact wp_ret (show fnOut _ _ _ _=_ from by kernel_rfl)
 refine sgz 32 36 (S:=⟨[(16,vI x13.2),(18,vI x15.2),(20,vI x17.2),(22,vI x19.2),(24,vI x21.2),(26,vI x23.2),(28,vI x25.2),(30,vI x27.2)]++[(173,vB true),(174,vB false),(175,vB false),(176,vB false),(177,.tup []),(178,.tup []),(179,vB false),(180,vB false),(181,.tup []),(182,.tup []),(183,vB false),(184,vB false),(185,.tup []),(186,.tup []),(187,vB false),(188,vB false),(189,.tup []),(190,.tup []),(191,vB false),(192,vB false),(193,.tup []),(194,.tup []),(195,vB false),(196,vB false),(197,.tup []),(198,.tup []),(199,vB false),(200,vB false),(201,.tup []),(202,.tup []),(203,vB false),(204,vB false),(205,.tup []),(206,.tup []),(207,vB false),(0,vB false)],[],208⟩) ?_
 refine reg_end rfl (wg [0] [] ?_)
 cases h
 exact wp_ret (show fnOut _ _ _ _=_ from by kernel_rfl)
end Go.Ab
namespace Go.Ab
open Go
set_option maxRecDepth 100000
theorem known24:g_law24_SensitiveKnown=some true:=by kernel_rfl
end Go.Ab
