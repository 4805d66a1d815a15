/- Functions. No conditions. -/
import Derived.Test.YtgogkahhifkocaaDoorProg
import Derived.Tactics
import Derived.Tactics2
import Derived.Defers
import Derived.Recover
import Derived.Laws.Pointers
import Derived.Test.YtgogkahhifkocaaDoorEng7
set_option maxRecDepth 100000
set_option maxHeartbeats 1000000
set_option linter.all false
namespace Go.Ab
open Go Go.Proofs
theorem Qz8 (p q:Addr) (w:World):CallsD Tryd.prog 135 #[.pointer (some p),.pointer (some q)] .returning w fun e u' w'=>e=.returned (.tuple #[])/\u'=.returning/\w'=w:=by
 refine callsD_of_wpS Tryd.func135 rfl fun c₀ cs hu=>?_
 apply wpS_seq
 apply wpS_region
 simp [wpOpsS,go_sem,recoverD,hu,Tryd.ntmps135,Exit.thenS]
 refine wpS_cond (t:=false) (by simp [Act.eval,Act.put,Array.replicate]) ?_
 simp only [aT,eJ]
 refine wpS_of_wp (_root_.Go.wp_skip ?_)
 cases c₀
 simp_all [bodyPostS,results,Tryd.results135,Act.put]
theorem Q1q:Q0f Tryd.prog 96 41 36:=by
 intro g gfn caps w x y R hf hb hn h
 have hmf:∀(fn:Fn) (first cap:Array Value) (w:World),(Instr.makeFunc fn first cap).run Tryd.prog w=.ok (.func fn first cap) w:=fun _ _ _ _=>rfl
 go_enter_defers Tryd.func96,Tryd.ntmps96
 go_wp2
 rw [Ji hf hb hn,Oper.upon_enter]
 refine h.mono ?_
 rintro e w' ⟨rfl,c1,c2,c3,f1,f2,f3,hR⟩
 go_wp2
 refine leaves_cons (f:=135) (args:=#[.pointer (some ⟨w.heap.size,0,none⟩),.pointer (some ⟨w.heap.size+1,0,none⟩)]) (by simp) (by simp [go_sem]) ?_
 refine (Qz8 _ _ _).mono ?_
 rintro e u' w'' ⟨rfl,rfl,rfl⟩
 have d1:=World.cell?_setCell_same w' ⟨w.heap.size,0,none⟩ (.int .i64 x) c1
 simp [Leaves,_root_.Go.settle,results,Tryd.results96,go_sem,d1,c1,c2,c3]
 exact hR
end Go.Ab
