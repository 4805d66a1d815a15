/- Functions. No conditions. -/
import Derived.Test.YtiadakgfblkelaaProg
import Derived.Tactics
import Derived.Tactics2
import Derived.Defers
import Derived.Recover
import Derived.Laws.Pointers
import Derived.Test.YtiadakgfblkelaaEng8
set_option linter.all false
namespace Go.Ab
open Go Go.Proofs
set_option maxRecDepth 100000
set_option maxHeartbeats 1000000
theorem Qx6 (p q:Addr) (w:World):CallsD Try.prog 120 #[.pointer (some p),.pointer (some q)] .returning w fun e u' w'=>e=.returned (.tuple #[])∧u'=.returning∧w'=w:=by
 refine callsD_of_wpS Try.func120 rfl fun c₀ cs hu=>?_
 apply wpS_seq
 apply wpS_region
 simp [wpOpsS,go_sem,recoverD,hu,Try.ntmps120,Exit.thenS]
 refine wpS_cond (t:=false) (by simp [Act.eval,Act.put,Array.replicate]) ?_
 simp only [Bool.false_eq_true,if_false]
 refine wpS_of_wp (_root_.Go.wp_skip ?_)
 cases c₀
 simp_all [bodyPostS,results,Try.results120,Act.put]
theorem Qy7:Qyl Try.prog 103 53 34:=by
 intro g gfn caps w x y R hf hb hn h
 have hmf:∀(fn:Fn) (first cap:Array Value) (w:World),(Instr.makeFunc fn first cap).run Try.prog w=.ok (.func fn first cap) w:=fun _ _ _ _=>rfl
 go_enter_defers Try.func103,Try.ntmps103
 go_wp2
 rw [Ji hf hb hn,Oper.upon_enter]
 refine h.mono ?_
 rintro e w' ⟨rfl,c1,c2,c3,f1,f2,f3,hR⟩
 go_wp2
 refine leaves_cons (f:=120) (args:=#[.pointer (some ⟨w.heap.size,0,none⟩),.pointer (some ⟨w.heap.size+1,0,none⟩)]) (by simp) (by simp [go_sem]) ?_
 refine (Qx6 _ _ _).mono ?_
 rintro e u' w'' ⟨rfl,rfl,rfl⟩
 have d1:=World.cell?_setCell_same w' ⟨w.heap.size,0,none⟩ (.int .i64 x) c1
 simp [Leaves,_root_.Go.settle,results,Try.results103,go_sem,d1,c1,c2,c3]
 exact hR
end Go.Ab
