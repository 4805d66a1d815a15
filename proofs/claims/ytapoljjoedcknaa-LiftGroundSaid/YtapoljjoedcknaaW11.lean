/- Functions. No conditions. -/
import Derived.Test.YtapoljjoedcknaaProg
import Derived.Tactics
import Derived.Tactics2
import Derived.Defers
import Derived.Recover
import Derived.Laws.Pointers
import Derived.Test.YtapoljjoedcknaaEng7
set_option linter.all false
namespace Go.Ab
open Go Go.Proofs
set_option maxRecDepth 100000
set_option maxHeartbeats 1000000
theorem Qx5 (p q:Addr) (w:World):CallsD Try.prog 91 #[.pointer (some p),.pointer (some q)] .returning w fun e u' w'=>e=.returned (.tuple #[])∧u'=.returning∧w'=w:=by
 refine callsD_of_wpS Try.func91 rfl fun c₀ cs hu=>?_
 apply wpS_seq
 apply wpS_region
 simp [wpOpsS,go_sem,recoverD,hu,Try.ntmps91,Exit.thenS]
 refine wpS_cond (t:=false) (by simp [Act.eval,Act.put,Array.replicate]) ?_
 simp only [Bool.false_eq_true,if_false]
 refine wpS_of_wp (_root_.Go.wp_skip ?_)
 cases c₀
 simp_all [bodyPostS,results,Try.results91,Act.put]
theorem Qw7:Qul Try.prog 80 50 37:=by
 intro g gfn caps w x y R hf hb hn h
 have hmf:∀(fn:Fn) (first cap:Array Value) (w:World),(Instr.makeFunc fn first cap).run Try.prog w=.ok (.func fn first cap) w:=fun _ _ _ _=>rfl
 go_enter_defers Try.func80,Try.ntmps80
 go_wp2
 rw [Jo hf hb hn,Oper.upon_enter]
 refine h.mono ?_
 rintro e w' ⟨rfl,c1,c2,c3,f1,f2,f3,hR⟩
 go_wp2
 refine leaves_cons (f:=91) (args:=#[.pointer (some ⟨w.heap.size,0,none⟩),.pointer (some ⟨w.heap.size+1,0,none⟩)]) (by simp) (by simp [go_sem]) ?_
 refine (Qx5 _ _ _).mono ?_
 rintro e u' w'' ⟨rfl,rfl,rfl⟩
 have d1:=World.cell?_setCell_same w' ⟨w.heap.size,0,none⟩ (.int .i64 x) c1
 simp [Leaves,_root_.Go.settle,results,Try.results80,go_sem,d1,c1,c2,c3]
 exact hR
end Go.Ab
