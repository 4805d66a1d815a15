/- What functions compute. No conditions. -/
import Derived.Test.YtiadakgfblkelaaW15
import Derived.Test.YtiadakgfblkelaaEng8
import Derived.Test.YtiadakgfblkelaaW9
set_option linter.all false
namespace Go.Ab
open Go
set_option maxRecDepth 100000
def wB (h:Tapi_Hidden) (seen:List Int) (t s:Nat):List Nat → Nat
 | []=>1
 | x::q=>wB h seen t s q*nat2 h.Step (q.headD s) x*shN h (seen.getD (t+1+q.length) 0) x
theorem lsum_append (f:List Nat → Nat):∀(A B:List (List Nat)),lsum f (A++B)=lsum f A+lsum f B
 | [],B=>by simp [lsum]
 | q::A,B=>by simp only [List.cons_append,lsum,lsum_append f A B]; omega
theorem lsum_ext (f:List Nat → Nat) (q:List Nat) (n:Nat):lsum f ((List.range n).map fun x=>x::q)=sumTo n fun x=>f (x::q):=by
 induction n with
 | zero=>rfl
 | succ n ih =>
  rw [List.range_succ,List.map_append,lsum_append,ih]
  simp [lsum,sumTo]
theorem lsum_flat (f:List Nat → Nat) (n:Nat):∀(L:List (List Nat)),lsum f (L.flatMap fun q=>(List.range n).map fun x=>x::q)=lsum (fun q=>sumTo n fun x=>f (x::q)) L
 | []=>rfl
 | q::L=>by rw [List.flatMap_cons,lsum_append,lsum_ext,lsum_flat f n L]; simp only [lsum]; omega
theorem lsum_take (f:List Nat → Nat) (L:List (List Nat)) (i:Nat):lsum f (L.take i)≤lsum f L:=by
 have:=lsum_append f (L.take i) (L.drop i)
 rw [List.take_append_drop] at this; omega
theorem wB_sum (h:Tapi_Hidden) (n:Nat) (seen:List Int) {T t s:Nat} (hs:s < n):∀(d:Nat),t+d < T →
  lsum (fun q=>wB h seen t s q*bw h n seen T (t+d) (q.headD s)) (pathR n d)=bw h n seen T t s
 | 0,_=>by simp [pathR,lsum,wB]
 | d+1,hd=>by
  rw [←wB_sum h n seen hs d (by omega),pathR,lsum_flat]
  refine lsum_congr fun q hq=>?_
  obtain ⟨h1,h2⟩:=pathR_mem hq
  rw [bw_step h n seen (by omega:t+d+1 < T),←sumTo_mul]
  refine sumTo_congr fun x hx=>?_
  simp only [wB,List.headD_cons,h1]
  rw [show t+1+d=t+d+1 by omega,show t+(d+1)=t+d+1 by omega]
  simp only [Nat.mul_assoc]
theorem wB_total (h:Tapi_Hidden) (n:Nat) (seen:List Int) {T t s:Nat} (hs:s < n) (ht:t < T):lsum (wB h seen t s) (pathR n (T - 1 - t))=bw h n seen T t s:=by
 rw [←wB_sum h n seen hs (T - 1 - t) (by omega)]
 refine lsum_congr fun q _=>?_
 rw [show t+(T - 1 - t)=T - 1 by omega,bw_last,Nat.mul_one]
section
variable {h:Tapi_Hidden} {g n k:Nat} (v:VH h g n k) {seen:List Int} {T:Nat} (w:VS k seen T) (hT:1≤T∧T≤8)
include v
theorem VH.wB_le (seen:List Int) (t s:Nat) (hs:s < n):∀(q:List Nat),(∀x∈q,x < n)→wB h seen t s q≤g^(2*q.length)
 | [],_=>by simp [wB]
 | x::q,hq=>by
  simp only [wB]
  have h0:=VH.wB_le seen t s hs q (fun y hy=>hq y (List.mem_cons_of_mem _ hy))
  have hh:q.headD s < n:=by
   cases q with
   | nil=>exact hs
   | cons y q=>exact hq y (by simp)
  have h1:=v.step_le hh (hq x (by simp))
  have h2:=v.sh_le (seen.getD (t+1+q.length) 0) (hq x (by simp))
  calc _≤g^(2*q.length)*g*g:=Nat.mul_le_mul (Nat.mul_le_mul h0 h1) h2
    _=g^(2*(x::q).length):=by simp only [List.length_cons]; rw [show 2*(q.length+1)=2*q.length+1+1 by omega,Nat.pow_succ,Nat.pow_succ]
include w hT
theorem VH.bpath {t s:Nat} (ht:t < T) (hs:s < n) {L:List (List Nat)} {i:Nat} (hi:i < L.length) {q:List Nat} (hq:L[i]=q) (hqn:∀x∈q,x < n) (hql:q.length=T - 1 - t) (s40 s6:List (List Int)) :
  whileN fuel (g_ref17_Backward_b2 (L.map pI) ((i:Int),s40) h seen ((t:Int),s6)) (1,(s:Int),0)=some ((wB h seen t s q:Nat):Int):=by
 have hlen:=w.len
 have key:∀j (hj:j < q.length),q.drop (q.length - (j+1))=q[q.length - 1 - j]'(by omega)::q.drop (q.length - j):=fun j hj=>by
  rw [List.drop_eq_getElem_cons (by omega:q.length - (j+1) < q.length)]
  congr 1
  ·congr 1; omega
  ·congr 1; omega
 have bnd:∀j,j≤q.length→wB h seen t s (q.drop (q.length - j))≤184884258895036416:=fun j hj=>by
  refine Nat.le_trans (v.wB_le seen t s hs _ (fun s hs=>hqn s (List.mem_of_mem_drop hs))) (pow12' v.g12 ?_)
  rw [List.length_drop]; omega
 refine whileN_run (fun j=>(((wB h seen t s (q.drop (q.length - j)):Nat):Int),(((q.drop (q.length - j)).headD s:Nat):Int),(j:Int))) q.length _ (by simp [wB]) ?_ ?_ (by omega)
 ·intro j hj
  have hk:=key j hj
  have hb:=bnd (j+1) hj
  have hb0:=bnd j (by omega)
  have hx:q[q.length - 1 - j]'(by omega) < n:=hqn _ (List.getElem_mem _)
  have hh:(q.drop (q.length - j)).headD s < n:=by
   cases e:q.drop (q.length - j) with
   | nil=>exact hs
   | cons y r=>exact hqn y (List.mem_of_mem_drop (by rw [e]; simp))
  have hju:t+1+j < seen.length:=by omega
  have hsx:-1≤seen.getD (t+1+j) 0∧seen.getD (t+1+j) 0 < (k:Int):=by
   have:=w.all _ (List.getElem_mem hju)
   simpa [List.getD_eq_getElem?_getD,List.getElem?_eq_getElem hju] using this
  have hgu:seen[t+1+j]=seen.getD (t+1+j) 0:=by simp [List.getD_eq_getElem?_getD,List.getElem?_eq_getElem hju]
  unfold g_ref17_Backward_b2
  rw [lkI_nat (by simpa using hi)]
  simp only [Option.bind_some,List.getElem_map,hq,pI_len]
  rw [if_pos (by rw [decide_eq_true_eq]; omega)]
  obtain ⟨l,h1,h2⟩:=v.step_get hh hx
  rw [h1]
  simp only [Option.bind_some]
  rw [pI_get hj]
  simp only [Option.bind_some]
  rw [h2]
  simp only [Option.bind_some]
  rw [show IntKind.i64.wrap (IntKind.i64.wrap ((t:Int)+1)+(j:Int))=((t+1+j:Nat):Int) by rw [w64 (n:=(t:Int)+1) (by omega),w64 (by omega)]; omega,lkI_nat hju]
  simp only [Option.bind_some]
  rw [hgu,v.shows_eq hsx hx]
  simp only [Option.bind_some]
  have hl2:(q.drop (q.length - j)).length=j:=by rw [List.length_drop]; omega
  rw [hk] at hb ⊢
  simp only [wB,hl2] at hb ⊢
  have hb2:=Nat.mul_le_mul hb0 (Nat.le_trans (v.step_le hh hx) v.g12)
  generalize wB h seen t s (q.drop (q.length - j))=A at *
  generalize nat2 h.Step ((q.drop (q.length - j)).headD s) (q[q.length - 1 - j]'(by omega))=B at *
  generalize shN h (seen.getD (t+1+j) 0) (q[q.length - 1 - j]'(by omega))=C at *
  rw [←Int.natCast_mul,w64 (n:=((A*B:Nat):Int)) (by omega),←Int.natCast_mul,w64 (n:=((A*B*C:Nat):Int)) (by omega),w64 (by omega)]
  rfl
 ·unfold g_ref17_Backward_b2
  rw [lkI_nat (by simpa using hi)]
  simp only [Option.bind_some,List.getElem_map,hq,pI_len]
  rw [if_neg (by simp)]
  simp
theorem VH.rbpaths {t s:Nat} (ht:t < T) (hs:s < n) (f:Nat → Nat) (f0:f s=0) (hsh:n^(T - 1 - t)≤1024) (s9 s6:List (List Int)) :
  whileN fuel (g_ref17_Backward_b3 ((pathR n (T - 1 - t)).map pI) h seen ((t:Int),s6) ((s:Int),s9)) (0,midB T n (bw h n seen T) t f) =
   some (midB T n (bw h n seen T) t fun s'=>if s'=s then bw h n seen T t s else f s'):=by
 have hlen:=w.len
 have hpl:=pathR_len n (T - 1 - t)
 have htot:=wB_total h n seen hs ht
 refine whileN_run (fun i=>((i:Int),midB T n (bw h n seen T) t fun s'=>if s'=s then lsum (wB h seen t s) ((pathR n (T - 1 - t)).take i) else f s')) (pathR n (T - 1 - t)).length _ ?_ ?_ ?_ (by omega)
 ·refine Prod.ext rfl ?_
  unfold midB
  refine tabI_congr fun t' _ s' _=>?_
  by_cases e:s'=s
  ·subst e; simp [lsum,f0]
  ·simp [e]
 ·intro i hi
  obtain ⟨hq1,hq2⟩:=pathR_mem (List.getElem_mem hi)
  unfold g_ref17_Backward_b3
  simp only [List.length_map]
  rw [if_pos (by rw [decide_eq_true_eq]; omega),v.bpath w hT ht hs hi rfl hq2 hq1]
  simp only [Option.bind_some]
  rw [midB_row ht]
  simp only [Option.bind_some]
  rw [rowI_get hs]
  simp only [Option.bind_some,if_true]
  have hacc:lsum (wB h seen t s) ((pathR n (T - 1 - t)).take (i+1))=lsum (wB h seen t s) ((pathR n (T - 1 - t)).take i)+wB h seen t s ((pathR n (T - 1 - t))[i]):=by
   rw [List.take_succ_eq_append_getElem hi,lsum_append]; simp [lsum]
  have hb:lsum (wB h seen t s) ((pathR n (T - 1 - t)).take (i+1))≤184884258895036416:=by
   refine Nat.le_trans (lsum_take _ _ _) ?_
   rw [htot]; exact v.bw_le w hT ht hs
  rw [hacc] at hb
  rw [←Int.natCast_add,w64 (n:=((lsum (wB h seen t s) ((pathR n (T - 1 - t)).take i)+wB h seen t s ((pathR n (T - 1 - t))[i]):Nat):Int)) (by omega),nat_i,nat_i,midB_set,w64 (by omega)]
  congr 2
  refine Prod.ext (by simp) ?_
  dsimp only
  congr 1
  funext s'
  by_cases e:s'=s
  ·rw [if_pos e,if_pos e,hacc]
  ·rw [if_neg e,if_neg e,if_neg e]
 ·unfold g_ref17_Backward_b3
  simp only [List.length_map]
  rw [if_neg (by simp),List.take_length,htot]
theorem VH.rbsum {t s:Nat} (ht:t+1 < T) (hs:s < n) (f:Nat → Nat) (f0:f s=0) (s9 s6:List (List Int)) :
  whileN fuel (g_ref17_Backward_b1 h ((t:Int),s6) ((s:Int),s9) seen) (0,midB T n (bw h n seen T) t f) =
   some (midB T n (bw h n seen T) t fun s'=>if s'=s then bw h n seen T t s else f s'):=by
 have hn4:=v.n4
 have hlen:=w.len
 have htot:=bw_step h n seen ht s
 have hge:lkI seen ((t+1:Nat):Int)=some (seen.getD (t+1) 0):=by
  rw [lkI_nat (show t+1 < seen.length by omega)]
  simp [List.getD_eq_getElem?_getD,List.getElem?_eq_getElem (show t+1 < seen.length by omega)]
 have hx:-1≤seen.getD (t+1) 0∧seen.getD (t+1) 0 < (k:Int):=by
  have:=w.all _ (List.getElem_mem (show t+1 < seen.length by omega))
  simpa [List.getD_eq_getElem?_getD,List.getElem?_eq_getElem (show t+1 < seen.length by omega)] using this
 have lim:∀j,j≤n→sumTo j (fun r=>nat2 h.Step s r*shN h (seen.getD (t+1) 0) r*bw h n seen T (t+1) r)≤184884258895036416:=fun j hj=>by
  refine Nat.le_trans (sumTo_mono hj) ?_
  rw [←htot]; exact v.bw_le w hT (by omega) hs
 refine whileN_run (fun j=>((j:Int),midB T n (bw h n seen T) t fun s'=>if s'=s then sumTo j (fun r=>nat2 h.Step s r*shN h (seen.getD (t+1) 0) r*bw h n seen T (t+1) r) else f s')) n _ ?_ ?_ ?_ (by omega)
 ·refine Prod.ext rfl ?_
  unfold midB
  refine tabI_congr fun t' _ s' _=>?_
  by_cases e:s'=s
  ·subst e; simp [sumTo,f0]
  ·simp [e]
 ·intro j hj
  unfold g_ref17_Backward_b1
  simp only [v.firstL]
  rw [if_pos (by rw [decide_eq_true_eq]; omega),midB_row (by omega)]
  simp only [Option.bind_some]
  rw [rowI_get hs]
  simp only [Option.bind_some,if_true]
  obtain ⟨l,h1,h2⟩:=v.step_get hs hj
  rw [h1]
  simp only [Option.bind_some]
  rw [h2]
  simp only [Option.bind_some]
  rw [show IntKind.i64.wrap ((t:Int)+1)=((t+1:Nat):Int) by rw [w64 (by omega)]; omega,hge]
  simp only [Option.bind_some]
  rw [v.shows_eq hx hj]
  simp only [Option.bind_some]
  rw [midB_next ht]
  simp only [Option.bind_some]
  rw [rowI_get hj]
  simp only [Option.bind_some]
  have l1:=lim (j+1) hj
  have l2:=Nat.mul_le_mul (Nat.le_trans (v.step_le hs hj) v.g12) (Nat.le_trans (v.sh_le (seen.getD (t+1) 0) hj) v.g12)
  simp only [sumTo] at l1
  generalize hA:bw h n seen T (t+1) j=A at *
  generalize hB:nat2 h.Step s j=B at *
  generalize hC:shN h (seen.getD (t+1) 0) j=C at *
  rw [←Int.natCast_mul,w64 (n:=((B*C:Nat):Int)) (by omega),←Int.natCast_mul,w64 (n:=((B*C*A:Nat):Int)) (by omega),←Int.natCast_add,w64 (n:=(((sumTo j fun r=>nat2 h.Step s r*shN h (seen.getD (t+1) 0) r*bw h n seen T (t+1) r)+B*C*A:Nat):Int)) (by omega),w64 (by omega),nat_i,nat_i,midB_set]
  congr 2
  refine Prod.ext (by simp) ?_
  dsimp only
  congr 1
  funext s'
  by_cases e:s'=s
  ·rw [if_pos e,if_pos e]; simp only [sumTo,hA,hB,hC]
  ·rw [if_neg e,if_neg e,if_neg e]
 ·unfold g_ref17_Backward_b1
  simp only [v.firstL]
  rw [if_neg (by simp),←htot]
theorem VH.rbrow {t:Nat} (ht:t < T) (s6:List (List Int)) :
  whileN fuel (g_ref17_Backward_b4 h seen ((t:Int),s6)) (0,midB T n (bw h n seen T) t fun _=>0)=some (midB T n (bw h n seen T) t (bw h n seen T t)):=by
 have hn4:=v.n4
 have hlen:=w.len
 refine whileN_run (fun j=>((j:Int),midB T n (bw h n seen T) t fun s=>if s < j then bw h n seen T t s else 0)) n _ ?_ ?_ ?_ (by omega)
 ·refine Prod.ext rfl ?_
  unfold midB
  exact tabI_congr fun t' _ s' _=>by simp
 ·intro j hj
  have fin:midB T n (bw h n seen T) t (fun s'=>if s'=j then bw h n seen T t j else if s' < j then bw h n seen T t s' else 0)=midB T n (bw h n seen T) t fun s=>if s < j+1 then bw h n seen T t s else 0:=by
   congr 1
   funext s'
   by_cases e:s'=j
   ·subst e; rw [if_pos rfl,if_pos (by omega)]
   ·rw [if_neg e]
    by_cases e2:s' < j
    ·rw [if_pos e2,if_pos (by omega)]
    ·rw [if_neg e2,if_neg (by omega)]
  unfold g_ref17_Backward_b4
  simp only [v.firstL,hlen]
  rw [if_pos (by rw [decide_eq_true_eq]; omega),show IntKind.i64.wrap (IntKind.i64.wrap ((T:Int) - 1) - (t:Int))=((T - 1 - t:Nat):Int) by rw [w64 (n:=(T:Int) - 1) (by omega),w64 (by omega)]; omega,v.short_eq (by omega)]
  simp only [Option.bind_some]
  by_cases hsh:n^(T - 1 - t)≤1024
  ·rw [if_neg (by simpa using hsh),v.paths_eq (by omega) hsh]
   simp only [Option.bind_some]
   rw [v.rbpaths w hT ht hj _ (by simp) hsh]
   simp only [Option.bind_some]
   rw [w64 (by omega),fin]
   rfl
  ·rw [if_pos (by simpa using hsh)]
   have ht1:t+1 < T:=by
    rcases Nat.lt_or_ge (t+1) T with c | c
    ·exact c
    ·exfalso; apply hsh; rw [show T - 1 - t=0 by omega]; simp
   rw [v.rbsum w hT ht1 hj _ (by simp)]
   simp only [Option.bind_some]
   rw [w64 (by omega),fin]
   rfl
 ·unfold g_ref17_Backward_b4
  simp only [v.firstL]
  rw [if_neg (by simp)]
  congr 2
  unfold midB
  refine tabI_congr fun t' _ s' hs'=>?_
  simp [hs']
theorem VH.rbackward_eq:g_ref17_Backward h seen=some (tabI T n (bw h n seen T)):=by
 unfold g_ref17_Backward
 have hlen:=w.len
 rw [show whileN fuel (g_ref17_Backward_b0 seen h) (0,([]:List (List Int)))=some (tabI T n fun _ _=>0) from v.rzero w hT]
 simp only [Option.bind_some]
 rw [whileN_run (fun j=>((T:Int) - 1 - j,tabI T n fun t' s'=>if T - 1 - t' < j then bw h n seen T t' s' else 0)) T (tabI T n (bw h n seen T)) ?_ ?_ ?_ (by omega)]
 ·rfl
 ·refine Prod.ext ?_ (tabI_congr fun t' _ s' _=>by simp)
  simp only [hlen]
  rw [w64 (by omega)]; omega
 ·intro j hj
  unfold g_ref17_Backward_b5
  simp only []
  rw [if_pos (by rw [decide_eq_true_eq]; omega),show (T:Int) - 1 - (j:Int)=((T - 1 - j:Nat):Int) by omega]
  have e1:(tabI T n fun t' s'=>if T - 1 - t' < j then bw h n seen T t' s' else 0)=midB T n (bw h n seen T) (T - 1 - j) fun _=>0:=by
   unfold midB
   refine tabI_congr fun t' ht' s' _=>?_
   by_cases c:T - 1 - t' < j
   ·rw [if_pos c,if_pos (by omega)]
   ·rw [if_neg c,if_neg (by omega)]; simp
  rw [e1,v.rbrow w hT (by omega)]
  simp only [Option.bind_some]
  rw [w64 (by omega)]
  congr 2
  refine Prod.ext (by simp only []; omega) ?_
  unfold midB
  refine tabI_congr fun t' ht' s' _=>?_
  by_cases c:T - 1 - j < t'
  ·rw [if_pos c,if_pos (by omega)]
  ·rw [if_neg c]
   by_cases c2:t'=T - 1 - j
   ·rw [if_pos c2,if_pos (by omega),c2]
   ·rw [if_neg c2,if_neg (by omega)]
 ·unfold g_ref17_Backward_b5
  simp only []
  rw [if_neg (by simp only [ge_iff_le,decide_eq_true_eq]; omega)]
  congr 2
  exact tabI_congr fun t' ht s' _=>by rw [if_pos (by omega)]
end
end Go.Ab
namespace Go.Ab
open Go
theorem one5 {cs:List AV} (h:WT (.int .u8) cs):∃a:Int,cs=[(AV.int .u8) a]∧(Lit.int .u8 a).wf=true:=by
 obtain ⟨n,rfl,w⟩:=h
 exact ⟨n,rfl,w⟩
theorem el5 {x:AV} (h:WT (.int .u8) x.flat ∧ (if false then x=.agg x.flat else x.cell=true)):∃a:Int,x=(AV.int .u8) a∧(Lit.int .u8 a).wf=true:=by
 obtain ⟨a,h1,h2⟩:=one5 h.1
 rw [flat_cell h.2] at h1
 exact ⟨a,(List.cons.inj h1).1,h2⟩
theorem one22 {cs:List AV} (h:WT (.slice true false 1 (.int .u8)) cs):∃a:(List Int),cs=[(eL true (AV.int .u8)) a]∧(a.length≤maxLen∧∀y0∈a,(Lit.int .u8 y0).wf=true):=by
 obtain ⟨xs,rfl,hl,hx⟩:=h
 obtain ⟨l,rfl,hr⟩:=lists_of (enc:=(AV.int .u8)) (R:=fun a=>(Lit.int .u8 a).wf=true) (fun x hm=>el5 (hx x hm))
 exact ⟨l,rfl,by simpa using hl,hr⟩
def okTharuspexref17_Draft (x:Tharuspexref17_Draft):Prop:=((Lit.int .u8 x.Grain).wf=true)∧((Lit.int .u8 x.States).wf=true)∧((Lit.int .u8 x.Shows).wf=true)∧((x.L.length≤maxLen∧∀y0∈x.L,(Lit.int .u8 y0).wf=true))∧((x.Seen.length≤maxLen∧∀y0∈x.Seen,(Lit.int .u8 y0).wf=true))
theorem rdTharuspexref17_Draft {cs:List AV} (h:WT (.cat (.int .u8) (.cat (.int .u8) (.cat (.int .u8) (.cat (.slice true false 1 (.int .u8)) (.cat (.slice true false 1 (.int .u8)) .unit))))) cs):∃x:Tharuspexref17_Draft,AV.agg cs=eTharuspexref17_Draft x∧okTharuspexref17_Draft x:=by
 obtain ⟨_,_,rfl,a0,r0⟩:=h
 obtain ⟨v0,e0,w0⟩:=one5 a0
 cases e0
 obtain ⟨_,_,rfl,a1,r1⟩:=r0
 obtain ⟨v1,e1,w1⟩:=one5 a1
 cases e1
 obtain ⟨_,_,rfl,a2,r2⟩:=r1
 obtain ⟨v2,e2,w2⟩:=one5 a2
 cases e2
 obtain ⟨_,_,rfl,a3,r3⟩:=r2
 obtain ⟨v3,e3,w3⟩:=one22 a3
 cases e3
 obtain ⟨_,_,rfl,a4,r4⟩:=r3
 obtain ⟨v4,e4,w4⟩:=one22 a4
 cases e4
 cases r4
 exact ⟨⟨v0,v1,v2,v3,v4⟩,rfl,⟨w0,w1,w2,w3,w4⟩⟩
theorem one3 {cs:List AV} (h:WT (.int .i64) cs):∃a:Int,cs=[eI a]∧(Lit.int .i64 a).wf=true:=by
 obtain ⟨n,rfl,w⟩:=h
 exact ⟨n,rfl,w⟩
theorem el3 {x:AV} (h:WT (.int .i64) x.flat ∧ (if false then x=.agg x.flat else x.cell=true)):∃a:Int,x=eI a∧(Lit.int .i64 a).wf=true:=by
 obtain ⟨a,h1,h2⟩:=one3 h.1
 rw [flat_cell h.2] at h1
 exact ⟨a,(List.cons.inj h1).1,h2⟩
def okTharuspexref17_Bend (x:Tharuspexref17_Bend):Prop:=((Lit.int .u8 x.What).wf=true)∧((Lit.int .u8 x.S).wf=true)∧((Lit.int .u8 x.At).wf=true)∧((Lit.int .i64 x.N).wf=true)
theorem rdTharuspexref17_Bend {cs:List AV} (h:WT (.cat (.int .u8) (.cat (.int .u8) (.cat (.int .u8) (.cat (.int .i64) .unit)))) cs):∃x:Tharuspexref17_Bend,AV.agg cs=eTharuspexref17_Bend x∧okTharuspexref17_Bend x:=by
 obtain ⟨_,_,rfl,a0,r0⟩:=h
 obtain ⟨v0,e0,w0⟩:=one5 a0
 cases e0
 obtain ⟨_,_,rfl,a1,r1⟩:=r0
 obtain ⟨v1,e1,w1⟩:=one5 a1
 cases e1
 obtain ⟨_,_,rfl,a2,r2⟩:=r1
 obtain ⟨v2,e2,w2⟩:=one5 a2
 cases e2
 obtain ⟨_,_,rfl,a3,r3⟩:=r2
 obtain ⟨v3,e3,w3⟩:=one3 a3
 cases e3
 cases r3
 exact ⟨⟨v0,v1,v2,v3⟩,rfl,⟨w0,w1,w2,w3⟩⟩
theorem one27 {cs:List AV} (h:WT (.slice true false 1 (.int .i64)) cs):∃a:(List Int),cs=[(eL true eI) a]∧(a.length≤maxLen∧∀y0∈a,(Lit.int .i64 y0).wf=true):=by
 obtain ⟨xs,rfl,hl,hx⟩:=h
 obtain ⟨l,rfl,hr⟩:=lists_of (enc:=eI) (R:=fun a=>(Lit.int .i64 a).wf=true) (fun x hm=>el3 (hx x hm))
 exact ⟨l,rfl,by simpa using hl,hr⟩
theorem el27 {x:AV} (h:WT (.slice true false 1 (.int .i64)) x.flat ∧ (if false then x=.agg x.flat else x.cell=true)):∃a:(List Int),x=(eL true eI) a∧(a.length≤maxLen∧∀y0∈a,(Lit.int .i64 y0).wf=true):=by
 obtain ⟨a,h1,h2⟩:=one27 h.1
 rw [flat_cell h.2] at h1
 exact ⟨a,(List.cons.inj h1).1,h2⟩
theorem one28 {cs:List AV} (h:WT (.slice false false 1 (.slice true false 1 (.int .i64))) cs):∃a:(List (List Int)),cs=[(eL false (eL true eI)) a]∧(a.length≤maxLen∧∀y0∈a,(y0.length≤maxLen∧∀y1∈y0,(Lit.int .i64 y1).wf=true)):=by
 obtain ⟨xs,rfl,hl,hx⟩:=h
 obtain ⟨l,rfl,hr⟩:=lists_of (enc:=(eL true eI)) (R:=fun a=>(a.length≤maxLen∧∀y0∈a,(Lit.int .i64 y0).wf=true)) (fun x hm=>el27 (hx x hm))
 exact ⟨l,rfl,by simpa using hl,hr⟩
def okTapi_Hidden (x:Tapi_Hidden):Prop:=((Lit.int .i64 x.Grain).wf=true)∧((x.First.length≤maxLen∧∀y0∈x.First,(Lit.int .i64 y0).wf=true))∧((x.Step.length≤maxLen∧∀y0∈x.Step,(y0.length≤maxLen∧∀y1∈y0,(Lit.int .i64 y1).wf=true)))∧((x.Show.length≤maxLen∧∀y0∈x.Show,(y0.length≤maxLen∧∀y1∈y0,(Lit.int .i64 y1).wf=true)))
theorem rdTapi_Hidden {cs:List AV} (h:WT (.cat (.int .i64) (.cat (.slice true false 1 (.int .i64)) (.cat (.slice false false 1 (.slice true false 1 (.int .i64))) (.cat (.slice false false 1 (.slice true false 1 (.int .i64))) .unit)))) cs):∃x:Tapi_Hidden,AV.agg cs=eTapi_Hidden x∧okTapi_Hidden x:=by
 obtain ⟨_,_,rfl,a0,r0⟩:=h
 obtain ⟨v0,e0,w0⟩:=one3 a0
 cases e0
 obtain ⟨_,_,rfl,a1,r1⟩:=r0
 obtain ⟨v1,e1,w1⟩:=one27 a1
 cases e1
 obtain ⟨_,_,rfl,a2,r2⟩:=r1
 obtain ⟨v2,e2,w2⟩:=one28 a2
 cases e2
 obtain ⟨_,_,rfl,a3,r3⟩:=r2
 obtain ⟨v3,e3,w3⟩:=one28 a3
 cases e3
 cases r3
 exact ⟨⟨v0,v1,v2,v3⟩,rfl,⟨w0,w1,w2,w3⟩⟩
end Go.Ab
namespace Go.Ab
open Go
set_option maxRecDepth 100000
theorem wf_u8 {n:Int} (h:(Lit.int .u8 n).wf=true):0≤n∧n≤255:=by
 simpa [Lit.wf,IntKind.min,IntKind.max,IntKind.bits,IntKind.signed] using h
theorem split_eq (n:Nat) (sum:Int) (l:List Int) (hn:1≤n∧n≤100) (hs:0≤sum∧sum≤1000) (hl:∀x∈l,0≤x∧x≤255) (hlen:l.length≤1000) :
  ∃r,g_ref17_Split (n:Int) sum l=some r∧r.length=n∧RowP sum r:=by
 unfold g_ref17_Split
 have ex:=whileN_ex (body:=g_ref17_Split_b0 (n:Int) l) (fun s=>∃i:Nat,s.2.1=(i:Int)∧i≤n∧s.2.2.length=i∧(∀x∈s.2.2,0≤x)∧isum s.2.2+s.1=sum∧0≤s.1∧s.1≤sum∧(i=n→s.1=0)) (fun s=>n - s.2.1.toNat) (fun r=>r.length=n∧RowP sum r) ?_
  (sum,0,[]) ⟨0,rfl,by omega,rfl,by simp,by simp [isum],hs.1,by simp,by omega⟩ (by simp only; omega)
 ·obtain ⟨r,e,hr⟩:=ex
  exact ⟨r,by rw [e]; rfl,hr⟩
 ·rintro ⟨left,i0,out⟩ ⟨i,h1,h2,h3,h4,h5,h6,h7,h8⟩
  simp only at h1 h3 h4 h5 h6 h7 h8
  subst h1
  have snoc:∀k:Int,0≤k→∀x∈out++[k],0≤x:=fun k hk x hx=>by
   rcases List.mem_append.1 hx with h | h
   ·exact h4 x h
   ·rw [List.mem_singleton] at h; omega
  have sm:∀k:Int,isum (out++[k])=isum out+k:=fun k=>by rw [isum_append]; simp [isum]
  unfold g_ref17_Split_b0
  simp only
  by_cases hi:i < n
  ·left
   rw [if_pos (by simp [hi]),w64 (n:=(n:Int) - 1) (by omega),w64 (n:=(i:Int)+1) (by omega)]
   by_cases hi2:i < n - 1
   ·rw [if_pos (by simp; omega)]
    by_cases hi3:i < l.length
    ·rw [if_pos (by simp [hi3]),lkI_nat hi3]
     simp only [Option.bind_some]
     have hb:=hl _ (List.getElem_mem hi3)
     rw [w64 (n:=left+1) (by omega),if_pos (by omega),w64 (n:=l[i]) (by omega),tmod_pos (by omega)]
     have m1:=Int.emod_nonneg l[i] (b:=left+1) (by omega)
     have m2:=Int.emod_lt_of_pos l[i] (b:=left+1) (by omega)
     generalize l[i] % (left+1)=k at *
     rw [if_pos (by simp; omega),w64 (by omega)]
     exact ⟨_,rfl,⟨i+1,by simp only; omega,hi,by simp [h3],snoc k m1,by simp only [sm]; omega,by simp only; omega,by simp only; omega,by omega⟩,by simp only; omega⟩
    ·rw [if_neg (by simp; omega),if_pos (by simp; omega),w64 (by omega)]
     exact ⟨_,rfl,⟨i+1,by simp only; omega,hi,by simp [h3],snoc 0 (by omega),by simp only [sm]; omega,by simp only; omega,by simp only; omega,by omega⟩,by simp only; omega⟩
   ·rw [if_neg (by simp; omega),if_pos (by simp; omega),w64 (by omega)]
    exact ⟨_,rfl,⟨i+1,by simp only; omega,hi,by simp [h3],snoc left h6,by simp only [sm]; omega,by simp only; omega,by simp only; omega,by simp only; omega⟩,by simp only; omega⟩
  ·right
   rw [if_neg (by simp; omega)]
   have hin:i=n:=by omega
   have:=h8 hin
   exact ⟨out,rfl,by omega,h4,by omega⟩
theorem from_eq (d:Tharuspexref17_Draft) (h:okTharuspexref17_Draft d) (at0:Int) (ha:0≤at0∧at0≤1000):∃l,g_ref17_Draft_from d at0=some l∧(∀x∈l,0≤x∧x≤255)∧l.length≤1000:=by
 have hml:maxLen=9223372036854775807:=rfl
 obtain ⟨b1,b2,b3,b4,b5⟩:=h
 have len:=b4.1
 have ent:=fun x hx=>wf_u8 (b4.2 x hx)
 unfold g_ref17_Draft_from
 by_cases h0:d.L.length=0
 ·rw [if_pos (by simp [h0])]
  exact ⟨[],rfl,by simp,by simp⟩
 rw [if_neg (by simpa using h0)]
 have ex:=whileN_ex (body:=g_ref17_Draft_from_b0 d at0) (fun s=>∃i:Nat,s.1=(i:Int)∧i≤4∧s.2.length=i∧∀x∈s.2,0≤x∧x≤255) (fun s=>4 - s.1.toNat) (fun r=>(∀x∈r,0≤x∧x≤255)∧r.length≤1000) ?_
  (0,[]) ⟨0,rfl,by omega,rfl,by simp⟩ (by simp only; omega)
 ·obtain ⟨r,e,hr⟩:=ex
  exact ⟨r,by rw [e]; rfl,hr⟩
 ·rintro ⟨i0,out⟩ ⟨i,h1,h2,h3,h4⟩
  simp only at h1 h3 h4
  subst h1
  unfold g_ref17_Draft_from_b0
  simp only
  by_cases hi:i < 4
  ·left
   rw [if_pos (by rw [decide_eq_true_eq]; omega),if_pos (by omega),w64 (n:=at0+(i:Int)) (by omega),tmod_pos (by omega)]
   have m1:=Int.emod_nonneg (at0+(i:Int)) (b:=(d.L.length:Int)) (by omega)
   have m2:=Int.emod_lt_of_pos (at0+(i:Int)) (b:=(d.L.length:Int)) (by omega)
   rw [lkI_at m1 m2]
   simp only [Option.bind_some]
   rw [if_pos (by simp; omega),w64 (by omega)]
   refine ⟨_,rfl,⟨i+1,by simp only; omega,hi,by simp [h3],fun x hx=>?_⟩,by simp only; omega⟩
   rcases List.mem_append.1 hx with h | h
   ·exact h4 x h
   ·rw [List.mem_singleton] at h; rw [h]; exact ent _ (List.getElem_mem _)
  ·right
   rw [if_neg (by rw [decide_eq_true_eq]; omega)]
   exact ⟨out,rfl,h4,by omega⟩
theorem draft_ok (d:Tharuspexref17_Draft) (h:okTharuspexref17_Draft d):∃x g n k,g_ref17_Draft_Hidden d=some x∧VH x g n k∧(k:Int)=1+d.Shows % 4:=by
 have hh:=h
 obtain ⟨b1,b2,b3,b4,b5⟩:=hh
 have b1:=wf_u8 b1; have b2:=wf_u8 b2; have b3:=wf_u8 b3
 unfold g_ref17_Draft_Hidden
 obtain ⟨g,hg⟩:∃g:Nat,1+d.Grain % 12=(g:Int):=⟨(1+d.Grain % 12).toNat,by omega⟩
 obtain ⟨n,hn⟩:∃n:Nat,1+d.States % 4=(n:Int):=⟨(1+d.States % 4).toNat,by omega⟩
 obtain ⟨k,hk⟩:∃k:Nat,1+d.Shows % 4=(k:Int):=⟨(1+d.Shows % 4).toNat,by omega⟩
 have wg:IntKind.i64.wrap (1+IntKind.i64.wrap (Int.tmod d.Grain 12))=(g:Int):=by rw [tmod_pos (by omega),w64 (n:=d.Grain % 12) (by omega),w64 (by omega),hg]
 have wn:IntKind.i64.wrap (1+IntKind.i64.wrap (Int.tmod d.States 4))=(n:Int):=by rw [tmod_pos (by omega),w64 (n:=d.States % 4) (by omega),w64 (by omega),hn]
 have wk:IntKind.i64.wrap (1+IntKind.i64.wrap (Int.tmod d.Shows 4))=(k:Int):=by rw [tmod_pos (by omega),w64 (n:=d.Shows % 4) (by omega),w64 (by omega),hk]
 obtain ⟨l0,e0,f0,f1⟩:=from_eq d h 0 (by omega)
 obtain ⟨r0,e1,r1,r2⟩:=split_eq n (g:Int) l0 (by omega) (by omega) f0 f1
 rw [e0]
 simp only [Option.bind_some]
 rw [wg,wn,e1]
 simp only [Option.bind_some]
 have ex:=whileN_ex (body:=g_ref17_Draft_Hidden_b0 d) (fun s=>∃i:Nat,s.1=(i:Int)∧i≤n∧s.2.1.length=i∧(∀l∈s.2.1,l.length=n∧RowP g l)∧s.2.2.length=i∧∀l∈s.2.2,l.length=k∧RowP g l) (fun s=>n - s.1.toNat)
  (fun r=>r.1.length=n∧(∀l∈r.1,l.length=n∧RowP g l)∧r.2.length=n∧∀l∈r.2,l.length=k∧RowP g l) ?_
  (0,[],[]) ⟨0,rfl,by omega,rfl,by simp,rfl,by simp⟩ (by simp only; omega)
 ·obtain ⟨R,e,h1,h2,h3,h4⟩:=ex
  rw [e]
  exact ⟨_,g,n,k,rfl,⟨rfl,by omega,by omega,by omega,by omega,by omega,by omega,r1,r2,h1,h2,h3,h4⟩,hk.symm⟩
 ·rintro ⟨i0,A,B⟩ ⟨i,h1,h2,h3,h4,h5,h6⟩
  simp only at h1 h3 h4 h5 h6
  subst h1
  unfold g_ref17_Draft_Hidden_b0
  simp only
  rw [wn]
  by_cases hi:i < n
  ·left
   rw [if_pos (by rw [decide_eq_true_eq]; omega),w64 (n:=8*(i:Int)) (by omega),w64 (n:=4+8*(i:Int)) (by omega),w64 (n:=8+8*(i:Int)) (by omega)]
   obtain ⟨la,ea,fa,ga⟩:=from_eq d h (4+8*(i:Int)) (by omega)
   obtain ⟨ra,ea1,ra1,ra2⟩:=split_eq n (g:Int) la (by omega) (by omega) fa ga
   obtain ⟨lb,eb,fb,gb⟩:=from_eq d h (8+8*(i:Int)) (by omega)
   obtain ⟨rb,eb1,rb1,rb2⟩:=split_eq k (g:Int) lb (by omega) (by omega) fb gb
   rw [ea]
   simp only [Option.bind_some]
   rw [wg,ea1]
   simp only [Option.bind_some]
   rw [if_pos (by simp; omega),eb]
   simp only [Option.bind_some]
   rw [wk,eb1]
   simp only [Option.bind_some]
   rw [if_pos (by simp; omega),w64 (by omega)]
   refine ⟨_,rfl,⟨i+1,by simp only; omega,hi,by simp [h3],fun x hx=>?_,by simp [h5],fun x hx=>?_⟩,by simp only; omega⟩
   ·rcases List.mem_append.1 hx with h | h
    ·exact h4 x h
    ·rw [List.mem_singleton] at h; rw [h]; exact ⟨ra1,ra2⟩
   ·rcases List.mem_append.1 hx with h | h
    ·exact h6 x h
    ·rw [List.mem_singleton] at h; rw [h]; exact ⟨rb1,rb2⟩
  ·right
   rw [if_neg (by rw [decide_eq_true_eq]; omega)]
   have hin:i=n:=by omega
   exact ⟨_,rfl,by simp only; omega,h4,by simp only; omega,h6⟩
theorem what_ok (d:Tharuspexref17_Draft) (h:okTharuspexref17_Draft d) {k:Nat} (hk:(k:Int)=1+d.Shows % 4):∃l,g_ref17_Draft_What d=some l∧1≤l.length∧l.length≤8∧VS k l l.length:=by
 have hml:maxLen=9223372036854775807:=rfl
 obtain ⟨b1,b2,b3,b4,b5⟩:=h
 have b3:=wf_u8 b3
 have len:=b5.1
 have ent:=fun x hx=>wf_u8 (b5.2 x hx)
 have wk:IntKind.i64.wrap (2+IntKind.i64.wrap (Int.tmod d.Shows 4))=(k:Int)+1:=by rw [tmod_pos (by omega),w64 (n:=d.Shows % 4) (by omega),w64 (by omega)]; omega
 unfold g_ref17_Draft_What
 have ex:=whileN_ex (body:=g_ref17_Draft_What_b0 d) (fun s=>∃i:Nat,s.1=(i:Int)∧i≤8∧i≤d.Seen.length∧s.2.length=i∧∀x∈s.2,-1≤x∧x < (k:Int)) (fun s=>8 - s.1.toNat) (fun r=>r.length≤8∧∀x∈r,-1≤x∧x < (k:Int)) ?_
  (0,[]) ⟨0,rfl,by omega,by omega,rfl,by simp⟩ (by simp only; omega)
 ·obtain ⟨r,e,hr1,hr2⟩:=ex
  rw [e]
  simp only [Option.bind_some]
  by_cases h0:r.length=0
  ·rw [if_pos (by simp [h0])]
   refine ⟨[-1],rfl,by simp,by simp,rfl,fun x hx=>?_⟩
   rw [List.mem_singleton] at hx; omega
  ·rw [if_neg (by simpa using h0)]
   exact ⟨r,rfl,by omega,hr1,rfl,hr2⟩
 ·rintro ⟨i0,out⟩ ⟨i,h1,h2,h3,h4,h5⟩
  simp only at h1 h4 h5
  subst h1
  unfold g_ref17_Draft_What_b0
  simp only
  by_cases hi:i < d.Seen.length
  ·rw [if_pos (by rw [decide_eq_true_eq]; omega)]
   by_cases hi8:i < 8
   ·left
    rw [if_pos (by rw [decide_eq_true_eq]; omega),lkI_nat hi]
    simp only [Option.bind_some]
    have hb:=ent _ (List.getElem_mem hi)
    rw [wk,if_pos (by omega),w64 (n:=d.Seen[i]) (by omega),tmod_pos (by omega)]
    have m1:=Int.emod_nonneg d.Seen[i] (b:=(k:Int)+1) (by omega)
    have m2:=Int.emod_lt_of_pos d.Seen[i] (b:=(k:Int)+1) (by omega)
    generalize d.Seen[i] % ((k:Int)+1)=y at *
    rw [w64 (n:=y - 1) (by omega),if_pos (by simp; omega),w64 (by omega)]
    refine ⟨_,rfl,⟨i+1,by simp only; omega,hi8,by omega,by simp [h4],fun x hx=>?_⟩,by simp only; omega⟩
    rcases List.mem_append.1 hx with h | h
    ·exact h5 x h
    ·rw [List.mem_singleton] at h; omega
   ·right
    rw [if_neg (by rw [decide_eq_true_eq]; omega)]
    exact ⟨_,rfl,by omega,h5⟩
  ·right
   rw [if_neg (by rw [decide_eq_true_eq]; omega)]
   exact ⟨_,rfl,by omega,h5⟩
end Go.Ab
namespace Go.Ab
open Go
set_option maxRecDepth 100000
theorem copy_rows {body:(Int × List (List Int))→Option (Step (Int × List (List Int)) (List (List Int)))} (L:List (List Int)) (hL:L.length≤1000)
  (step:∀i (hi:i < L.length) (out:List (List Int)),out.length=i→body ((i:Int),out)=some (.next (((i+1:Nat):Int),out++[L[i]]))) (done:∀out,body ((L.length:Int),out)=some (.done out)) :
  whileN fuel body (0,([]:List (List Int)))=some L:=by
 refine whileN_run (fun i=>((i:Int),L.take i)) L.length L (by simp) (fun i hi=>?_) ?_ (by omega)
 ·rw [step i hi _ (by simp; omega)]
  simp only [List.take_succ_eq_append_getElem hi]
 ·rw [done]; simp
structure FewH (h:Tapi_Hidden):Prop where
 first:h.First.length≤8
 step:h.Step.length≤8
 stepL:∀l∈h.Step,l.length≤8
 shows:h.Show.length≤8
 showsL:∀l∈h.Show,l.length≤8
theorem FewH.ok {h:Tapi_Hidden} (w:FewH h):OkH h :=
 ⟨Nat.le_trans w.first (by omega),Nat.le_trans w.step (by omega),fun l hl=>Nat.le_trans (w.stepL l hl) (by omega),Nat.le_trans w.shows (by omega),fun l hl=>Nat.le_trans (w.showsL l hl) (by omega)⟩
theorem VH.few {h:Tapi_Hidden} {g n k:Nat} (v:VH h g n k):FewH h:=by
 have:=v.n4; have:=v.k4
 exact ⟨by rw [v.firstL]; omega,by rw [v.stepL]; omega,fun l hl=>by rw [(v.step l hl).1]; omega,by rw [v.showL]; omega,fun l hl=>by rw [(v.shows l hl).1]; omega⟩
theorem mem_set_le {L:List (List Int)} {i:Nat} {r:List Int} (h:∀l∈L,l.length≤8) (hr:r.length≤8):∀l∈L.set i r,l.length≤8:=fun l hl=>by
 rcases List.mem_or_eq_of_mem_set hl with h1 | h1
 ·exact h l h1
 ·rw [h1]; exact hr
theorem bend_ok (b:Tharuspexref17_Bend) (hb:okTharuspexref17_Bend b) {h:Tapi_Hidden} {g n k:Nat} (v:VH h g n k):∃h',g_ref17_Bend_Of b h=some h'∧FewH h':=by
 obtain ⟨b1,b2,b3,b4⟩:=hb
 have b1:=wf_u8 b1; have b2:=wf_u8 b2; have b3:=wf_u8 b3
 have hn1:=v.n1; have hn4:=v.n4; have hk1:=v.k1; have hk4:=v.k4
 have f:=v.few
 have hfL:=v.firstL; have hsL:=v.stepL; have hwL:=v.showL
 unfold g_ref17_Bend_Of
 rw [copy_rows h.Step (by omega) (fun i hi out ho=>by
  unfold g_ref17_Bend_Of_b0
  simp only
  have:=f.stepL _ (List.getElem_mem hi)
  rw [if_pos (by rw [decide_eq_true_eq]; omega),lkI_nat hi]
  simp only [Option.bind_some]
  rw [if_pos (by omega),if_pos (by simp; omega),w64 (by omega)]; rfl) (fun out=>by
  unfold g_ref17_Bend_Of_b0
  simp only
  rw [if_neg (by simp)])]
 simp only [Option.bind_some]
 rw [copy_rows h.Show (by omega) (fun i hi out ho=>by
  unfold g_ref17_Bend_Of_b1
  simp only
  have:=f.showsL _ (List.getElem_mem hi)
  rw [if_pos (by rw [decide_eq_true_eq]; omega),lkI_nat hi]
  simp only [Option.bind_some]
  rw [if_pos (by omega),if_pos (by simp; omega),w64 (by omega)]; rfl) (fun out=>by
  unfold g_ref17_Bend_Of_b1
  simp only
  rw [if_neg (by simp)])]
 simp only [Option.bind_some]
 rw [if_pos (by omega),tmod_pos (by omega),w64 (n:=b.At) (by omega),w64 (n:=b.S) (by omega)]
 have a1:=Int.emod_nonneg b.At (b:=(h.First.length:Int)) (by omega)
 have a2:=Int.emod_lt_of_pos b.At (b:=(h.First.length:Int)) (by omega)
 have c1:=Int.emod_nonneg b.S (b:=(h.Step.length:Int)) (by omega)
 have c2:=Int.emod_lt_of_pos b.S (b:=(h.Step.length:Int)) (by omega)
 have d1:=Int.emod_nonneg b.S (b:=(h.Show.length:Int)) (by omega)
 have d2:=Int.emod_lt_of_pos b.S (b:=(h.Show.length:Int)) (by omega)
 by_cases e0:(b.What % 8==0)=true
 ·rw [if_pos e0]; exact ⟨_,rfl,f.first,f.step,f.stepL,f.shows,f.showsL⟩
 rw [if_neg e0]
 by_cases e1:(b.What % 8==1)=true
 ·rw [if_pos e1,if_pos (by omega),tmod_pos (by omega),lkI_at a1 a2]
  simp only [Option.bind_some]
  exact ⟨_,rfl,by simp only [List.length_set]; exact f.first,f.step,f.stepL,f.shows,f.showsL⟩
 rw [if_neg e1]
 by_cases e2:(b.What % 8==2)=true
 ·rw [if_pos e2,if_pos (by omega),tmod_pos (by omega),lkI_at c1 c2]
  simp only [Option.bind_some]
  have hr:=v.step _ (List.getElem_mem (show (b.S % (h.Step.length:Int)).toNat < h.Step.length by omega))
  generalize h.Step[(b.S % (h.Step.length:Int)).toNat]'(by omega)=r at *
  have e1:=Int.emod_nonneg b.At (b:=(r.length:Int)) (by omega)
  have e2:=Int.emod_lt_of_pos b.At (b:=(r.length:Int)) (by omega)
  rw [if_pos (by omega),tmod_pos (by omega),lkI_at e1 e2]
  simp only [Option.bind_some]
  exact ⟨_,rfl,f.first,by simp only [List.length_set]; exact f.step,mem_set_le f.stepL (by rw [List.length_set]; omega),f.shows,f.showsL⟩
 rw [if_neg e2]
 by_cases e3:(b.What % 8==3)=true
 ·rw [if_pos e3,if_pos (by omega),tmod_pos (by omega),lkI_at d1 d2]
  simp only [Option.bind_some]
  have hr:=v.shows _ (List.getElem_mem (show (b.S % (h.Show.length:Int)).toNat < h.Show.length by omega))
  generalize h.Show[(b.S % (h.Show.length:Int)).toNat]'(by omega)=r at *
  have e1:=Int.emod_nonneg b.At (b:=(r.length:Int)) (by omega)
  have e2:=Int.emod_lt_of_pos b.At (b:=(r.length:Int)) (by omega)
  rw [if_pos (by omega),tmod_pos (by omega),lkI_at e1 e2]
  simp only [Option.bind_some]
  exact ⟨_,rfl,f.first,f.step,f.stepL,by simp only [List.length_set]; exact f.shows,mem_set_le f.showsL (by rw [List.length_set]; omega)⟩
 rw [if_neg e3]
 by_cases e4:(b.What % 8==4)=true
 ·rw [if_pos e4,if_pos (by omega)]
  refine ⟨_,rfl,f.first,?_,fun l hl=>?_,f.shows,f.showsL⟩
  ·simp only [sub,List.length_take,List.length_drop]; omega
  ·exact f.stepL l (by simp only [sub] at hl; first | exact List.mem_of_mem_drop (List.mem_of_mem_take hl) | exact List.mem_of_mem_take (List.mem_of_mem_drop hl))
 rw [if_neg e4]
 by_cases e5:(b.What % 8==5)=true
 ·rw [if_pos e5,tmod_pos (by omega),lkI_at d1 d2]
  simp only [Option.bind_some]
  have hr:=v.shows _ (List.getElem_mem (show (b.S % (h.Show.length:Int)).toNat < h.Show.length by omega))
  generalize h.Show[(b.S % (h.Show.length:Int)).toNat]'(by omega)=r at *
  rw [if_pos (by rw [List.length_set]; omega),if_pos (by rw [List.length_set]; omega),if_pos (by simp; omega)]
  exact ⟨_,rfl,f.first,f.step,f.stepL,by simp only [List.length_set]; exact f.shows,mem_set_le (mem_set_le f.showsL (by simp)) (by simp; omega)⟩
 rw [if_neg e5]
 by_cases e6:(b.What % 8==6)=true
 ·rw [if_pos e6,if_pos (by simp; omega)]
  exact ⟨_,rfl,by simp; omega,f.step,f.stepL,f.shows,f.showsL⟩
 rw [if_neg e6]
 exact ⟨_,rfl,f.first,f.step,f.stepL,by simp,by simp⟩
end Go.Ab
namespace Go.Ab
open Go
set_option maxRecDepth 100000
theorem sub_lim {α:Type} (l:List α) (m:Nat):sub l 0 (if (m:Int) < (l.length:Int) then (m:Int) else (l.length:Int))=l.take m:=by
 by_cases c:(m:Int) < (l.length:Int)
 ·rw [if_pos c]; simp [sub]
 ·rw [if_neg c]; simp only [sub]
  rw [show (0:Int).toNat = 0 from rfl,List.drop_zero,show ((l.length:Int).toNat - 0)=l.length by omega,List.take_length,List.take_of_length_le (by omega)]
theorem lim_ok {α:Type} (l:List α) (m:Nat):0≤(0:Int)∧(0:Int)≤(if (m:Int) < (l.length:Int) then (m:Int) else (l.length:Int))∧(if (m:Int) < (l.length:Int) then (m:Int) else (l.length:Int))≤(l.length:Int):=by
 by_cases c:(m:Int) < (l.length:Int)
 ·rw [if_pos c]; omega
 ·rw [if_neg c]; omega
theorem few_rows {body:(Int × List (List Int))→Option (Step (Int × List (List Int)) (List (List Int)))} (L:List (List Int)) (hL:L.length≤1000)
  (step:∀i (hi:i < L.length) (out:List (List Int)),out.length=i→body ((i:Int),out)=some (.next (((i+1:Nat):Int),out++[L[i].take 6]))) (done:∀out,body ((L.length:Int),out)=some (.done out)) :
  whileN fuel body (0,([]:List (List Int)))=some (L.map fun l=>l.take 6):=by
 refine whileN_run (fun i=>((i:Int),(L.take i).map fun l=>l.take 6)) L.length _ (by simp) (fun i hi=>?_) ?_ (by omega)
 ·rw [step i hi _ (by simp; omega)]
  simp only [List.take_succ_eq_append_getElem hi,List.map_append,List.map_cons,List.map_nil]
 ·rw [done]; simp
theorem few_ok (h:Tapi_Hidden):∃h',g_law17_few h=some h'∧FewH h':=by
 have six:((6:Nat):Int)=6:=rfl
 unfold g_law17_few
 have s1:=sub_lim h.First 6; have s2:=sub_lim h.Step 6; have s3:=sub_lim h.Show 6
 have l1:=lim_ok h.First 6; have l2:=lim_ok h.Step 6; have l3:=lim_ok h.Show 6
 rw [six] at s1 s2 s3 l1 l2 l3
 rw [if_pos l1,if_pos l2]
 rw [few_rows (h.Step.take 6) (by simp; omega) (fun i hi out ho=>by
  have hi':i < 6:=by simp at hi; omega
  unfold g_law17_few_b0
  simp only
  rw [s2,if_pos (by rw [decide_eq_true_eq]; omega),lkI_nat hi]
  simp only [Option.bind_some]
  have l4:=lim_ok ((h.Step.take 6)[i]) 6; have s4:=sub_lim ((h.Step.take 6)[i]) 6
  rw [six] at l4 s4
  rw [if_pos l4,s4,if_pos (by simp; omega),w64 (by omega)]; rfl) (fun out=>by
  unfold g_law17_few_b0
  simp only
  rw [s2,if_neg (by simp)])]
 simp only [Option.bind_some]
 rw [if_pos l3]
 rw [few_rows (h.Show.take 6) (by simp; omega) (fun i hi out ho=>by
  have hi':i < 6:=by simp at hi; omega
  unfold g_law17_few_b1
  simp only
  rw [s3,if_pos (by rw [decide_eq_true_eq]; omega),lkI_nat hi]
  simp only [Option.bind_some]
  have l4:=lim_ok ((h.Show.take 6)[i]) 6; have s4:=sub_lim ((h.Show.take 6)[i]) 6
  rw [six] at l4 s4
  rw [if_pos l4,s4,if_pos (by simp; omega),w64 (by omega)]; rfl) (fun out=>by
  unfold g_law17_few_b1
  simp only
  rw [s3,if_neg (by simp)])]
 simp only [Option.bind_some]
 rw [s1]
 have row:∀(L:List (List Int)),∀l∈(L.take 6).map (fun l=>l.take 6),l.length≤8:=fun L l hl=>by
  obtain ⟨a,_,rfl⟩:=List.mem_map.1 hl
  simp; omega
 exact ⟨_,rfl,by simp; omega,by simp; omega,row _,by simp; omega,row _⟩
theorem chains_ok (p0:Tharuspexref17_Draft) (p1:Tharuspexref17_Bend) (p2:Tapi_Hidden) (h0:okTharuspexref17_Draft p0) (h1:okTharuspexref17_Bend p1) :
  ∃a b c g n k,g_law17_chains p0 p1 p2=some (a,b,c)∧g_ref17_Draft_Hidden p0=some a∧VH a g n k∧(k:Int)=1+p0.Shows % 4∧FewH a∧FewH b∧FewH c:=by
 obtain ⟨a,g,n,k,e1,v,hk⟩:=draft_ok p0 h0
 obtain ⟨b,e2,f2⟩:=bend_ok p1 h1 v
 obtain ⟨c,e3,f3⟩:=few_ok p2
 refine ⟨a,b,c,g,n,k,?_,e1,v,hk,v.few,f2,f3⟩
 unfold g_law17_chains
 rw [e1]; simp only [Option.bind_some]
 rw [e2]; simp only [Option.bind_some]
 rw [e3]; rfl
theorem errN_ok {h:Tapi_Hidden} {seen:List Int} (e:errN h seen=0):∃g n k,VH h g n k∧VS k seen seen.length∧1≤seen.length∧seen.length≤8:=by
 unfold errN at e
 cases hr:rightB h with
 | false=>rw [hr] at e; simp at e
 | true =>
  rw [hr] at e
  cases hs:seenB h seen with
  | false=>rw [hs] at e; simp at e
  | true =>
   obtain ⟨g,n,k,v,hk⟩:=vh_of hr
   unfold seenB seesB at hs
   simp only [Bool.and_eq_true,decide_eq_true_eq,List.all_eq_true] at hs
   obtain ⟨h1,h2,h3⟩:=hs
   exact ⟨g,n,k,v,⟨rfl,fun x hx=>by have:=h1 x hx; rw [←hk]; omega⟩,by omega,by omega⟩
theorem wakes_true:g_law17_wakes=some true:=by kernel_rfl
end Go.Ab
namespace Go.Ab
open Go
set_option maxRecDepth 100000
theorem mx_eq:MX=4611686018427387903:=rfl
theorem sum_row {n:Nat} {f:Nat → Nat} (hn:n≤1000) (hb:sumTo n f≤MX):g_hidden_sum_int (rowI n f)=some ((sumTo n f:Nat):Int):=by
 have hMX:=mx_eq
 unfold g_hidden_sum_int
 rw [whileN_run (s0:=((0:Int),(0:Int))) (fun j=>(((sumTo j f:Nat):Int),(j:Int))) n ((sumTo n f:Nat):Int) rfl ?_ ?_ (by omega)]
 ·rfl
 ·intro j hj
  unfold g_hidden_sum_int_b0
  simp only [rowI_len]
  rw [if_pos (by rw [decide_eq_true_eq]; omega),rowI_get hj]
  simp only [Option.bind_some]
  have:=sumTo_mono (f:=f) (show j+1≤n by omega)
  simp only [sumTo] at this
  rw [←Int.natCast_add,w64 (by omega),w64 (by omega)]
  rfl
 ·unfold g_hidden_sum_int_b0
  simp only [rowI_len]
  rw [if_neg (by simp)]
theorem total_row {n:Nat} {f:Nat → Nat} (hn:n≤1000) (hb:sumTo n f≤MX):g_ref17_Total (rowI n f)=some ((sumTo n f:Nat):Int):=sum_row hn hb
def rowG {α:Type} (n:Nat) (F:Nat → α):List α:=(List.range n).map F
theorem rowG_len {α:Type} {n:Nat} {F:Nat → α}:(rowG n F).length=n:=by simp [rowG]
theorem rowG_get {α:Type} {n:Nat} {F:Nat → α} {k:Nat} (h:k < n):lkI (rowG n F) (k:Int)=some (F k):=by
 rw [lkI_nat (by rw [rowG_len]; exact h)]; simp [rowG]
theorem rowG_congr {α:Type} {n:Nat} {F G:Nat → α} (h:∀k,k < n→F k=G k):rowG n F=rowG n G:=by
 unfold rowG
 apply List.map_congr_left
 intro t ht
 exact h t (by simpa using ht)
theorem rowG_set {α:Type} {n:Nat} {F:Nat → α} {k:Nat} {x:α}:(rowG n F).set k x=rowG n (fun s=>if s=k then x else F s):=by
 apply List.ext_getElem?
 intro s
 rw [List.getElem?_set]
 simp only [rowG,List.getElem?_map,List.length_map,List.length_range]
 by_cases e:k=s
 ·subst e
  rw [if_pos rfl]
  by_cases hk:k < n
  ·rw [if_pos hk,List.getElem?_range hk]; simp
  ·rw [if_neg hk,List.getElem?_eq_none (by simpa using hk)]; rfl
 ·rw [if_neg e]
  by_cases hs:s < n
  ·rw [List.getElem?_range hs]; simp only [Option.map_some]; rw [if_neg (Ne.symm e)]
  ·rw [List.getElem?_eq_none (by simpa using hs)]; rfl
theorem rowG_rep {α:Type} (n:Nat) (x:α):List.replicate n x=rowG n (fun _=>x):=by
 apply List.ext_getElem?
 intro s
 rw [List.getElem?_replicate]
 by_cases hs:s < n
 ·rw [if_pos hs]; simp [rowG,List.getElem?_range hs]
 ·rw [if_neg hs,List.getElem?_eq_none (by rw [rowG_len]; omega)]
theorem rowG_succ {α:Type} {n:Nat} {F:Nat → α}:rowG n F++[F n]=rowG (n+1) F:=by
 unfold rowG; rw [List.range_succ]; simp
def shL (n:Nat) (f:Nat → Nat):List Tapi_Q:=rowG n fun s=>qN (f s) (sumTo n f)
theorem divide_row {n:Nat} {f:Nat → Nat} (hn:n≤1000) (h0:0 < sumTo n f) (hb:sumTo n f≤MX):g_hidden_divide_int (rowI n f)=some (shL n f):=by
 have hMX:=mx_eq
 unfold g_hidden_divide_int
 rw [sum_row hn hb]
 simp only [Option.bind_some]
 rw [rowI_len,if_pos (by omega),nat_i,rowG_rep]
 rw [whileN_run (fun j=>((j:Int),rowG n fun s=>if s < j then qN (f s) (sumTo n f) else ⟨0,0⟩)) n (shL n f) ?_ ?_ ?_ (by omega)]
 ·rfl
 ·exact Prod.ext rfl (rowG_congr fun s _=>by rw [if_neg (by omega)])
 ·intro j hj
  unfold g_hidden_divide_int_b0
  simp only [rowI_len]
  rw [if_pos (by rw [decide_eq_true_eq]; omega),rowI_get hj]
  simp only [Option.bind_some]
  rw [ratio_eq _ _ (Nat.le_trans (sumTo_one hj) hb) hb h0]
  simp only [Option.bind_some]
  rw [rowG_get hj]
  simp only [Option.bind_some]
  rw [w64 (by omega),nat_i,rowG_set]
  congr 2
  refine Prod.ext (by simp only []; omega) (rowG_congr fun s _=>?_)
  by_cases e:s=j
  ·subst e; rw [if_pos rfl,if_pos (by omega)]
  ·rw [if_neg e]
   by_cases e2:s < j
   ·rw [if_pos e2,if_pos (by omega)]
   ·rw [if_neg e2,if_neg (by omega)]
 ·unfold g_hidden_divide_int_b0
  simp only [rowI_len]
  rw [if_neg (by simp)]
  congr 2
  exact rowG_congr fun s hs=>by rw [if_pos hs]
theorem shared_row {n:Nat} {f:Nat → Nat} (hn:n≤1000) (h0:0 < sumTo n f) (hb:sumTo n f≤MX):g_ref17_Shared (rowI n f)=some (shL n f):=by
 have hMX:=mx_eq
 unfold g_ref17_Shared
 rw [whileN_run (s0:=((0:Int),([]:List Tapi_Q))) (fun j=>((j:Int),rowG j fun s=>qN (f s) (sumTo n f))) n (shL n f) rfl ?_ ?_ (by omega)]
 ·rfl
 ·intro j hj
  unfold g_ref17_Shared_b0
  simp only [rowI_len]
  rw [if_pos (by rw [decide_eq_true_eq]; omega),rowI_get hj]
  simp only [Option.bind_some]
  rw [total_row hn hb]
  simp only [Option.bind_some]
  rw [of_eq _ _ (Nat.le_trans (sumTo_one hj) hb) hb h0]
  simp only [Option.bind_some]
  rw [rowG_succ (F:=fun s=>qN (f s) (sumTo n f)),if_pos (by rw [rowG_len]; omega),w64 (by omega)]
  rfl
 ·unfold g_ref17_Shared_b0
  simp only [rowI_len]
  rw [if_neg (by simp)]
  rfl
theorem whole_eq (g m:Nat) (hm:m≤1000) (hb:g^m≤MX):g_weigh_Whole (g:Int) (m:Int)=some ((g^m:Nat):Int):=by
 have hMX:=mx_eq
 unfold g_weigh_Whole
 rcases Nat.eq_zero_or_pos g with hg | hg
 ·subst hg
  rw [whileN_run (s0:=((1:Int),(0:Int))) (fun j=>(((0^j:Nat):Int),(j:Int))) m ((0^m:Nat):Int) (by simp) ?_ ?_ (by omega)]
  ·rfl
  ·intro j hj
   unfold g_weigh_Whole_b0
   simp only []
   rw [if_pos (by rw [decide_eq_true_eq]; omega),w64 (by simp),w64 (by omega),Nat.pow_succ]
   simp
  ·unfold g_weigh_Whole_b0
   simp only []
   rw [if_neg (by simp)]
 ·rw [whileN_run (s0:=((1:Int),(0:Int))) (fun j=>(((g^j:Nat):Int),(j:Int))) m ((g^m:Nat):Int) (by simp) ?_ ?_ (by omega)]
  ·rfl
  ·intro j hj
   unfold g_weigh_Whole_b0
   simp only []
   have h1:g^(j+1)≤g^m:=Nat.pow_le_pow_right hg hj
   rw [Nat.pow_succ] at h1
   rw [if_pos (by rw [decide_eq_true_eq]; omega),←Int.natCast_mul,w64 (by omega),w64 (by omega),Nat.pow_succ]
   rfl
  ·unfold g_weigh_Whole_b0
   simp only []
   rw [if_neg (by simp)]
theorem fb_step (h:Tapi_Hidden) (n:Nat) (seen:List Int) {T t:Nat} (ht:t+1 < T) :
  sumTo n (fun s=>fw h n seen t s*bw h n seen T t s)=sumTo n (fun s=>fw h n seen (t+1) s*bw h n seen T (t+1) s):=by
 have e1:sumTo n (fun s=>fw h n seen t s*bw h n seen T t s)=sumTo n fun s=>sumTo n fun r=>fw h n seen t s*(nat2 h.Step s r*shN h (seen.getD (t+1) 0) r*bw h n seen T (t+1) r) :=
  sumTo_congr fun s _=>by rw [bw_step h n seen ht,sumTo_mul]
 have e2:sumTo n (fun s=>fw h n seen (t+1) s*bw h n seen T (t+1) s)=sumTo n fun s=>sumTo n fun r=>fw h n seen t r*(nat2 h.Step r s*shN h (seen.getD (t+1) 0) s*bw h n seen T (t+1) s) :=
  sumTo_congr fun s _=>by
   simp only [fw]
   rw [Nat.mul_assoc,←sumTo_mulr]
   exact sumTo_congr fun r _=>by simp only [Nat.mul_assoc]
 rw [e1,e2,sumTo_comm]
theorem fb_total (h:Tapi_Hidden) (n:Nat) (seen:List Int) {T:Nat}:∀(d t:Nat),t+d+1=T→sumTo n (fun s=>fw h n seen t s*bw h n seen T t s)=sumTo n (fw h n seen (T - 1))
 | 0,t,e=>by
  have:t=T - 1:=by omega
  subst this
  exact sumTo_congr fun s _=>by rw [bw_last,Nat.mul_one]
 | d+1,t,e=>by
  rw [fb_step h n seen (by omega:t+1 < T),fb_total h n seen d (t+1) (by omega)]
theorem fw_zero (h:Tapi_Hidden) (n:Nat) (seen:List Int) {t:Nat} (h0:sumTo n (fw h n seen t)=0):sumTo n (fw h n seen (t+1))=0:=by
 refine sumTo_zero fun s hs=>?_
 simp only [fw]
 rw [sumTo_zero fun r hr=>by rw [show fw h n seen t r=0 by have:=sumTo_one (f:=fw h n seen t) hr; omega,Nat.zero_mul],Nat.zero_mul]
theorem fw_pos (h:Tapi_Hidden) (n:Nat) (seen:List Int):∀(d t:Nat),0 < sumTo n (fw h n seen (t+d))→0 < sumTo n (fw h n seen t)
 | 0,t,hp=>hp
 | d+1,t,hp=>fw_pos h n seen d t (by
  rcases Nat.eq_zero_or_pos (sumTo n (fw h n seen (t+d))) with e | e
  ·have:=fw_zero h n seen e; rw [show t+(d+1)=t+d+1 by omega] at hp; omega
  ·exact e)
section
variable {h:Tapi_Hidden} {g n k:Nat} (v:VH h g n k) {seen:List Int} {T:Nat} (w:VS k seen T) (hT:1≤T∧T≤8)
include v
include w hT
theorem VH.fw_mx {t:Nat} (ht:t < T):sumTo n (fw h n seen t)≤MX:=by
 have:=v.fw_sum seen t
 have:=pow12' (e:=2*(t+1)) v.g12 (by omega)
 have hMX:=mx_eq
 omega
theorem VH.last:lkI (tabI T n (fw h n seen)) (IntKind.i64.wrap (((tabI T n (fw h n seen)).length:Int) - 1))=some (rowI n (fw h n seen (T - 1))):=by
 rw [tabI_len,w64 (by omega),show ((T:Int) - 1)=((T - 1:Nat):Int) by omega,tabI_get (by omega)]
theorem VH.possible_eq:g_hidden_watcher_possible ⟨h,seen⟩=some (if sumTo n (fw h n seen (T - 1))=0 then ([],7) else (tabI T n (fw h n seen),0)):=by
 have hn4:=v.n4
 unfold g_hidden_watcher_possible
 rw [v.forward_eq w hT]
 simp only [Option.bind_some]
 rw [v.last w hT]
 simp only [Option.bind_some]
 rw [sum_row (by omega) (v.fw_mx w hT (by omega))]
 simp only [Option.bind_some]
 by_cases e:sumTo n (fw h n seen (T - 1))=0
 ·rw [if_pos (by rw [beq_iff_eq]; omega),if_pos e]
 ·rw [if_neg (by rw [beq_iff_eq]; omega),if_neg e]
theorem VH.all_eq:g_ref17_All h seen=some ((sumTo n (fw h n seen (T - 1)):Nat):Int):=by
 have hn4:=v.n4
 unfold g_ref17_All
 rw [v.rforward_eq w hT]
 simp only [Option.bind_some]
 rw [v.last w hT]
 simp only [Option.bind_some]
 rw [total_row (by omega) (v.fw_mx w hT (by omega))]
 rfl
theorem VH.g_mx:g^(2*T)≤MX∧0 < g^(2*T):=by
 have:=pow12' (e:=2*T) v.g12 (by omega)
 have hMX:=mx_eq
 exact ⟨by omega,Nat.pow_pos v.g1⟩
end
structure Valid (h:Tapi_Hidden) (seen:List Int) (g n k:Nat):Prop where
 v:VH h g n k
 w:VS k seen seen.length
 t1:1≤seen.length
 t8:seen.length≤8
 ok:OkH h
 e:errN h seen=0
section
variable {h:Tapi_Hidden} {seen:List Int} {g n k:Nat} (a:Valid h seen g n k)
include a
theorem Valid.watch:g_hidden_newWatcher h seen=some (⟨h,seen⟩,0):=by
 have:=a.t8
 rw [watcher_eq h seen a.ok (by omega),if_pos a.e,a.e]
theorem Valid.errs:g_ref17_Errors h seen=some 0:=by
 have:=a.t8
 rw [errors_eq h seen a.ok (by omega),a.e]
theorem Valid.prob:g_hidden_Prob h seen=some (qN (sumTo n (fw h n seen (seen.length - 1))) (g^(2*seen.length)),0):=by
 have hT:1≤seen.length∧seen.length≤8:=⟨a.t1,a.t8⟩
 have hn4:=a.v.n4
 unfold g_hidden_Prob
 rw [a.watch]
 simp only [Option.bind_some]
 rw [if_neg (by simp),a.v.forward_eq a.w hT]
 simp only [Option.bind_some]
 have hl:=a.v.last a.w hT
 rw [tabI_len] at hl
 rw [hl]
 simp only [Option.bind_some]
 rw [sum_row (by omega) (a.v.fw_mx a.w hT (by omega))]
 simp only [Option.bind_some]
 obtain ⟨m1,m2⟩:=a.v.g_mx a.w hT
 rw [a.v.grain,w64 (by omega),show (2*(seen.length:Int))=((2*seen.length:Nat):Int) by omega,whole_eq _ _ (by omega) m1]
 simp only [Option.bind_some]
 rw [ratio_eq _ _ (a.v.fw_mx a.w hT (by omega)) m1 m2]
 rfl
theorem Valid.rprob:g_ref17_Prob h seen=some (qN (sumTo n (fw h n seen (seen.length - 1))) (g^(2*seen.length)),0):=by
 have hT:1≤seen.length∧seen.length≤8:=⟨a.t1,a.t8⟩
 have hn4:=a.v.n4
 obtain ⟨m1,m2⟩:=a.v.g_mx a.w hT
 unfold g_ref17_Prob
 rw [a.errs]
 simp only [Option.bind_some]
 have hw:=whole_eq g (2*seen.length) (by omega) m1
 have hl:whileN fuel (g_ref17_Prob_b0 seen h) (1,0)=some ((g^(2*seen.length):Nat):Int):=by
  have e:g_ref17_Prob_b0 seen h=g_weigh_Whole_b0 ((2*seen.length:Nat):Int) (g:Int):=by
   funext s
   unfold g_ref17_Prob_b0 g_weigh_Whole_b0
   rw [w64 (by omega),a.v.grain,show (2*(seen.length:Int))=((2*seen.length:Nat):Int) by omega]
  rw [e]
  unfold g_weigh_Whole at hw
  simpa using hw
 rw [if_neg (by simp),hl]
 simp only [Option.bind_some]
 rw [a.v.all_eq a.w hT]
 simp only [Option.bind_some]
 rw [of_eq _ _ (a.v.fw_mx a.w hT (by omega)) m1 m2]
 rfl
def filN (h:Tapi_Hidden) (n:Nat) (seen:List Int):List (List Tapi_Q) × Int :=
 if sumTo n (fw h n seen (seen.length - 1))=0 then ([],7) else (rowG seen.length fun t=>shL n (fw h n seen t),0)
theorem Valid.filter:g_hidden_Filter h seen=some (filN h n seen):=by
 have hT:1≤seen.length∧seen.length≤8:=⟨a.t1,a.t8⟩
 have hn4:=a.v.n4
 unfold g_hidden_Filter filN
 rw [a.watch]
 simp only [Option.bind_some]
 rw [if_neg (by simp),a.v.possible_eq a.w hT]
 simp only [Option.bind_some]
 by_cases e:sumTo n (fw h n seen (seen.length - 1))=0
 ·rw [if_pos e,if_pos e,if_pos (by simp)]
 ·rw [if_neg e,if_neg e,if_neg (by simp)]
  rw [whileN_run (s0:=((0:Int),([]:List (List Tapi_Q)))) (fun j=>((j:Int),rowG j fun t=>shL n (fw h n seen t))) seen.length (rowG seen.length fun t=>shL n (fw h n seen t)) rfl ?_ ?_ (by omega)]
  ·rfl
  ·intro j hj
   unfold g_hidden_Filter_b0
   simp only [tabI_len]
   rw [if_pos (by rw [decide_eq_true_eq]; omega),tabI_get hj]
   simp only [Option.bind_some]
   have hp:=fw_pos h n seen (seen.length - 1 - j) j (by rw [show j+(seen.length - 1 - j)=seen.length - 1 by omega]; omega)
   rw [divide_row (by omega) hp (a.v.fw_mx a.w hT hj)]
   simp only [Option.bind_some]
   rw [rowG_succ (F:=fun t=>shL n (fw h n seen t)),if_pos (by rw [rowG_len]; omega),w64 (by omega)]
   rfl
  ·unfold g_hidden_Filter_b0
   simp only [tabI_len]
   rw [if_neg (by simp)]
theorem Valid.rfilter:g_ref17_Filter h seen=some (filN h n seen):=by
 have hT:1≤seen.length∧seen.length≤8:=⟨a.t1,a.t8⟩
 have hn4:=a.v.n4
 unfold g_ref17_Filter filN
 rw [a.errs]
 simp only [Option.bind_some]
 rw [if_neg (by simp),a.v.all_eq a.w hT]
 simp only [Option.bind_some]
 by_cases e:sumTo n (fw h n seen (seen.length - 1))=0
 ·rw [if_pos e,if_pos (by rw [beq_iff_eq]; omega)]
 ·rw [if_neg e,if_neg (by rw [beq_iff_eq]; omega),a.v.rforward_eq a.w hT]
  simp only [Option.bind_some]
  rw [whileN_run (s0:=((0:Int),([]:List (List Tapi_Q)))) (fun j=>((j:Int),rowG j fun t=>shL n (fw h n seen t))) seen.length (rowG seen.length fun t=>shL n (fw h n seen t)) rfl ?_ ?_ (by omega)]
  ·rfl
  ·intro j hj
   unfold g_ref17_Filter_b0
   simp only []
   rw [if_pos (by rw [decide_eq_true_eq]; omega),tabI_get hj]
   simp only [Option.bind_some]
   have hp:=fw_pos h n seen (seen.length - 1 - j) j (by rw [show j+(seen.length - 1 - j)=seen.length - 1 by omega]; omega)
   rw [shared_row (by omega) hp (a.v.fw_mx a.w hT hj)]
   simp only [Option.bind_some]
   rw [rowG_succ (F:=fun t=>shL n (fw h n seen t)),if_pos (by rw [rowG_len]; omega),w64 (by omega)]
   rfl
  ·unfold g_ref17_Filter_b0
   simp only []
   rw [if_neg (by simp)]
end
end Go.Ab
namespace Go.Ab
open Go
set_option maxRecDepth 100000
def smoN (h:Tapi_Hidden) (n:Nat) (seen:List Int):List (List Tapi_Q) × Int :=
 if sumTo n (fw h n seen (seen.length - 1))=0 then ([],7) else (rowG seen.length fun t=>shL n fun s=>fw h n seen t s*bw h n seen seen.length t s,0)
theorem smooth_b3:@g_hidden_Smooth_b3=fun x=>g_hidden_watcher_backward_b3 x.1:=by
 have e1:@g_hidden_Smooth_b1=fun a s t x=>g_hidden_watcher_backward_b1 a s t x.1:=rfl
 have e2:@g_hidden_Smooth_b2=fun x=>g_hidden_watcher_backward_b2 x.1:=by
  funext x s t
  unfold g_hidden_Smooth_b2 g_hidden_watcher_backward_b2
  rw [e1]
 funext x s
 unfold g_hidden_Smooth_b3 g_hidden_watcher_backward_b3
 rw [e2]
theorem smooth_b0:@g_hidden_Smooth_b0=fun x=>g_hidden_watcher_backward_b0 x.1:=rfl
section
variable {h:Tapi_Hidden} {seen:List Int} {g n k:Nat} (a:Valid h seen g n k)
include a
theorem Valid.back:(whileN fuel (g_hidden_watcher_backward_b0 ⟨h,seen⟩) (0,List.replicate (Int.toNat (seen.length:Int)) ([]:List Int))).bind (fun x=>whileN fuel (g_hidden_watcher_backward_b3 ⟨h,seen⟩) (IntKind.i64.wrap ((seen.length:Int) - 1),x))=some (tabI seen.length n (bw h n seen seen.length)):=by
 have h1:=a.v.backward_eq a.w ⟨a.t1,a.t8⟩
 have h8:=a.t8
 unfold g_hidden_watcher_backward at h1
 rw [if_pos (by simp only []; omega)] at h1
 simpa using h1
theorem Valid.fb_mx {t s:Nat} (ht:t < seen.length) (hs:s < n):fw h n seen t s*bw h n seen seen.length t s≤MX∧sumTo n (fun s=>fw h n seen t s*bw h n seen seen.length t s)=sumTo n (fw h n seen (seen.length - 1)):=by
 have hT:1≤seen.length∧seen.length≤8:=⟨a.t1,a.t8⟩
 have e:=fb_total h n seen (seen.length - 1 - t) t (T:=seen.length) (by omega)
 refine ⟨?_,e⟩
 have:=sumTo_one (f:=fun s=>fw h n seen t s*bw h n seen seen.length t s) hs
 rw [e] at this
 exact Nat.le_trans this (a.v.fw_mx a.w hT (by omega))
theorem Valid.smooth:g_hidden_Smooth h seen=some (smoN h n seen):=by
 have hT:1≤seen.length∧seen.length≤8:=⟨a.t1,a.t8⟩
 have hn4:=a.v.n4
 have hMX:=mx_eq
 unfold g_hidden_Smooth smoN
 rw [a.watch]
 simp only [Option.bind_some]
 rw [if_neg (by simp),a.v.possible_eq a.w hT]
 simp only [Option.bind_some]
 by_cases e:sumTo n (fw h n seen (seen.length - 1))=0
 ·rw [if_pos e,if_pos e,if_pos (by simp)]
 rw [if_neg e,if_neg e,if_neg (by simp),smooth_b0,smooth_b3]
 simp only []
 rw [if_pos (by omega)]
 obtain ⟨x,hx1,hx2⟩:=Option.bind_eq_some_iff.1 a.back
 rw [hx1]
 simp only [Option.bind_some]
 rw [hx2]
 simp only [Option.bind_some]
 rw [whileN_run (s0:=((0:Int),([]:List (List Tapi_Q)),tabI seen.length n (bw h n seen seen.length)))
  (fun j=>((j:Int),(rowG j fun t=>shL n fun s=>fw h n seen t s*bw h n seen seen.length t s),tabI seen.length n fun t s=>if t < j then fw h n seen t s*bw h n seen seen.length t s else bw h n seen seen.length t s)) seen.length
  (rowG seen.length fun t=>shL n fun s=>fw h n seen t s*bw h n seen seen.length t s) ?_ ?_ ?_ (by omega)]
 ·rfl
 ·refine Prod.ext rfl (Prod.ext rfl (tabI_congr fun t _ s _=>by simp))
 ·intro j hj
  unfold g_hidden_Smooth_b5
  simp only [tabI_len]
  rw [if_pos (by rw [decide_eq_true_eq]; omega),tabI_get hj]
  simp only [Option.bind_some]
  rw [whileN_run (s0:=((0:Int),tabI seen.length n fun t s=>if t < j then fw h n seen t s*bw h n seen seen.length t s else bw h n seen seen.length t s))
   (fun i=>((i:Int),tabI seen.length n fun t s=>if t < j∨t=j∧s < i then fw h n seen t s*bw h n seen seen.length t s else bw h n seen seen.length t s)) n
   (tabI seen.length n fun t s=>if t < j+1 then fw h n seen t s*bw h n seen seen.length t s else bw h n seen seen.length t s) ?_ ?_ ?_ (by omega)]
  ·simp only [Option.bind_some]
   rw [tabI_get hj]
   simp only [Option.bind_some]
   have hr:(rowI n fun s=>if j < j+1 then fw h n seen j s*bw h n seen seen.length j s else bw h n seen seen.length j s)=rowI n fun s=>fw h n seen j s*bw h n seen seen.length j s:=rowI_congr fun s _=>by rw [if_pos (by omega)]
   obtain ⟨_,hs⟩:=a.fb_mx hj (s:=0) (by have:=a.v.n1; omega)
   rw [if_pos (by rw [rowI_len,rowI_len]),hr,divide_row (by omega) (by rw [hs]; omega) (by rw [hs]; exact a.v.fw_mx a.w hT (by omega))]
   simp only [Option.bind_some]
   rw [rowG_succ (F:=fun t=>shL n fun s=>fw h n seen t s*bw h n seen seen.length t s),if_pos (by rw [rowG_len]; omega),w64 (by omega)]
   rfl
  ·refine Prod.ext rfl (tabI_congr fun t _ s _=>by simp)
  ·intro i hi
   unfold g_hidden_Smooth_b4
   simp only [rowI_len]
   rw [if_pos (by rw [decide_eq_true_eq]; omega),tabI_get hj]
   simp only [Option.bind_some]
   rw [rowI_get hi]
   simp only [Option.bind_some]
   rw [if_pos (by omega),tabI_get hj]
   simp only [Option.bind_some]
   rw [rowI_get hi]
   simp only [Option.bind_some]
   obtain ⟨hm,_⟩:=a.fb_mx hj hi
   rw [if_pos (by omega)]
   simp only [Nat.lt_irrefl,and_false,or_self,if_false,true_and,false_or]
   rw [←Int.natCast_mul,Nat.mul_comm (bw h n seen seen.length j i),w64 (by omega),w64 (by omega),nat_i,nat_i,rowI_set,tabI_set]
   congr 2
   refine Prod.ext (by simp only []; omega) (tabI_congr fun t _ s _=>?_)
   by_cases e1:t=j
   ·subst e1
    rw [if_pos rfl]
    by_cases e2:s=i
    ·subst e2; rw [if_pos rfl,if_pos (by omega)]
    ·rw [if_neg e2]
     by_cases e3:s < i
     ·rw [if_pos e3,if_pos (Or.inr ⟨rfl,by omega⟩)]
     ·rw [if_neg e3,if_neg (by omega)]
   ·rw [if_neg e1]
    by_cases e3:t < j
    ·rw [if_pos (by omega),if_pos (by omega)]
    ·rw [if_neg (by omega),if_neg (by omega)]
  ·unfold g_hidden_Smooth_b4
   simp only [rowI_len]
   rw [if_neg (by simp)]
   congr 2
   refine tabI_congr fun t _ s hs=>?_
   by_cases e3:t < j+1
   ·rw [if_pos (by omega),if_pos e3]
   ·rw [if_neg (by omega),if_neg e3]
 ·unfold g_hidden_Smooth_b5
  simp only [tabI_len]
  rw [if_neg (by simp)]
theorem Valid.rsmooth:g_ref17_Smooth h seen=some (smoN h n seen):=by
 have hT:1≤seen.length∧seen.length≤8:=⟨a.t1,a.t8⟩
 have hn4:=a.v.n4
 have hMX:=mx_eq
 unfold g_ref17_Smooth smoN
 rw [a.errs]
 simp only [Option.bind_some]
 rw [if_neg (by simp),a.v.all_eq a.w hT]
 simp only [Option.bind_some]
 by_cases e:sumTo n (fw h n seen (seen.length - 1))=0
 ·rw [if_pos e,if_pos (by rw [beq_iff_eq]; omega)]
 rw [if_neg e,if_neg (by rw [beq_iff_eq]; omega),a.v.rforward_eq a.w hT]
 simp only [Option.bind_some]
 rw [a.v.rbackward_eq a.w hT]
 simp only [Option.bind_some]
 rw [whileN_run (s0:=((0:Int),([]:List (List Tapi_Q)))) (fun j=>((j:Int),rowG j fun t=>shL n fun s=>fw h n seen t s*bw h n seen seen.length t s)) seen.length
  (rowG seen.length fun t=>shL n fun s=>fw h n seen t s*bw h n seen seen.length t s) rfl ?_ ?_ (by omega)]
 ·rfl
 ·intro j hj
  unfold g_ref17_Smooth_b1
  simp only []
  rw [if_pos (by rw [decide_eq_true_eq]; omega)]
  rw [whileN_run (s0:=((0:Int),([]:List Int))) (fun i=>((i:Int),rowI i fun s=>fw h n seen j s*bw h n seen seen.length j s)) n (rowI n fun s=>fw h n seen j s*bw h n seen seen.length j s) rfl ?_ ?_ (by omega)]
  ·simp only [Option.bind_some]
   obtain ⟨_,hs⟩:=a.fb_mx hj (s:=0) (by have:=a.v.n1; omega)
   rw [shared_row (by omega) (by rw [hs]; omega) (by rw [hs]; exact a.v.fw_mx a.w hT (by omega))]
   simp only [Option.bind_some]
   rw [rowG_succ (F:=fun t=>shL n fun s=>fw h n seen t s*bw h n seen seen.length t s),if_pos (by rw [rowG_len]; omega),w64 (by omega)]
   rfl
  ·intro i hi
   unfold g_ref17_Smooth_b0
   simp only [a.v.firstL]
   rw [if_pos (by rw [decide_eq_true_eq]; omega),tabI_get hj]
   simp only [Option.bind_some]
   rw [rowI_get hi]
   simp only [Option.bind_some]
   rw [tabI_get hj]
   simp only [Option.bind_some]
   rw [rowI_get hi]
   simp only [Option.bind_some]
   obtain ⟨hm,_⟩:=a.fb_mx hj hi
   rw [←Int.natCast_mul,w64 (n:=((fw h n seen j i*bw h n seen seen.length j i:Nat):Int)) (by omega)]
   have e2:=rowG_succ (n:=i) (F:=fun s=>((fw h n seen j s*bw h n seen seen.length j s:Nat):Int))
   rw [show (rowI i fun s=>fw h n seen j s*bw h n seen seen.length j s)=rowG i fun s=>((fw h n seen j s*bw h n seen seen.length j s:Nat):Int) from rfl,e2,if_pos (by rw [rowG_len]; omega),w64 (by omega)]
   rfl
  ·unfold g_ref17_Smooth_b0
   simp only [a.v.firstL]
   rw [if_neg (by simp)]
 ·unfold g_ref17_Smooth_b1
  simp only []
  rw [if_neg (by simp)]
end
theorem repeat_eq (p:Nat) (hp:p≤8):g_slices_Repeat_int_int [-1] (p:Int)=some (List.replicate p (-1)):=by
 rcases (by omega:p=0∨p=1∨p=2∨p=3∨p=4∨p=5∨p=6∨p=7∨p=8) with e | e | e | e | e | e | e | e | e <;> subst e <;> kernel_rfl
theorem concat2_eq (x y:List Int) (hx:x.length≤1000) (hy:y.length≤1000):g_slices_Concat_int_int [x,y]=some (x++y):=by
 have l1:lkI [x,y] 0=some x:=rfl
 have l2:lkI [x,y] 1=some y:=rfl
 unfold g_slices_Concat_int_int
 rw [whileN_run (s0:=((0:Int),(0:Int))) (fun j=>match j with | 0=>(0,0) | 1=>((x.length:Int),1) | _=>((x.length:Int)+(y.length:Int),2)) 2 ((x.length:Int)+(y.length:Int)) rfl ?_ ?_ (by omega)]
 ·simp only [Option.bind_some]
  rw [if_neg (by rw [decide_eq_true_eq]; omega)]
  have loop:∀b:(Int × List Int)→Option (Step (Int × List Int) (List Int)),(b=g_slices_Concat_int_int_b1 [x,y]∨b=g_slices_Concat_int_int_b2 [x,y])→whileN fuel b (0,([]:List Int))=some (x++y):=by
   intro b hb
   have hb:b=g_slices_Concat_int_int_b1 [x,y]:=by rcases hb with hb | hb <;> exact hb
   subst hb
   rw [whileN_run (s0:=((0:Int),([]:List Int))) (fun j=>match j with | 0=>(0,[]) | 1=>(1,x) | _=>(2,x++y)) 2 (x++y) rfl ?_ ?_ (by omega)]
   ·intro j hj
    rcases (by omega:j=0∨j=1) with e | e <;> subst e
    ·unfold g_slices_Concat_int_int_b1
     simp only []
     rw [if_pos (by simp),l1]
     simp only [Option.bind_some]
     rw [if_pos (by simp; omega),w64 (by omega)]; rfl
    ·unfold g_slices_Concat_int_int_b1
     simp only []
     rw [if_pos (by simp),l2]
     simp only [Option.bind_some]
     rw [if_pos (by simp; omega),w64 (by omega)]; rfl
   ·unfold g_slices_Concat_int_int_b1
    simp only []
    rw [if_neg (by simp)]
  by_cases e:(x.length:Int)+(y.length:Int)=0
  ·rw [if_neg (by rw [decide_eq_true_eq,w64 (by omega)]; omega),loop _ (.inr rfl)]; rfl
  ·rw [if_pos (by rw [decide_eq_true_eq,w64 (by omega)]; omega),if_pos (by rw [w64 (by omega)]; omega),if_pos (by simp; omega),loop _ (.inl rfl)]; rfl
 ·intro j hj
  rcases (by omega:j=0∨j=1) with e | e <;> subst e
  ·unfold g_slices_Concat_int_int_b0
   simp only []
   rw [if_pos (by simp),l1]
   simp only [Option.bind_some]
   rw [w64 (n:=0+(x.length:Int)) (by omega),if_neg (by rw [decide_eq_true_eq]; omega),w64 (by omega)]; simp
  ·unfold g_slices_Concat_int_int_b0
   simp only []
   rw [if_pos (by simp),l2]
   simp only [Option.bind_some]
   rw [w64 (n:=(x.length:Int)+(y.length:Int)) (by omega),if_neg (by rw [decide_eq_true_eq]; omega),w64 (by omega)]; simp
 ·unfold g_slices_Concat_int_int_b0
  simp only []
  rw [if_neg (by simp)]
theorem fw_congr (h:Tapi_Hidden) (n:Nat) {s1 s2:List Int}:∀(t s:Nat),(∀u,u≤t→s1.getD u 0=s2.getD u 0)→fw h n s1 t s=fw h n s2 t s
 | 0,s,e=>by simp only [fw]; rw [e 0 (by omega)]
 | t+1,s,e=>by
  simp only [fw]
  rw [e (t+1) (by omega),sumTo_congr fun r _=>by rw [fw_congr h n t r fun u hu=>e u (by omega)]]
def more (seen:List Int) (p:Nat):List Int:=seen++List.replicate p (-1)
theorem more_len (seen:List Int) (p:Nat):(more seen p).length=seen.length+p:=by simp [more]
theorem more_get (seen:List Int) (p u:Nat) (hu:u < seen.length):(more seen p).getD u 0=seen.getD u 0:=by
 unfold more; simp [List.getD_eq_getElem?_getD,List.getElem?_append_left hu]
theorem more_un (seen:List Int) (p u:Nat) (hu:seen.length≤u) (h2:u < seen.length+p):(more seen p).getD u 0=-1:=by
 unfold more; simp only [List.getD_eq_getElem?_getD]; rw [List.getElem?_append_right hu,List.getElem?_replicate,if_pos (by omega)]; rfl
section
variable {h:Tapi_Hidden} {seen:List Int} {g n k:Nat} (a:Valid h seen g n k)
include a
theorem Valid.more {p:Nat} (hp:seen.length+p≤8):Valid h (more seen p) g n k:=by
 have hw:VS k (Go.Ab.more seen p) (Go.Ab.more seen p).length:=⟨rfl,fun x hx=>by
  unfold Go.Ab.more at hx
  rcases List.mem_append.1 hx with hx | hx
  ·exact a.w.all x hx
  ·obtain ⟨_,rfl⟩:=List.mem_replicate.1 hx; omega⟩
 have ht1:=a.t1
 refine ⟨a.v,hw,by rw [more_len]; omega,by rw [more_len]; omega,a.ok,?_⟩
 have e:=a.e
 unfold errN at e ⊢
 cases hr:rightB h with
 | false=>rw [hr] at e; simp at e
 | true =>
  rw [hr] at e
  obtain ⟨g',n',k',v',hk'⟩:=vh_of hr
  have hkk:k'=k:=by
   have h1:=a.v.show_row (s:=0) (by have:=a.v.n1; omega)
   obtain ⟨l,h1,h2,h3,h4⟩:=h1
   have hsl:=a.v.showL
   have hn1:=a.v.n1
   cases hs:h.Show with
   | nil=>rw [hs] at hsl; simp at hsl; omega
   | cons x L =>
    rw [hs] at hk' h4
    simp only [List.headD_cons] at hk'
    simp only [List.getD_cons_zero] at h4
    rw [←hk',h4,h2]
  subst hkk
  rw [if_pos rfl,if_pos]
  unfold seenB seesB
  rw [Bool.and_eq_true,Bool.and_eq_true,decide_eq_true_eq,decide_eq_true_eq,List.all_eq_true,more_len]
  refine ⟨fun x hx=>?_,by omega,by omega⟩
  have:=hw.all x hx
  rw [Bool.and_eq_true,decide_eq_true_eq,decide_eq_true_eq,hk']
  exact this
theorem Valid.fw_more (p:Nat):sumTo n (fw h n (Go.Ab.more seen p) (seen.length+p - 1))=sumTo n (fw h n seen (seen.length - 1))*g^(2*p):=by
 have t1:=a.t1
 have key:∀q,q≤p→sumTo n (fw h n (Go.Ab.more seen p) (seen.length - 1+q))=sumTo n (fw h n seen (seen.length - 1))*g^(2*q):=by
  intro q
  induction q with
  | zero =>
   intro _
   simp only [Nat.add_zero,Nat.mul_zero,Nat.pow_zero,Nat.mul_one]
   exact sumTo_congr fun s _=>fw_congr h n _ s fun u hu=>more_get seen p u (by omega)
  | succ q ih =>
   intro hq
   have e1:∀s,s < n→fw h n (Go.Ab.more seen p) (seen.length - 1+(q+1)) s=sumTo n (fun r=>fw h n (Go.Ab.more seen p) (seen.length - 1+q) r*nat2 h.Step r s)*g:=fun s _=>by
    rw [show seen.length - 1+(q+1)=seen.length - 1+q+1 by omega]
    simp only [fw]
    rw [more_un seen p _ (by omega) (by omega),show shN h (-1) s=g by unfold shN; rw [if_pos (by omega),a.v.grain]; simp]
   rw [sumTo_congr e1,sumTo_mulr,sumTo_comm,sumTo_congr (fun r hr=>by rw [sumTo_mul,a.v.step_sum hr]),sumTo_mulr,ih (by omega)]
   rw [show 2*(q+1)=2*q+1+1 by omega,Nat.pow_succ,Nat.pow_succ,Nat.mul_assoc,Nat.mul_assoc,Nat.mul_assoc]
 have:=key p (Nat.le_refl _)
 rw [show seen.length+p - 1=seen.length - 1+p by omega]; exact this
def preN (h:Tapi_Hidden) (n:Nat) (seen:List Int) (p:Nat):List Tapi_Q × Int :=
 if sumTo n (fw h n seen (seen.length - 1))=0 then ([],7) else (shL n (fw h n (Go.Ab.more seen p) (seen.length+p - 1)),0)
theorem Valid.more_zero {p:Nat}:sumTo n (fw h n (Go.Ab.more seen p) (seen.length+p - 1))=0↔sumTo n (fw h n seen (seen.length - 1))=0:=by
 rw [a.fw_more p]
 constructor
 ·intro e
  rcases Nat.mul_eq_zero.1 e with e | e
  ·exact e
  ·have:=Nat.pow_pos (n:=2*p) a.v.g1; omega
 ·intro e; rw [e,Nat.zero_mul]
theorem Valid.predict {p:Nat} (hp:seen.length+p≤8):g_hidden_Predict h seen (p:Int)=some (preN h n seen p):=by
 have hT:1≤seen.length∧seen.length≤8:=⟨a.t1,a.t8⟩
 have b:=a.more hp
 have hn4:=a.v.n4
 have hlen:=more_len seen p
 unfold g_hidden_Predict preN
 rw [a.watch]
 simp only [Option.bind_some]
 rw [if_neg (by simp),if_neg (by rw [decide_eq_true_eq]; omega),if_neg (by rw [decide_eq_true_eq,w64 (by omega)]; omega),repeat_eq p (by omega)]
 simp only [Option.bind_some]
 rw [concat2_eq _ _ (by omega) (by simp; omega)]
 simp only [Option.bind_some]
 rw [show seen++List.replicate p (-1)=Go.Ab.more seen p from rfl,b.v.possible_eq b.w ⟨b.t1,b.t8⟩]
 simp only [Option.bind_some]
 rw [hlen]
 by_cases e:sumTo n (fw h n seen (seen.length - 1))=0
 ·rw [if_pos e,if_pos (a.more_zero.2 e),if_pos (by simp)]
 ·have e':=fun c=>e ((a.more_zero (p:=p)).1 c)
  rw [if_neg e,if_neg e',if_neg (by simp)]
  have hl:=b.v.last b.w ⟨b.t1,b.t8⟩
  rw [hlen] at hl
  simp only []
  rw [hl]
  simp only [Option.bind_some]
  rw [divide_row (by omega) (Nat.pos_of_ne_zero e') (b.v.fw_mx b.w ⟨b.t1,b.t8⟩ (by omega))]
  rfl
theorem Valid.rpredict {p:Nat} (hp:seen.length+p≤8):g_ref17_Predict h seen (p:Int)=some (preN h n seen p):=by
 have hT:1≤seen.length∧seen.length≤8:=⟨a.t1,a.t8⟩
 have b:=a.more hp
 have hn4:=a.v.n4
 have hlen:=more_len seen p
 unfold g_ref17_Predict preN
 rw [a.errs]
 simp only [Option.bind_some]
 rw [if_neg (by simp),if_neg (by rw [decide_eq_true_eq]; omega),if_neg (by rw [decide_eq_true_eq,w64 (by omega)]; omega),a.v.all_eq a.w hT]
 simp only [Option.bind_some]
 by_cases e:sumTo n (fw h n seen (seen.length - 1))=0
 ·rw [if_pos e,if_pos (by rw [beq_iff_eq]; omega)]
 ·have e':=fun c=>e ((a.more_zero (p:=p)).1 c)
  rw [if_neg e,if_neg (by rw [beq_iff_eq]; omega),if_pos (by omega)]
  rw [whileN_run (s0:=((0:Int),seen)) (fun j=>((j:Int),Go.Ab.more seen j)) p (Go.Ab.more seen p) (by simp [Go.Ab.more]) ?_ ?_ (by omega)]
  ·simp only [Option.bind_some]
   rw [b.v.rforward_eq b.w ⟨b.t1,b.t8⟩]
   simp only [Option.bind_some]
   have hl:=b.v.last b.w ⟨b.t1,b.t8⟩
   rw [hlen] at hl ⊢
   rw [hl]
   simp only [Option.bind_some]
   rw [shared_row (by omega) (Nat.pos_of_ne_zero e') (b.v.fw_mx b.w ⟨b.t1,b.t8⟩ (by omega))]
   rfl
  ·intro j hj
   unfold g_ref17_Predict_b0
   simp only []
   rw [if_pos (by rw [decide_eq_true_eq]; omega),if_pos (by simp [Go.Ab.more]; omega),w64 (by omega)]
   congr 2
   refine Prod.ext (by simp only []; omega) ?_
   show Go.Ab.more seen j++[-1]=Go.Ab.more seen (j+1)
   unfold Go.Ab.more
   rw [List.replicate_succ',List.append_assoc]
  ·unfold g_ref17_Predict_b0
   simp only []
   rw [if_neg (by simp)]
end
end Go.Ab
namespace Go.Ab
open Go
set_option maxRecDepth 100000
theorem sameQ_refl (l:List Tapi_Q) (hl:l.length≤100000):g_ref17_SameQ l l=some true:=by
 unfold g_ref17_SameQ
 rw [if_neg (by simp)]
 rw [whileN_run (s0:=(0:Int)) (fun i=>(i:Int)) l.length (Sum.inr ()) rfl (fun i hi=>by
  unfold g_ref17_SameQ_b0
  rw [if_pos (by rw [decide_eq_true_eq]; omega),lkI_nat hi]
  simp only [Option.bind_some]
  rw [if_neg (by simp),w64 (by omega)]; rfl) (by
  unfold g_ref17_SameQ_b0
  rw [if_neg (by simp)]) (by omega)]
 rfl
theorem sameQs_refl (L:List (List Tapi_Q)) (hL:L.length≤100000) (hl:∀l∈L,l.length≤100000):g_ref17_SameQs L L=some true:=by
 unfold g_ref17_SameQs
 rw [if_neg (by simp)]
 rw [whileN_run (s0:=(0:Int)) (fun i=>(i:Int)) L.length (Sum.inr ()) rfl (fun i hi=>by
  unfold g_ref17_SameQs_b0
  rw [if_pos (by rw [decide_eq_true_eq]; omega),lkI_nat hi]
  simp only [Option.bind_some]
  rw [sameQ_refl _ (hl _ (List.getElem_mem hi))]
  simp only [Option.bind_some]
  rw [if_neg (by simp),w64 (by omega)]; rfl) (by
  unfold g_ref17_SameQs_b0
  rw [if_neg (by simp)]) (by omega)]
 rfl
theorem errN_valid {h:Tapi_Hidden} {seen:List Int} (ok:OkH h) (e:errN h seen=0):∃g n k,Valid h seen g n k:=by
 obtain ⟨g,n,k,v,w,h1,h2⟩:=errN_ok e
 exact ⟨g,n,k,v,w,h1,h2,ok,e⟩
section
variable {h:Tapi_Hidden} {seen:List Int} (ok:OkH h) (hl:seen.length≤1000) (e:errN h seen≠0)
include ok hl e
theorem err_watch:g_hidden_newWatcher h seen=some (⟨⟨0,[],[],[]⟩,[]⟩,errN h seen):=by
 rw [watcher_eq h seen ok (by omega),if_neg e]
theorem err_errs:g_ref17_Errors h seen=some (errN h seen):=errors_eq h seen ok (by omega)
theorem err_prob:g_hidden_Prob h seen=some (⟨0,0⟩,errN h seen)∧g_ref17_Prob h seen=some (⟨0,0⟩,errN h seen):=by
 unfold g_hidden_Prob g_ref17_Prob
 rw [err_watch ok hl e,err_errs ok hl e]
 simp only [Option.bind_some]
 rw [if_pos (by simpa using e),if_pos (by simpa using e)]
 exact ⟨rfl,rfl⟩
theorem err_filter:g_hidden_Filter h seen=some ([],errN h seen)∧g_ref17_Filter h seen=some ([],errN h seen):=by
 unfold g_hidden_Filter g_ref17_Filter
 rw [err_watch ok hl e,err_errs ok hl e]
 simp only [Option.bind_some]
 rw [if_pos (by simpa using e),if_pos (by simpa using e)]
 exact ⟨rfl,rfl⟩
theorem err_smooth:g_hidden_Smooth h seen=some ([],errN h seen)∧g_ref17_Smooth h seen=some ([],errN h seen):=by
 unfold g_hidden_Smooth g_ref17_Smooth
 rw [err_watch ok hl e,err_errs ok hl e]
 simp only [Option.bind_some]
 rw [if_pos (by simpa using e),if_pos (by simpa using e)]
 exact ⟨rfl,rfl⟩
theorem err_predict (p:Int):g_hidden_Predict h seen p=some ([],errN h seen)∧g_ref17_Predict h seen p=some ([],errN h seen):=by
 unfold g_hidden_Predict g_ref17_Predict
 rw [err_watch ok hl e,err_errs ok hl e]
 simp only [Option.bind_some]
 rw [if_pos (by simpa using e),if_pos (by simpa using e)]
 exact ⟨rfl,rfl⟩
end
section
variable {h:Tapi_Hidden} {seen:List Int} (ok:OkH h) (hl:seen.length≤1000)
include ok hl
theorem prob_same:∃x,g_hidden_Prob h seen=some x∧g_ref17_Prob h seen=some x:=by
 by_cases e:errN h seen=0
 ·obtain ⟨g,n,k,a⟩:=errN_valid ok e
  exact ⟨_,a.prob,a.rprob⟩
 ·exact ⟨_,err_prob ok hl e⟩
theorem filter_same:∃x,g_hidden_Filter h seen=some x∧g_ref17_Filter h seen=some x∧g_ref17_SameQs x.1 x.1=some true:=by
 by_cases e:errN h seen=0
 ·obtain ⟨g,n,k,a⟩:=errN_valid ok e
  refine ⟨_,a.filter,a.rfilter,?_⟩
  have:=a.t8; have:=a.v.n4
  refine sameQs_refl _ ?_ (fun l hl=>?_)
  ·unfold filN; split
   ·simp
   ·simp only [rowG_len]; omega
  ·unfold filN at hl; split at hl
   ·simp at hl
   ·obtain ⟨t,_,rfl⟩:=List.mem_map.1 hl
    unfold shL; rw [rowG_len]; omega
 ·exact ⟨_,(err_filter ok hl e).1,(err_filter ok hl e).2,rfl⟩
theorem smooth_same:∃x,g_hidden_Smooth h seen=some x∧g_ref17_Smooth h seen=some x∧g_ref17_SameQs x.1 x.1=some true:=by
 by_cases e:errN h seen=0
 ·obtain ⟨g,n,k,a⟩:=errN_valid ok e
  refine ⟨_,a.smooth,a.rsmooth,?_⟩
  have:=a.t8; have:=a.v.n4
  refine sameQs_refl _ ?_ (fun l hl=>?_)
  ·unfold smoN; split
   ·simp
   ·simp only [rowG_len]; omega
  ·unfold smoN at hl; split at hl
   ·simp at hl
   ·obtain ⟨t,_,rfl⟩:=List.mem_map.1 hl
    unfold shL; rw [rowG_len]; omega
 ·exact ⟨_,(err_smooth ok hl e).1,(err_smooth ok hl e).2,rfl⟩
theorem predict_same (p:Int):∃x,g_hidden_Predict h seen p=some x∧g_ref17_Predict h seen p=some x∧g_ref17_SameQ x.1 x.1=some true:=by
 by_cases e:errN h seen=0
 ·obtain ⟨g,n,k,a⟩:=errN_valid ok e
  have t1:=a.t1; have t8:=a.t8; have n4:=a.v.n4
  by_cases p0:p < 0
  ·refine ⟨([],2),?_,?_,rfl⟩
   ·unfold g_hidden_Predict
    rw [a.watch]
    simp only [Option.bind_some]
    rw [if_neg (by simp),if_pos (by rw [decide_eq_true_eq]; omega)]
   ·unfold g_ref17_Predict
    rw [a.errs]
    simp only [Option.bind_some]
    rw [if_neg (by simp),if_pos (by rw [decide_eq_true_eq]; omega)]
  ·by_cases p8:p > 8 - (seen.length:Int)
   ·refine ⟨([],2),?_,?_,rfl⟩
    ·unfold g_hidden_Predict
     rw [a.watch]
     simp only [Option.bind_some]
     rw [if_neg (by simp),if_neg (by rw [decide_eq_true_eq]; omega),if_pos (by rw [decide_eq_true_eq,w64 (by omega)]; omega)]
    ·unfold g_ref17_Predict
     rw [a.errs]
     simp only [Option.bind_some]
     rw [if_neg (by simp),if_neg (by rw [decide_eq_true_eq]; omega),if_pos (by rw [decide_eq_true_eq,w64 (by omega)]; omega)]
   ·have ep:p=(p.toNat : Int):=by omega
    have e1:=a.predict (p:=p.toNat) (by omega)
    have e2:=a.rpredict (p:=p.toNat) (by omega)
    rw [←ep] at e1 e2
    refine ⟨_,e1,e2,sameQ_refl _ ?_⟩
    unfold preN; split
    ·simp
    ·unfold shL; simp only [rowG_len]; omega
 ·exact ⟨_,(err_predict ok hl e p).1,(err_predict ok hl e p).2,rfl⟩
end
theorem knows_b0 (x p3:List Int) (h:Tapi_Hidden) (ok:OkH h) (hx:x.length≤8) (j:Nat) (hj:j < 2):g_law17_HiddenKnows_b0 x p3 h (j:Int)=some (.next ((j+1:Nat):Int)):=by
 unfold g_law17_HiddenKnows_b0
 have s3:=sub_lim p3 10
 rw [show ((10:Nat):Int)=10 from rfl] at s3
 rw [if_pos (by rw [decide_eq_true_eq]; omega),s3,lkI_nat (by simpa using hj)]
 simp only [Option.bind_some]
 have hlen:([x,p3.take 10]:List (List Int))[j].length≤10:=by
  match j,hj with
  | 0,_=>show x.length≤10; omega
  | 1,_=>show (p3.take 10).length≤10; simp; omega
 generalize ([x,p3.take 10]:List (List Int))[j]=seen at *
 have hl:seen.length≤1000:=by omega
 obtain ⟨a,a1,a2⟩:=prob_same ok hl
 obtain ⟨b,b1,b2,b3⟩:=filter_same ok hl
 obtain ⟨c,c1,c2,c3⟩:=smooth_same ok hl
 rw [a1]; simp only [Option.bind_some]
 rw [a2]; simp only [Option.bind_some]
 rw [b1]; simp only [Option.bind_some]
 rw [b2]; simp only [Option.bind_some]
 rw [c1]; simp only [Option.bind_some]
 rw [c2]; simp only [Option.bind_some]
 rw [if_neg (by simp),if_neg (by simp),if_neg (by simp),if_neg (by simp),b3]; simp only [Option.bind_some]
 rw [if_neg (by simp),c3]; simp only [Option.bind_some]
 rw [if_neg (by simp),w64 (by omega)]; rfl
theorem three {body:Int→Option (Step Int (Unit ⊕ Unit))} (a b c:Tapi_Hidden) (fa:FewH a) (fb:FewH b) (fc:FewH c)
  (step:∀(h:Tapi_Hidden) (j:Nat),j < 3→FewH h→lkI [a,b,c] (j:Int)=some h→body (j:Int)=some (.next ((j+1:Nat):Int))) (done:body 3=some (.done (Sum.inr ()))) :
  whileN fuel body 0=some (Sum.inr ()):=by
 refine whileN_run (fun j=>(j:Int)) 3 (Sum.inr ()) rfl (fun j hj=>?_) done (by omega)
 match j,hj with
 | 0,_=>exact step a 0 (by omega) fa rfl
 | 1,_=>exact step b 1 (by omega) fb rfl
 | 2,_=>exact step c 2 (by omega) fc rfl
theorem predicts_true (p0:Tharuspexref17_Draft) (p1:Tharuspexref17_Bend) (p2:Tapi_Hidden) (p3:List Int) (p4:Int) (h0:okTharuspexref17_Draft p0) (h1:okTharuspexref17_Bend p1) (h2:okTapi_Hidden p2) (h3:p3.length≤maxLen∧∀y0∈p3,(Lit.int .i64 y0).wf=true) (h4:(Lit.int .i64 p4).wf=true):g_law17_HiddenPredicts p0 p1 p2 p3 p4=some true:=by
 unfold g_law17_HiddenPredicts
 rw [wakes_true]
 simp only [Option.bind_some]
 rw [if_neg (by simp)]
 obtain ⟨a,b,c,g,n,k,e,e1,v,hk,fa,fb,fc⟩:=chains_ok p0 p1 p2 h0 h1
 obtain ⟨x,ex,x1,x8,xs⟩:=what_ok p0 h0 hk
 have l3:=lim_ok p3 10
 rw [show ((10:Nat):Int)=10 from rfl] at l3
 rw [e]
 simp only [Option.bind_some]
 rw [three a b c fa fb fc (fun h j hj hf hg=>?_) (by unfold g_law17_HiddenPredicts_b2; rfl)]
 ·rfl
 ·unfold g_law17_HiddenPredicts_b2
  rw [if_pos (by rw [decide_eq_true_eq]; omega),hg]
  simp only [Option.bind_some]
  rw [ex]; simp only [Option.bind_some]
  rw [if_pos l3]
  rw [whileN_run (s0:=(0:Int)) (fun j=>(j:Int)) 2 (Sum.inr ()) rfl (fun i hi=>?_) (by unfold g_law17_HiddenPredicts_b1; rfl) (by omega)]
  ·simp only [Option.bind_some]
   rw [w64 (by omega)]; rfl
  ·unfold g_law17_HiddenPredicts_b1
   have s3:=sub_lim p3 10
   rw [show ((10:Nat):Int)=10 from rfl] at s3
   rw [if_pos (by rw [decide_eq_true_eq]; omega),s3,lkI_nat (by simpa using hi)]
   simp only [Option.bind_some]
   have hlen:([x,p3.take 10]:List (List Int))[i].length≤10:=by
    match i,hi with
    | 0,_=>show x.length≤10; omega
    | 1,_=>show (p3.take 10).length≤10; simp; omega
   generalize ([x,p3.take 10]:List (List Int))[i]=seen at *
   rw [whileN_run (s0:=(0:Int)) (fun j=>(j:Int)) 4 (Sum.inr ()) rfl (fun q hq=>?_) (by unfold g_law17_HiddenPredicts_b0; rfl) (by omega)]
   ·simp only [Option.bind_some]
    rw [w64 (by omega)]; rfl
   ·unfold g_law17_HiddenPredicts_b0
    rw [if_pos (by rw [decide_eq_true_eq]; omega),lkI_nat (by simpa using hq)]
    simp only [Option.bind_some]
    obtain ⟨y,y1,y2,y3⟩:=predict_same hf.ok (seen:=seen) (by omega) (([p4,Int.tmod p4 9,(if (-1) < p4 then (-1) else p4),(if 9 > p4 then 9 else p4)]:(List Int))[q])
    rw [y1]; simp only [Option.bind_some]
    rw [y2]; simp only [Option.bind_some]
    rw [if_neg (by simp),y3]; simp only [Option.bind_some]
    rw [if_neg (by simp),w64 (by omega)]; rfl
end Go.Ab
namespace Go.Ab
open Go
set_option maxRecDepth 100000
theorem VH.head {h:Tapi_Hidden} {g n k:Nat} (v:VH h g n k):(h.Show.headD []).length=k:=by
 have h1:=v.showL; have h2:=v.n1
 cases hs:h.Show with
 | nil=>rw [hs] at h1; simp at h1; omega
 | cons x L=>exact (v.shows x (by rw [hs]; simp)).1
theorem VH.right {h:Tapi_Hidden} {g n k:Nat} (v:VH h g n k):rightB h=true:=by
 have h0:=v.head
 have h1:=v.firstL; have h2:=v.stepL; have h3:=v.showL; have h4:=v.grain; have h5:=v.g1; have h6:=v.g12; have h7:=v.n1; have h8:=v.n4; have h9:=v.k1; have h10:=v.k4
 unfold rightB
 simp only [Bool.and_eq_true,decide_eq_true_eq,beq_iff_eq,List.all_eq_true,rowB_iff]
 refine ⟨by omega,by omega,by omega,by omega,by omega,by omega,by omega,by rw [h4]; exact v.first,⟨by omega,fun l hl=>?_⟩,by omega,fun l hl=>?_⟩
 ·obtain ⟨a,b⟩:=v.step l hl; exact ⟨by omega,by rw [h4]; exact b⟩
 ·obtain ⟨a,b⟩:=v.shows l hl; exact ⟨by omega,by rw [h4]; exact b⟩
end Go.Ab
namespace Go.Ab
open Go
set_option maxRecDepth 100000
end Go.Ab
