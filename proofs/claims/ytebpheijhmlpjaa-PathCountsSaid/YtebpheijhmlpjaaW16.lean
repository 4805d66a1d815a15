/- What functions compute. No conditions. -/
import Derived.Test.YtebpheijhmlpjaaW15
set_option linter.all false
namespace Go.Ab
open Go
set_option maxRecDepth 100000
section
variable {h:Tapi_Hidden} {g n k:Nat} (v:VH h g n k) {seen:List Int} {T:Nat} (w:VS k seen T) (hT:1≤T∧T≤8)
include v w hT
theorem VH.cnt_sum (e0:Int) {t s:Nat} (ht:t+1 < T) (hs:s < n) (s9 tbl:List (List Int)) (hrow:lkI tbl ((t+2:Nat):Int)=some (rowI n (cw h n seen T (t+1)))) :
  whileN fuel (g_path_Count_b2 (⟨h,seen⟩,e0) (((t+1:Nat):Int),s9) ((s:Int),tbl)) (0,0)=some ((cw h n seen T t s:Nat):Int):=by
 have hn4:=v.n4
 have htot:=cw_step h n seen ht s
 have lim:∀j,j≤n→sumTo j (fun r=>if nat2 h.Step s r*shN h (seen.getD (t+1) 0) r=0 then 0 else cw h n seen T (t+1) r)≤65536:=fun j hj=>by
  refine Nat.le_trans (sumTo_mono hj) ?_
  rw [←htot]; exact cw_le h hn4 seen hT.2 s
 refine whileN_run (fun j=>(((sumTo j (fun r=>if nat2 h.Step s r*shN h (seen.getD (t+1) 0) r=0 then 0 else cw h n seen T (t+1) r):Nat):Int),(j:Int))) n _ ?_ ?_ ?_ (by omega)
 ·simp [sumTo]
 ·intro j hj
  unfold g_path_Count_b2
  simp only [v.firstL]
  rw [if_pos (by rw [decide_eq_true_eq]; omega),v.intoS w ht hs hj]
  simp only [Option.bind_some]
  rw [show IntKind.i64.wrap (((t+1:Nat):Int)+1)=((t+2:Nat):Int) by rw [w64 (by omega)]; omega,hrow]
  simp only [Option.bind_some]
  rw [rowI_get hj]
  simp only [Option.bind_some]
  unfold g_path_Count_1 g_path_add
  have l1:=lim (j+1) hj
  simp only [sumTo] at l1 ⊢
  by_cases c:nat2 h.Step s j*shN h (seen.getD (t+1) 0) j=0
  ·rw [if_pos c] at l1 ⊢
   rw [if_pos (by rw [c]; rfl)]
   simp only [Option.bind_some]
   rw [w64 (by omega),w64 (by omega)]
   simp
  ·rw [if_neg c] at l1 ⊢
   rw [if_neg (by intro x; exact c (Int.ofNat.inj (eq_of_beq x)))]
   simp only [Option.bind_some]
   rw [←Int.natCast_add,w64 (by omega),w64 (by omega)]
   rfl
 ·unfold g_path_Count_b2
  simp only [v.firstL]
  rw [if_neg (by simp),←htot]
theorem VH.cnt_row (e0:Int) {t:Nat} (ht:t+1 < T) (L s9:List (List Int)) (hL:L.length≤1000) (h0:L[t+1]?=some []) (h1:L[t+2]?=some (rowI n (cw h n seen T (t+1)))) :
  whileN fuel (g_path_Count_b3 (⟨h,seen⟩,e0) (((t+1:Nat):Int),s9)) (0,L)=some (L.set (t+1) (rowI n (cw h n seen T t))):=by
 have hn4:=v.n4
 have hl1:t+1 < L.length:=(List.getElem?_eq_some_iff.1 h0).1
 refine whileN_run (fun j=>((j:Int),L.set (t+1) (rowI j (cw h n seen T t)))) n _ ?_ ?_ ?_ (by omega)
 ·refine Prod.ext rfl ?_
  refine List.ext_getElem? fun i=>?_
  rw [List.getElem?_set]
  by_cases e:t+1=i
  ·subst e; rw [if_pos rfl,if_pos hl1,h0]; rfl
  ·rw [if_neg e]
 ·intro j hj
  unfold g_path_Count_b3
  simp only [v.firstL]
  rw [if_pos (by rw [decide_eq_true_eq]; omega),v.cnt_sum w hT e0 ht hj s9 _ (lkI_q (by rw [List.getElem?_set,if_neg (by omega)]; exact h1))]
  simp only [Option.bind_some]
  rw [lkI_q (x:=rowI j (cw h n seen T t)) (by rw [List.getElem?_set,if_pos rfl,if_pos hl1])]
  simp only [Option.bind_some]
  rw [if_pos (by rw [List.length_append,List.length_singleton,rowI_len]; omega),w64 (by omega),nat_i,List.set_set,List.set_set,←rowI_succ]
  rfl
 ·unfold g_path_Count_b3
  simp only [v.firstL]
  rw [if_neg (by simp)]
end
end Go.Ab
namespace Go.Ab
open Go
set_option maxRecDepth 100000
def cntN (h:Tapi_Hidden) (n:Nat) (seen:List Int) (T:Nat):Nat := sumTo n (fun s=>if nat1 h.First s*shN h (seen.getD 0 0) s=0 then 0 else cw h n seen T 0 s)
section
variable {h:Tapi_Hidden} {g n k:Nat} (v:VH h g n k) {seen:List Int} {T:Nat} (w:VS k seen T) (hT:1≤T∧T≤8)
include v w hT
theorem VH.cnt_sum0 (e0:Int) (s9 tbl:List (List Int)) (hrow:lkI tbl (1:Int)=some (rowI n (cw h n seen T 0))) :
  whileN fuel (g_path_Count_b0 (⟨h,seen⟩,e0) (0,s9) (0,tbl)) (0,0)=some ((cntN h n seen T:Nat):Int):=by
 have hn4:=v.n4
 have lim:∀j,j≤n→sumTo j (fun s=>if nat1 h.First s*shN h (seen.getD 0 0) s=0 then 0 else cw h n seen T 0 s)≤4*65536:=fun j hj=>by
  refine Nat.le_trans (sumTo_lim (c:=65536) fun k _=>?_) (Nat.mul_le_mul_right _ (by omega))
  split
  ·omega
  ·exact cw_le h hn4 seen hT.2 k
 refine whileN_run (fun j=>(((sumTo j (fun s=>if nat1 h.First s*shN h (seen.getD 0 0) s=0 then 0 else cw h n seen T 0 s):Nat):Int),(j:Int))) n _ ?_ ?_ ?_ (by omega)
 ·simp [sumTo]
 ·intro j hj
  unfold g_path_Count_b0
  simp only [v.firstL]
  rw [if_pos (by rw [decide_eq_true_eq]; omega),v.into0 w (by omega) hj]
  simp only [Option.bind_some]
  rw [show IntKind.i64.wrap ((0:Int)+1)=1 from rfl,hrow]
  simp only [Option.bind_some]
  rw [rowI_get hj]
  simp only [Option.bind_some]
  unfold g_path_Count_1 g_path_add
  have l1:=lim (j+1) hj
  simp only [sumTo] at l1 ⊢
  by_cases c:nat1 h.First j*shN h (seen.getD 0 0) j=0
  ·rw [if_pos c] at l1 ⊢
   rw [if_pos (by rw [c]; rfl)]
   simp only [Option.bind_some]
   rw [w64 (by omega),w64 (by omega)]
   simp
  ·rw [if_neg c] at l1 ⊢
   rw [if_neg (by intro x; exact c (Int.ofNat.inj (eq_of_beq x)))]
   simp only [Option.bind_some]
   rw [←Int.natCast_add,w64 (by omega),w64 (by omega)]
   rfl
 ·unfold g_path_Count_b0
  simp only [v.firstL]
  rw [if_neg (by simp)]
  rfl
def tabC (h:Tapi_Hidden) (n:Nat) (seen:List Int) (T m:Nat):List (List Int):=(List.range (T+1)).map fun j=>if j < m then [] else if j=0 then [((cntN h n seen T:Nat):Int)] else rowI n (cw h n seen T (j - 1))
omit v w hT in
theorem tabC_at {m i:Nat} (hi:i≤T):(tabC h n seen T m)[i]?=some (if i < m then [] else if i=0 then [((cntN h n seen T:Nat):Int)] else rowI n (cw h n seen T (i - 1))):=by
 unfold tabC
 rw [List.getElem?_map,List.getElem?_range (by omega)]
 rfl
omit v w hT in
theorem tabC_set {i:Nat} (hi:i≤T):(tabC h n seen T (i+1)).set i (if i=0 then [((cntN h n seen T:Nat):Int)] else rowI n (cw h n seen T (i - 1)))=tabC h n seen T i:=by
 refine List.ext_getElem? fun j=>?_
 rw [List.getElem?_set]
 by_cases hj:j≤T
 ·rw [tabC_at hj,tabC_at hj]
  by_cases e:i=j
  ·subst e; rw [if_pos rfl,if_pos (by unfold tabC; simp; omega)]; simp
  ·rw [if_neg e]
   by_cases c:j < i
   ·rw [if_pos (by omega),if_pos c]
   ·rw [if_neg (by omega),if_neg c]
 ·rw [if_neg (by omega),List.getElem?_eq_none (by unfold tabC; simp; omega),List.getElem?_eq_none (by unfold tabC; simp; omega)]
theorem VH.cnt_row0 (e0:Int) (L s9:List (List Int)) (h0:L[0]?=some []) (h1:L[1]?=some (rowI n (cw h n seen T 0))) :
  whileN fuel (g_path_Count_b1 (⟨h,seen⟩,e0) (0,s9)) (0,L)=some (L.set 0 [((cntN h n seen T:Nat):Int)]):=by
 have hl1:0 < L.length:=(List.getElem?_eq_some_iff.1 h0).1
 refine whileN_run (fun j=>((j:Int),if j=0 then L else L.set 0 [((cntN h n seen T:Nat):Int)])) 1 _ rfl ?_ ?_ (by omega)
 ·intro j hj
  obtain rfl:j=0:=by omega
  unfold g_path_Count_b1
  simp only [if_true]
  rw [if_pos (by simp),show ((0:Nat):Int)=0 from rfl,v.cnt_sum0 w hT e0 s9 L (lkI_q (i:=1) h1)]
  simp only [Option.bind_some]
  rw [show lkI L 0=some [] from lkI_q (i:=0) h0]
  simp only [Option.bind_some]
  rw [if_pos (by simp),show Int.toNat 0=0 from rfl,List.set_set]
  rfl
 ·unfold g_path_Count_b1
  rw [if_neg (by simp)]
  rfl
theorem VH.cnt_loop (e0:Int):whileN fuel (g_path_Count_b4 (⟨h,seen⟩,e0)) (((T - 1:Nat):Int),tabC h n seen T T)=some (tabC h n seen T 0):=by
 refine whileN_run (fun c=>((T:Int) - 1 - (c:Int),tabC h n seen T (T - c))) T _ ?_ ?_ ?_ (by omega)
 ·refine Prod.ext ?_ rfl
  simp only []; omega
 ·intro c hc
  unfold g_path_Count_b4
  simp only []
  obtain ⟨i,hi⟩:∃i,T - c=i+1:=⟨T - c - 1,by omega⟩
  rw [show (T:Int) - 1 - (c:Int)=(i:Int) by omega,hi,show T - (c+1)=i by omega,show (T:Int) - 1 - ((c+1:Nat):Int)=(i:Int) - 1 by omega]
  rw [if_pos (by rw [decide_eq_true_eq]; omega)]
  by_cases e:i=0
  ·subst e
   rw [if_pos (by simp),show ((0:Nat):Int)=0 from rfl,v.cnt_row0 w hT e0 (tabC h n seen T (0+1)) _ (by rw [tabC_at (by omega),if_pos (by omega)]) (by rw [tabC_at (by omega),if_neg (by omega),if_neg (by omega)])]
   simp only [Option.bind_some]
   have:=tabC_set (h:=h) (n:=n) (seen:=seen) (i:=0) (T:=T) (by omega)
   rw [if_pos rfl] at this
   rw [this]; rfl
  ·obtain ⟨t,rfl⟩:∃t,i=t+1:=⟨i - 1,by omega⟩
   rw [if_neg (by simp; omega),v.cnt_row w hT e0 (t:=t) (by omega) (tabC h n seen T (t+1+1)) _ (by unfold tabC; simp; omega) (by rw [tabC_at (by omega),if_pos (by omega)]) (by rw [tabC_at (by omega),if_neg (by omega),if_neg (by omega)]; rfl)]
   simp only [Option.bind_some]
   have:=tabC_set (h:=h) (n:=n) (seen:=seen) (i:=t+1) (T:=T) (by omega)
   rw [if_neg (by omega),Nat.add_sub_cancel] at this
   rw [this,w64 (by omega)]
 ·unfold g_path_Count_b4
  simp only []
  rw [if_neg (by simp; omega),Nat.sub_self]
omit v w hT in
theorem tabC_top (h1:1≤T):(List.replicate (T+1) ([]:List Int)).set T (List.replicate n 1)=tabC h n seen T T:=by
 refine List.ext_getElem? fun j=>?_
 rw [List.getElem?_set]
 by_cases hj:j≤T
 ·rw [tabC_at hj]
  by_cases e:T=j
  ·subst e
   rw [if_pos rfl,if_pos (by simp),if_neg (by omega),if_neg (by omega)]
   congr 1
   refine List.ext_getElem? fun i=>?_
   unfold rowI
   rw [List.getElem?_replicate,List.getElem?_map]
   by_cases c:i < n
   ·rw [if_pos c,List.getElem?_range c]; simp [cw_last]
   ·rw [if_neg c,List.getElem?_eq_none (by simpa using c)]; rfl
  ·rw [if_neg e,List.getElem?_replicate,if_pos (by omega),if_pos (by omega)]
 ·rw [if_neg (by omega),List.getElem?_eq_none (by simp; omega),List.getElem?_eq_none (by unfold tabC; simp; omega)]
theorem VH.count_eq (ok:OkH h) (e:errN h seen=0) (hs:seen.length≤8):g_path_Count h seen=some (((cntN h n seen T:Nat):Int),0):=by
 unfold g_path_Count
 rw [searcher_eq h seen ok (by omega),if_pos e,e]
 have hl:=w.len
 have e1:IntKind.i64.wrap ((T:Int)+1)=((T+1:Nat):Int):=by rw [w64 (by omega)]; rfl
 have e2:IntKind.i64.wrap ((T:Int) - 1)=((T - 1:Nat):Int):=by rw [w64 (by omega)]; omega
 simp only [Option.bind_some,hl,e1,e2,v.firstL,nat_i]
 rw [if_neg (by simp),if_pos (by omega),repeat1_eq n v.n4]
 simp only [Option.bind_some]
 rw [lkI_q (i:=T) (x:=[]) (by rw [List.getElem?_replicate,if_pos (by omega)])]
 simp only [Option.bind_some]
 rw [tabC_top (h:=h) (seen:=seen) hT.1,v.cnt_loop w hT 0]
 simp only [Option.bind_some]
 rw [show lkI (tabC h n seen T 0) 0=some [((cntN h n seen T:Nat):Int)] from lkI_q (i:=0) (by rw [tabC_at (by omega),if_neg (by omega),if_pos rfl])]
 rfl
end
end Go.Ab
namespace Go.Ab
open Go
set_option maxRecDepth 100000
section
variable {h:Tapi_Hidden} {g n k:Nat} (v:VH h g n k) {seen:List Int} {T:Nat} (w:VS k seen T) (hT:1≤T∧T≤8)
include v w hT
theorem VH.seen_get {t:Nat} (ht:t < T):lkI seen (t:Int)=some (seen.getD t 0)∧(-1≤seen.getD t 0∧seen.getD t 0 < (k:Int)):=by
 have hl:t < seen.length:=by rw [w.len]; exact ht
 have hd:seen.getD t 0=seen[t]:=by simp [List.getD_eq_getElem?_getD,List.getElem?_eq_getElem hl]
 rw [hd]
 exact ⟨lkI_nat hl,w.all _ (List.getElem_mem hl)⟩
theorem VH.rcount_loop {t:Nat} (ht:t < T) (last:Int) (wt f:Nat → Nat) (rc:(Tapi_Hidden × List Int × Int × Int)→Option Int)
  (hlast:(last=-1∧∀s,wt s=nat1 h.First s*shN h (seen.getD t 0) s)∨∃r:Nat,last=(r:Int)∧r < n∧∀s,wt s=nat2 h.Step r s*shN h (seen.getD t 0) s)
  (hrc:∀s:Nat,s < n→rc (h,seen,((t+1:Nat):Int),(s:Int))=some ((f s:Nat):Int)) (hf:∀s,s < n→f s≤65536) :
  whileN fuel (g_ref18_count_b0 h last seen (t:Int) rc) (0,0)=some ((sumTo n (fun s=>if wt s=0 then 0 else f s):Nat):Int):=by
 have hn4:=v.n4
 obtain ⟨e1,e2⟩:=v.seen_get w hT ht
 have lim:∀j,j≤n→sumTo j (fun s=>if wt s=0 then 0 else f s)≤4*65536:=fun j hj=>by
  refine Nat.le_trans (sumTo_lim (c:=65536) fun k hk=>?_) (Nat.mul_le_mul_right _ (by omega))
  split
  ·omega
  ·exact hf k (by omega)
 refine whileN_run (fun j=>(((sumTo j (fun s=>if wt s=0 then 0 else f s):Nat):Int),(j:Int))) n _ ?_ ?_ ?_ (by omega)
 ·simp [sumTo]
 ·intro j hj
  have l1:=lim (j+1) hj
  unfold g_ref18_count_b0
  simp only [v.firstL]
  rw [if_pos (by rw [decide_eq_true_eq]; omega),v.first_get hj]
  simp only [Option.bind_some]
  have hsh:=Nat.le_trans (v.sh_le (seen.getD t 0) hj) v.g12
  have wc:IntKind.i64.wrap ((t:Int)+1)=((t+1:Nat):Int):=by rw [w64 (by omega)]; rfl
  simp only [sumTo] at l1 ⊢
  rcases hlast with ⟨rfl,hw⟩ | ⟨r,rfl,hr,hw⟩
  ·rw [if_neg (by simp),e1]
   simp only [Option.bind_some]
   rw [v.shows_eq e2 hj]
   simp only [Option.bind_some]
   have hb:=Nat.mul_le_mul (Nat.le_trans (v.first_le hj) v.g12) hsh
   rw [←Int.natCast_mul,←hw j] at *
   rw [w64 (n:=((wt j:Nat):Int)) (by omega)]
   by_cases c:wt j=0
   ·rw [if_pos c] at l1 ⊢
    rw [if_neg (by rw [decide_eq_true_eq]; omega),w64 (by omega)]
    rfl
   ·rw [if_neg c] at l1 ⊢
    rw [if_pos (by rw [decide_eq_true_eq]; omega),wc,hrc j hj]
    simp only [Option.bind_some]
    rw [←Int.natCast_add,w64 (by omega),w64 (by omega)]
    rfl
  ·rw [if_pos (by rw [decide_eq_true_eq]; omega)]
   obtain ⟨l,h1,h2⟩:=v.step_get hr hj
   rw [h1]; simp only [Option.bind_some]
   rw [h2]; simp only [Option.bind_some]
   rw [e1]; simp only [Option.bind_some]
   rw [v.shows_eq e2 hj]
   simp only [Option.bind_some]
   have hb:=Nat.mul_le_mul (Nat.le_trans (v.step_le hr hj) v.g12) hsh
   rw [←Int.natCast_mul,←hw j] at *
   rw [w64 (n:=((wt j:Nat):Int)) (by omega)]
   by_cases c:wt j=0
   ·rw [if_pos c] at l1 ⊢
    rw [if_neg (by rw [decide_eq_true_eq]; omega),w64 (by omega)]
    rfl
   ·rw [if_neg c] at l1 ⊢
    rw [if_pos (by rw [decide_eq_true_eq]; omega),wc,hrc j hj]
    simp only [Option.bind_some]
    rw [←Int.natCast_add,w64 (by omega),w64 (by omega)]
    rfl
 ·unfold g_ref18_count_b0
  simp only [v.firstL]
  rw [if_neg (by simp)]
end
end Go.Ab
namespace Go.Ab
open Go
set_option maxRecDepth 100000
section
variable {h:Tapi_Hidden} {g n k:Nat} (v:VH h g n k) {seen:List Int} {T:Nat} (w:VS k seen T) (hT:1≤T∧T≤8)
include v w hT
theorem VH.rcount_eq:g_ref18_count h seen 0 (-1)=some ((cntN h n seen T:Nat):Int):=by
 have hn4:=v.n4
 have hl:=w.len
 have key:=recN_spec (F:=g_ref18_count_F)
  (fun s=>∃(t:Nat) (last:Int),s=(h,seen,(t:Int),last)∧((t=0∧last=-1)∨(1≤t∧t≤T∧∃r:Nat,last=(r:Int)∧r < n)))
  (fun s=>T - s.2.2.1.toNat)
  (fun s x=>x=(((if s.2.2.1=0 then cntN h n seen T else cw h n seen T (s.2.2.1.toNat - 1) s.2.2.2.toNat):Nat):Int)) ?_ fuel (h,seen,0,-1) ⟨0,-1,rfl,.inl ⟨rfl,rfl⟩⟩ (by show T - 0 < fuel; unfold fuel; omega)
 ·obtain ⟨x,e1,e2⟩:=key
  unfold g_ref18_count
  rw [e1,e2]; rfl
 ·rintro d s ⟨t,last,rfl,hs⟩ ih
  unfold g_ref18_count_F
  simp only [hl]
  by_cases c:t=T
  ·rw [if_pos (by rw [c]; simp)]
   rcases hs with ⟨h1,_⟩ | ⟨h1,h2,r,rfl,hr⟩
   ·omega
   ·refine ⟨_,rfl,?_⟩
    rw [if_neg (by omega),nat_i,nat_i,c,cw_last]; rfl
  ·rw [if_neg (by simp; omega)]
   have ht:t < T:=by rcases hs with ⟨h1,_⟩ | ⟨h1,h2,_⟩ <;> omega
   have hrc:∀s:Nat,s < n→d (h,seen,((t+1:Nat):Int),(s:Int))=some ((cw h n seen T t s:Nat):Int):=fun s hs'=>by
    obtain ⟨x,e1,e2⟩:=ih (h,seen,((t+1:Nat):Int),(s:Int)) ⟨t+1,s,rfl,.inr ⟨by omega,by omega,s,rfl,hs'⟩⟩ (by simp only [nat_i]; omega)
    rw [e1,e2]
    simp only [nat_i]
    rw [if_neg (by omega),Nat.add_sub_cancel]
   rcases hs with ⟨rfl,rfl⟩ | ⟨h1,h2,r,rfl,hr⟩
   ·have:=v.rcount_loop w hT ht (-1) (fun s=>nat1 h.First s*shN h (seen.getD 0 0) s) (cw h n seen T 0) d (.inl ⟨rfl,fun _=>rfl⟩) hrc (fun s _=>cw_le h hn4 seen hT.2 s)
    rw [this]
    exact ⟨_,rfl,rfl⟩
   ·have:=v.rcount_loop w hT ht (r:Int) (fun s=>nat2 h.Step r s*shN h (seen.getD t 0) s) (cw h n seen T t) d (.inr ⟨r,rfl,hr,fun _=>rfl⟩) hrc (fun s _=>cw_le h hn4 seen hT.2 s)
    rw [this]
    refine ⟨_,rfl,?_⟩
    obtain ⟨t',rfl⟩:∃t',t=t'+1:=⟨t - 1,by omega⟩
    rw [if_neg (by omega),nat_i,nat_i,Nat.add_sub_cancel,cw_step h n seen ht]
end
theorem counts_same (h:Tapi_Hidden) (seen:List Int) (ok:OkH h) (hl:seen.length≤281474976710656):∃x,g_path_Count h seen=some x∧g_ref18_Count h seen=some x:=by
 by_cases e:errN h seen=0
 ·obtain ⟨g,n,k,v,w,hT⟩:=errN_ok e
  refine ⟨_,v.count_eq w hT ok e hT.2,?_⟩
  unfold g_ref18_Count
  rw [errors_eq h seen ok hl,e]
  simp only [Option.bind_some]
  rw [if_neg (by simp),v.rcount_eq w hT]
  rfl
 ·refine ⟨(0,errN h seen),?_,?_⟩
  ·unfold g_path_Count
   rw [searcher_eq h seen ok hl]
   simp only [Option.bind_some]
   rw [if_pos (by simpa using e)]
  ·unfold g_ref18_Count
   rw [errors_eq h seen ok hl]
   simp only [Option.bind_some]
   rw [if_pos (by simpa using e)]
end Go.Ab
namespace Go.Ab
open Go
set_option maxRecDepth 100000
def MX:Nat := 4611686018427387903
theorem mx_eq:MX=4611686018427387903:=rfl
theorem total_row {n:Nat} {f:Nat → Nat} (hn:n≤1000) (hb:sumTo n f≤MX):g_ref17_Total (rowI n f)=some ((sumTo n f:Nat):Int):=by
 have hMX:=mx_eq
 unfold g_ref17_Total
 rw [whileN_run (s0:=((0:Int),(0:Int))) (fun j=>(((sumTo j f:Nat):Int),(j:Int))) n ((sumTo n f:Nat):Int) rfl ?_ ?_ (by omega)]
 ·rfl
 ·intro j hj
  unfold g_ref17_Total_b0
  simp only [rowI_len]
  rw [if_pos (by rw [decide_eq_true_eq]; omega),rowI_get hj]
  simp only [Option.bind_some]
  have:=sumTo_mono (f:=f) (show j+1≤n by omega)
  simp only [sumTo] at this
  rw [←Int.natCast_add,w64 (by omega),w64 (by omega)]
  rfl
 ·unfold g_ref17_Total_b0
  simp only [rowI_len]
  rw [if_neg (by simp)]
theorem fb_step (h:Tapi_Hidden) (n:Nat) (seen:List Int) {T t:Nat} (ht:t+1 < T) :
  sumTo n (fun s=>fw h n seen t s*bw h n seen T t s)=sumTo n (fun s=>fw h n seen (t+1) s*bw h n seen T (t+1) s):=by
 have e1:sumTo n (fun s=>fw h n seen t s*bw h n seen T t s)=sumTo n fun s=>sumTo n fun r=>fw h n seen t s*(nat2 h.Step s r*shN h (seen.getD (t+1) 0) r*bw h n seen T (t+1) r) :=
  sumTo_congr fun s _=>by rw [bw_step h n seen ht,sumTo_mul]
 have e2:sumTo n (fun s=>fw h n seen (t+1) s*bw h n seen T (t+1) s)=sumTo n fun s=>sumTo n fun r=>fw h n seen t r*(nat2 h.Step r s*shN h (seen.getD (t+1) 0) s*bw h n seen T (t+1) s) :=
  sumTo_congr fun s _=>by
   simp only [fw]
   rw [Nat.mul_assoc,←sumTo_mulr]
   exact sumTo_congr fun r _=>by simp only [Nat.mul_assoc]
 rw [e1,e2,sumTo_comm]
theorem fb_total (h:Tapi_Hidden) (n:Nat) (seen:List Int) {T:Nat}:∀(d t:Nat),t+d+1=T→sumTo n (fun s=>fw h n seen t s*bw h n seen T t s)=sumTo n (fw h n seen (T - 1))
 | 0,t,e=>by
  have:t=T - 1:=by omega
  subst this
  exact sumTo_congr fun s _=>by rw [bw_last,Nat.mul_one]
 | d+1,t,e=>by
  rw [fb_step h n seen (by omega:t+1 < T),fb_total h n seen d (t+1) (by omega)]
section
variable {h:Tapi_Hidden} {g n k:Nat} (v:VH h g n k) {seen:List Int} {T:Nat} (w:VS k seen T) (hT:1≤T∧T≤8)
include v
include w hT
theorem VH.fw_mx {t:Nat} (ht:t < T):sumTo n (fw h n seen t)≤MX:=by
 have:=v.fw_sum seen t
 have:=pow12' (e:=2*(t+1)) v.g12 (by omega)
 have hMX:=mx_eq
 omega
theorem VH.last:lkI (tabI T n (fw h n seen)) (IntKind.i64.wrap (((tabI T n (fw h n seen)).length:Int) - 1))=some (rowI n (fw h n seen (T - 1))):=by
 rw [tabI_len,w64 (by omega),show ((T:Int) - 1)=((T - 1:Nat):Int) by omega,tabI_get (by omega)]
theorem VH.all_eq:g_ref17_All h seen=some ((sumTo n (fw h n seen (T - 1)):Nat):Int):=by
 have hn4:=v.n4
 unfold g_ref17_All
 rw [v.rforward_eq w hT]
 simp only [Option.bind_some]
 rw [v.last w hT]
 simp only [Option.bind_some]
 rw [total_row (by omega) (v.fw_mx w hT (by omega))]
 rfl
end
structure Valid (h:Tapi_Hidden) (seen:List Int) (g n k:Nat):Prop where
 v:VH h g n k
 w:VS k seen seen.length
 t1:1≤seen.length
 t8:seen.length≤8
 ok:OkH h
 e:errN h seen=0
section
variable {h:Tapi_Hidden} {seen:List Int} {g n k:Nat} (a:Valid h seen g n k)
include a
theorem Valid.errs:g_ref17_Errors h seen=some 0:=by
 have:=a.t8
 rw [errors_eq h seen a.ok (by omega),a.e]
end
theorem errN_valid {h:Tapi_Hidden} {seen:List Int} (ok:OkH h) (e:errN h seen=0):∃g n k,Valid h seen g n k:=by
 obtain ⟨g,n,k,v,w,h1,h2⟩:=errN_ok e
 exact ⟨g,n,k,v,w,h1,h2,ok,e⟩
theorem VH.head {h:Tapi_Hidden} {g n k:Nat} (v:VH h g n k):(h.Show.headD []).length=k:=by
 have h1:=v.showL; have h2:=v.n1
 cases hs:h.Show with
 | nil=>rw [hs] at h1; simp at h1; omega
 | cons x L=>exact (v.shows x (by rw [hs]; simp)).1
theorem VH.right {h:Tapi_Hidden} {g n k:Nat} (v:VH h g n k):rightB h=true:=by
 have h0:=v.head
 have h1:=v.firstL; have h2:=v.stepL; have h3:=v.showL; have h4:=v.grain; have h5:=v.g1; have h6:=v.g12; have h7:=v.n1; have h8:=v.n4; have h9:=v.k1; have h10:=v.k4
 unfold rightB
 simp only [Bool.and_eq_true,decide_eq_true_eq,beq_iff_eq,List.all_eq_true,rowB_iff]
 refine ⟨by omega,by omega,by omega,by omega,by omega,by omega,by omega,by rw [h4]; exact v.first,⟨by omega,fun l hl=>?_⟩,by omega,fun l hl=>?_⟩
 ·obtain ⟨a,b⟩:=v.step l hl; exact ⟨by omega,by rw [h4]; exact b⟩
 ·obtain ⟨a,b⟩:=v.shows l hl; exact ⟨by omega,by rw [h4]; exact b⟩
end Go.Ab
namespace Go.Ab
open Go
set_option maxRecDepth 100000
def argm (f:Nat → Nat):Nat → Nat
 | 0=>0
 | j+1=>if f j > f (argm f j) then j else argm f j
theorem argm_lt (f:Nat → Nat):∀(n:Nat),0 < n→argm f n < n
 | 1,_=>by simp [argm]
 | n+2,_=>by
  have:=argm_lt f (n+1) (by omega)
  rw [argm]; split <;> omega
theorem tot_last (h:Tapi_Hidden) (n:Nat) (seen:List Int) {T:Nat} (hT:1≤T):totN h n seen T=sumTo n (fw h n seen (T - 1)):=by
 rw [←fb_total h n seen (T - 1) 0 (by omega)]
 unfold totN
 exact sumTo_congr fun s _=>by simp only [fw]
def staN (h:Tapi_Hidden) (n:Nat) (seen:List Int):List Int:=rowI seen.length fun t=>argm (fun s=>fw h n seen t s*bw h n seen seen.length t s) n
section
variable {h:Tapi_Hidden} {seen:List Int} {g n k:Nat} (a:Valid h seen g n k)
include a
theorem Valid.fb_mx {t s:Nat} (ht:t < seen.length) (hs:s < n):fw h n seen t s*bw h n seen seen.length t s≤MX:=by
 have hT:1≤seen.length∧seen.length≤8:=⟨a.t1,a.t8⟩
 have e:=fb_total h n seen (seen.length - 1 - t) t (T:=seen.length) (by omega)
 have:=sumTo_one (f:=fun s=>fw h n seen t s*bw h n seen seen.length t s) hs
 rw [e] at this
 exact Nat.le_trans this (a.v.fw_mx a.w hT (by omega))
theorem Valid.states (h0:sumTo n (fw h n seen (seen.length - 1))≠0):g_path_States h seen=some (staN h n seen,0):=by
 have hT:1≤seen.length∧seen.length≤8:=⟨a.t1,a.t8⟩
 have hn4:=a.v.n4
 have hMX:=mx_eq
 unfold g_path_States
 rw [searcher_eq h seen a.ok (by omega),if_pos a.e,a.e]
 simp only [Option.bind_some]
 rw [if_neg (by simp),a.v.total_eq a.w hT]
 simp only [Option.bind_some]
 rw [tot_last h n seen hT.1,if_neg (by rw [beq_iff_eq]; omega),a.v.forward_call a.w hT a.ok a.e]
 simp only [Option.bind_some]
 rw [if_neg (by simp),a.v.backward_call a.w hT a.ok a.e]
 simp only [Option.bind_some]
 rw [if_neg (by simp),if_pos (by omega),nat_i,rowI_zero]
 rw [whileN_run (fun j=>((j:Int),rowI seen.length fun t=>if t < j then argm (fun s=>fw h n seen t s*bw h n seen seen.length t s) n else 0)) seen.length (staN h n seen) ?_ ?_ ?_ (by omega)]
 ·rfl
 ·exact Prod.ext rfl (rowI_congr fun t _=>by rw [if_neg (by omega)])
 ·intro j hj
  unfold g_path_States_b1
  simp only [tabI_len]
  rw [if_pos (by rw [decide_eq_true_eq]; omega),tabI_get hj]
  simp only [Option.bind_some]
  rw [whileN_run (fun i=>((((if i=0 then 0 else fw h n seen j (argm (fun s=>fw h n seen j s*bw h n seen seen.length j s) i)*bw h n seen seen.length j (argm (fun s=>fw h n seen j s*bw h n seen seen.length j s) i)):Nat):Int),(i:Int),
   rowI seen.length fun t=>if t < j then argm (fun s=>fw h n seen t s*bw h n seen seen.length t s) n else if t=j then argm (fun s=>fw h n seen j s*bw h n seen seen.length j s) i else 0)) n
   (rowI seen.length fun t=>if t < j+1 then argm (fun s=>fw h n seen t s*bw h n seen seen.length t s) n else 0) ?_ ?_ ?_ (by omega)]
  ·simp only [Option.bind_some]
   rw [w64 (by omega)]; rfl
  ·refine Prod.ext rfl (Prod.ext rfl (rowI_congr fun t _=>?_))
   by_cases e1:t < j
   ·rw [if_pos e1,if_pos e1]
   ·rw [if_neg e1,if_neg e1]; simp [argm]
  ·intro i hi
   unfold g_path_States_b0
   simp only [rowI_len]
   rw [if_pos (by rw [decide_eq_true_eq]; omega),rowI_get hi]
   simp only [Option.bind_some]
   rw [tabI_get hj]
   simp only [Option.bind_some]
   rw [rowI_get hi]
   simp only [Option.bind_some]
   have hm:=a.fb_mx hj hi
   have e2:∀i',IntKind.i64.wrap (((i':Nat):Int)+1)=((i'+1:Nat):Int)∨1000 < i':=fun i'=>by
    rcases Nat.lt_or_ge 1000 i' with c | c
    ·exact .inr c
    ·left; rw [w64 (by omega)]; rfl
   rw [←Int.natCast_mul,w64 (n:=((fw h n seen j i*bw h n seen seen.length j i:Nat):Int)) (by omega),w64 (n:=(i:Int)+1) (by omega)]
   generalize hG:(fun s=>fw h n seen j s*bw h n seen seen.length j s)=G
   have hGi:∀s,fw h n seen j s*bw h n seen seen.length j s=G s:=fun s=>by rw [←hG]
   simp only [hGi]
   by_cases i0:i=0
   ·subst i0
    simp only [if_true,argm,Nat.lt_irrefl,if_false,gt_iff_lt]
    by_cases c:0 < G 0
    ·rw [if_pos (by rw [decide_eq_true_eq]; omega),lkI_nat (by rw [rowI_len]; exact hj)]
     simp only [Option.bind_some]
     congr 2
     refine Prod.ext rfl (Prod.ext rfl ?_)
     rw [nat_i,show ((0:Nat):Int)=((0:Nat):Int) from rfl,rowI_set]
     refine rowI_congr fun t _=>?_
     by_cases e1:t=j
     ·subst e1; simp
     ·rw [if_neg e1]
    ·rw [if_neg (by rw [decide_eq_true_eq]; omega)]
     congr 2
     refine Prod.ext ?_ (Prod.ext rfl rfl)
     simp; omega
   ·simp only [if_neg i0,Nat.add_one_ne_zero,if_false,argm]
    by_cases c:G i > G (argm G i)
    ·rw [if_pos (by rw [decide_eq_true_eq]; omega),lkI_nat (by rw [rowI_len]; exact hj)]
     simp only [Option.bind_some,if_pos c]
     congr 2
     refine Prod.ext rfl (Prod.ext rfl ?_)
     rw [nat_i,rowI_set]
     refine rowI_congr fun t _=>?_
     by_cases e1:t=j
     ·subst e1; simp
     ·rw [if_neg e1]; simp [e1]
    ·rw [if_neg (by rw [decide_eq_true_eq]; omega)]
     simp only [if_neg c]
     rfl
  ·unfold g_path_States_b0
   simp only [rowI_len]
   rw [if_neg (by simp)]
   congr 2
   refine rowI_congr fun t _=>?_
   by_cases e1:t < j
   ·rw [if_pos e1,if_pos (by omega)]
   ·rw [if_neg e1]
    by_cases e3:t=j
    ·subst e3; rw [if_pos rfl,if_pos (by omega)]
    ·rw [if_neg e3,if_neg (by omega)]
 ·unfold g_path_States_b1
  simp only [tabI_len]
  rw [if_neg (by simp)]
  congr 2
  unfold staN
  exact rowI_congr fun t ht=>by rw [if_pos ht]
theorem Valid.rstates (h0:sumTo n (fw h n seen (seen.length - 1))≠0):g_ref18_States h seen=some (staN h n seen,0):=by
 have hT:1≤seen.length∧seen.length≤8:=⟨a.t1,a.t8⟩
 have hn4:=a.v.n4
 have hn1:=a.v.n1
 have hMX:=mx_eq
 unfold g_ref18_States
 rw [a.errs]
 simp only [Option.bind_some]
 rw [if_neg (by simp),a.v.all_eq a.w hT]
 simp only [Option.bind_some]
 rw [if_neg (by rw [beq_iff_eq]; omega),a.v.rforward_eq a.w hT]
 simp only [Option.bind_some]
 rw [a.v.rbackward_eq a.w hT]
 simp only [Option.bind_some]
 rw [whileN_run (s0:=((0:Int),([]:List Int))) (fun j=>((j:Int),rowI j fun t=>argm (fun s=>fw h n seen t s*bw h n seen seen.length t s) n)) seen.length (staN h n seen) rfl ?_ ?_ (by omega)]
 ·rfl
 ·intro j hj
  unfold g_ref18_States_b1
  simp only []
  rw [if_pos (by rw [decide_eq_true_eq]; omega)]
  rw [whileN_run (s0:=((0:Int),(1:Int))) (fun i=>(((argm (fun s=>fw h n seen j s*bw h n seen seen.length j s) (i+1):Nat):Int),((i+1:Nat):Int))) (n - 1) ((argm (fun s=>fw h n seen j s*bw h n seen seen.length j s) n:Nat):Int) ?_ ?_ ?_ (by omega)]
  ·simp only [Option.bind_some]
   rw [if_pos (by rw [List.length_append,List.length_singleton,rowI_len]; omega),w64 (by omega),←rowI_succ]
   rfl
  ·simp [argm]
  ·intro i hi
   unfold g_ref18_States_b0
   simp only [a.v.firstL]
   have ha:=argm_lt (fun s=>fw h n seen j s*bw h n seen seen.length j s) (i+1) (by omega)
   rw [if_pos (by rw [decide_eq_true_eq]; omega),tabI_get hj]
   simp only [Option.bind_some]
   rw [rowI_get (by omega)]
   simp only [Option.bind_some]
   rw [tabI_get hj]
   simp only [Option.bind_some]
   rw [rowI_get (by omega)]
   simp only [Option.bind_some]
   rw [rowI_get (by omega)]
   simp only [Option.bind_some]
   rw [rowI_get (by omega)]
   simp only [Option.bind_some]
   have m1:=a.fb_mx hj (s:=i+1) (by omega)
   have m2:=a.fb_mx hj (s:=argm (fun s=>fw h n seen j s*bw h n seen seen.length j s) (i+1)) (by omega)
   generalize hG:(fun s=>fw h n seen j s*bw h n seen seen.length j s)=G at *
   have hGi:∀s,fw h n seen j s*bw h n seen seen.length j s=G s:=fun s=>by rw [←hG]
   rw [←Int.natCast_mul,←Int.natCast_mul]
   simp only [hGi] at m1 m2 ⊢
   rw [w64 (n:=((G (i+1):Nat):Int)) (by omega),w64 (n:=((G (argm G (i+1)):Nat):Int)) (by omega),w64 (by omega)]
   rw [show argm G (i+1+1)=if G (i+1) > G (argm G (i+1)) then i+1 else argm G (i+1) from rfl]
   by_cases c:G (i+1) > G (argm G (i+1))
   ·rw [if_pos (by rw [decide_eq_true_eq]; omega),if_pos c]; rfl
   ·rw [if_neg (by rw [decide_eq_true_eq]; omega),if_neg c]; rfl
  ·unfold g_ref18_States_b0
   simp only [a.v.firstL]
   rw [if_neg (by rw [decide_eq_true_eq]; omega),show n - 1+1=n by omega]
 ·unfold g_ref18_States_b1
  simp only []
  rw [if_neg (by simp)]
  rfl
theorem Valid.states0 (h0:sumTo n (fw h n seen (seen.length - 1))=0):g_path_States h seen=some ([],7)∧g_ref18_States h seen=some ([],7):=by
 have hT:1≤seen.length∧seen.length≤8:=⟨a.t1,a.t8⟩
 unfold g_path_States g_ref18_States
 rw [searcher_eq h seen a.ok (by omega),if_pos a.e,a.e,a.errs]
 simp only [Option.bind_some]
 rw [if_neg (by simp),if_neg (by simp),a.v.total_eq a.w hT,a.v.all_eq a.w hT]
 simp only [Option.bind_some]
 rw [tot_last h n seen hT.1,h0]
 exact ⟨rfl,rfl⟩
end
theorem states_same (h:Tapi_Hidden) (seen:List Int) (ok:OkH h) (hl:seen.length≤281474976710656):∃x,g_path_States h seen=some x∧g_ref18_States h seen=some x∧x.1.length≤8:=by
 by_cases e:errN h seen=0
 ·obtain ⟨g,n,k,a⟩:=errN_valid ok e
  by_cases h0:sumTo n (fw h n seen (seen.length - 1))=0
  ·exact ⟨_,(a.states0 h0).1,(a.states0 h0).2,by simp⟩
  ·exact ⟨_,a.states h0,a.rstates h0,by unfold staN; rw [rowI_len]; exact a.t8⟩
 ·refine ⟨([],errN h seen),?_,?_,by simp⟩
  ·unfold g_path_States
   rw [searcher_eq h seen ok hl]
   simp only [Option.bind_some]
   rw [if_pos (by simpa using e)]
  ·unfold g_ref18_States
   rw [errors_eq h seen ok hl]
   simp only [Option.bind_some]
   rw [if_pos (by simpa using e)]
end Go.Ab
namespace Go.Ab
open Go
set_option maxRecDepth 100000
theorem equalI_refl (l:List Int) (hl:l.length≤100000):g_slices_Equal_int_int l l=some true:=same_refl l hl
theorem counts_b0 (x p2:List Int) (h:Tapi_Hidden) (ok:OkH h) (hx:x.length≤8) (j:Nat) (hj:j < 2):g_law18_PathCounts_b0 x p2 h (j:Int)=some (.next ((j+1:Nat):Int)):=by
 unfold g_law18_PathCounts_b0
 have s3:=sub_lim p2 10
 rw [show ((10:Nat):Int)=10 from rfl] at s3
 rw [if_pos (by rw [decide_eq_true_eq]; omega),s3,lkI_nat (by simpa using hj)]
 simp only [Option.bind_some]
 have hlen:([x,p2.take 10]:List (List Int))[j].length≤10:=by
  match j,hj with
  | 0,_=>show x.length≤10; omega
  | 1,_=>show (p2.take 10).length≤10; simp; omega
 generalize ([x,p2.take 10]:List (List Int))[j]=seen at *
 obtain ⟨a,a1,a2⟩:=counts_same h seen ok (by omega)
 obtain ⟨b,b1,b2,b3⟩:=states_same h seen ok (by omega)
 rw [a1]; simp only [Option.bind_some]
 rw [a2]; simp only [Option.bind_some]
 rw [b1]; simp only [Option.bind_some]
 rw [b2]; simp only [Option.bind_some]
 rw [if_neg (by simp),if_neg (by simp),if_neg (by simp),equalI_refl _ (by omega)]
 simp only [Option.bind_some]
 rw [if_neg (by simp),w64 (by omega)]; rfl
theorem counts_true (p0:Tharuspexref17_Draft) (p1:Tharuspexref17_Bend) (p2:List Int) (h0:okTharuspexref17_Draft p0) (h1:okTharuspexref17_Bend p1) (h2:p2.length≤maxLen∧∀y0∈p2,(Lit.int .i64 y0).wf=true):g_law18_PathCounts p0 p1 p2=some true:=by
 unfold g_law18_PathCounts
 rw [wakes18_true]
 simp only [Option.bind_some]
 rw [if_neg (by simp)]
 obtain ⟨a,b,g,n,k,e,e1,v,hk,fa,fb⟩:=chains_ok p0 p1 h0 h1
 obtain ⟨x,ex,x1,x8,xs⟩:=what_ok p0 h0 hk
 have l3:=lim_ok p2 10
 rw [show ((10:Nat):Int)=10 from rfl] at l3
 rw [e]
 simp only [Option.bind_some]
 rw [whileN_run (s0:=(0:Int)) (fun j=>(j:Int)) 2 (Sum.inr ()) rfl (fun j hj=>?_) (by unfold g_law18_PathCounts_b1; rfl) (by omega)]
 ·rfl
 ·unfold g_law18_PathCounts_b1
  rw [if_pos (by rw [decide_eq_true_eq]; omega),lkI_nat (by simpa using hj)]
  simp only [Option.bind_some]
  have hf:FewH (([a,b]:List Tapi_Hidden)[j]'(by simpa using hj)):=by
   match j,hj with
   | 0,_=>exact fa
   | 1,_=>exact fb
  generalize (([a,b]:List Tapi_Hidden)[j]'(by simpa using hj))=h at *
  rw [ex]; simp only [Option.bind_some]
  rw [if_pos l3,whileN_run (s0:=(0:Int)) (fun j=>(j:Int)) 2 (Sum.inr ()) rfl (fun j hj=>counts_b0 x p2 h hf.ok x8 j hj) (by unfold g_law18_PathCounts_b0; rfl) (by omega)]
  simp only [Option.bind_some]
  rw [w64 (by omega)]; rfl
end Go.Ab
