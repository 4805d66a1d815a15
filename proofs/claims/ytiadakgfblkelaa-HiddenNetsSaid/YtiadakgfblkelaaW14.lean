/- What functions compute. No conditions. -/
import Derived.Test.YtiadakgfblkelaaW13
set_option linter.all false
namespace Go.Ab
open Go
set_option maxRecDepth 100000
theorem copy_rows {body:(Int × List (List Int))→Option (Step (Int × List (List Int)) (List (List Int)))} (L:List (List Int)) (hL:L.length≤1000)
  (step:∀i (hi:i < L.length) (out:List (List Int)),out.length=i→body ((i:Int),out)=some (.next (((i+1:Nat):Int),out++[L[i]]))) (done:∀out,body ((L.length:Int),out)=some (.done out)) :
  whileN fuel body (0,([]:List (List Int)))=some L:=by
 refine whileN_run (fun i=>((i:Int),L.take i)) L.length L (by simp) (fun i hi=>?_) ?_ (by omega)
 ·rw [step i hi _ (by simp; omega)]
  simp only [List.take_succ_eq_append_getElem hi]
 ·rw [done]; simp
structure FewH (h:Tapi_Hidden):Prop where
 first:h.First.length≤8
 step:h.Step.length≤8
 stepL:∀l∈h.Step,l.length≤8
 shows:h.Show.length≤8
 showsL:∀l∈h.Show,l.length≤8
theorem FewH.ok {h:Tapi_Hidden} (w:FewH h):OkH h :=
 ⟨Nat.le_trans w.first (by omega),Nat.le_trans w.step (by omega),fun l hl=>Nat.le_trans (w.stepL l hl) (by omega),Nat.le_trans w.shows (by omega),fun l hl=>Nat.le_trans (w.showsL l hl) (by omega)⟩
theorem VH.few {h:Tapi_Hidden} {g n k:Nat} (v:VH h g n k):FewH h:=by
 have:=v.n4; have:=v.k4
 exact ⟨by rw [v.firstL]; omega,by rw [v.stepL]; omega,fun l hl=>by rw [(v.step l hl).1]; omega,by rw [v.showL]; omega,fun l hl=>by rw [(v.shows l hl).1]; omega⟩
theorem mem_set_le {L:List (List Int)} {i:Nat} {r:List Int} (h:∀l∈L,l.length≤8) (hr:r.length≤8):∀l∈L.set i r,l.length≤8:=fun l hl=>by
 rcases List.mem_or_eq_of_mem_set hl with h1 | h1
 ·exact h l h1
 ·rw [h1]; exact hr
theorem bend_ok (b:Tharuspexref17_Bend) (hb:okTharuspexref17_Bend b) {h:Tapi_Hidden} {g n k:Nat} (v:VH h g n k):∃h',g_ref17_Bend_Of b h=some h'∧FewH h':=by
 obtain ⟨b1,b2,b3,b4⟩:=hb
 have b1:=wf_u8 b1; have b2:=wf_u8 b2; have b3:=wf_u8 b3
 have hn1:=v.n1; have hn4:=v.n4; have hk1:=v.k1; have hk4:=v.k4
 have f:=v.few
 have hfL:=v.firstL; have hsL:=v.stepL; have hwL:=v.showL
 unfold g_ref17_Bend_Of
 rw [copy_rows h.Step (by omega) (fun i hi out ho=>by
  unfold g_ref17_Bend_Of_b0
  simp only
  have:=f.stepL _ (List.getElem_mem hi)
  rw [if_pos (by rw [decide_eq_true_eq]; omega),lkI_nat hi]
  simp only [Option.bind_some]
  rw [if_pos (by omega),if_pos (by simp; omega),w64 (by omega)]; rfl) (fun out=>by
  unfold g_ref17_Bend_Of_b0
  simp only
  rw [if_neg (by simp)])]
 simp only [Option.bind_some]
 rw [copy_rows h.Show (by omega) (fun i hi out ho=>by
  unfold g_ref17_Bend_Of_b1
  simp only
  have:=f.showsL _ (List.getElem_mem hi)
  rw [if_pos (by rw [decide_eq_true_eq]; omega),lkI_nat hi]
  simp only [Option.bind_some]
  rw [if_pos (by omega),if_pos (by simp; omega),w64 (by omega)]; rfl) (fun out=>by
  unfold g_ref17_Bend_Of_b1
  simp only
  rw [if_neg (by simp)])]
 simp only [Option.bind_some]
 rw [if_pos (by omega),tmod_pos (by omega),w64 (n:=b.At) (by omega),w64 (n:=b.S) (by omega)]
 have a1:=Int.emod_nonneg b.At (b:=(h.First.length:Int)) (by omega)
 have a2:=Int.emod_lt_of_pos b.At (b:=(h.First.length:Int)) (by omega)
 have c1:=Int.emod_nonneg b.S (b:=(h.Step.length:Int)) (by omega)
 have c2:=Int.emod_lt_of_pos b.S (b:=(h.Step.length:Int)) (by omega)
 have d1:=Int.emod_nonneg b.S (b:=(h.Show.length:Int)) (by omega)
 have d2:=Int.emod_lt_of_pos b.S (b:=(h.Show.length:Int)) (by omega)
 by_cases e0:(b.What % 8==0)=true
 ·rw [if_pos e0]; exact ⟨_,rfl,f.first,f.step,f.stepL,f.shows,f.showsL⟩
 rw [if_neg e0]
 by_cases e1:(b.What % 8==1)=true
 ·rw [if_pos e1,if_pos (by omega),tmod_pos (by omega),lkI_at a1 a2]
  simp only [Option.bind_some]
  exact ⟨_,rfl,by simp only [List.length_set]; exact f.first,f.step,f.stepL,f.shows,f.showsL⟩
 rw [if_neg e1]
 by_cases e2:(b.What % 8==2)=true
 ·rw [if_pos e2,if_pos (by omega),tmod_pos (by omega),lkI_at c1 c2]
  simp only [Option.bind_some]
  have hr:=v.step _ (List.getElem_mem (show (b.S % (h.Step.length:Int)).toNat < h.Step.length by omega))
  generalize h.Step[(b.S % (h.Step.length:Int)).toNat]'(by omega)=r at *
  have e1:=Int.emod_nonneg b.At (b:=(r.length:Int)) (by omega)
  have e2:=Int.emod_lt_of_pos b.At (b:=(r.length:Int)) (by omega)
  rw [if_pos (by omega),tmod_pos (by omega),lkI_at e1 e2]
  simp only [Option.bind_some]
  exact ⟨_,rfl,f.first,by simp only [List.length_set]; exact f.step,mem_set_le f.stepL (by rw [List.length_set]; omega),f.shows,f.showsL⟩
 rw [if_neg e2]
 by_cases e3:(b.What % 8==3)=true
 ·rw [if_pos e3,if_pos (by omega),tmod_pos (by omega),lkI_at d1 d2]
  simp only [Option.bind_some]
  have hr:=v.shows _ (List.getElem_mem (show (b.S % (h.Show.length:Int)).toNat < h.Show.length by omega))
  generalize h.Show[(b.S % (h.Show.length:Int)).toNat]'(by omega)=r at *
  have e1:=Int.emod_nonneg b.At (b:=(r.length:Int)) (by omega)
  have e2:=Int.emod_lt_of_pos b.At (b:=(r.length:Int)) (by omega)
  rw [if_pos (by omega),tmod_pos (by omega),lkI_at e1 e2]
  simp only [Option.bind_some]
  exact ⟨_,rfl,f.first,f.step,f.stepL,by simp only [List.length_set]; exact f.shows,mem_set_le f.showsL (by rw [List.length_set]; omega)⟩
 rw [if_neg e3]
 by_cases e4:(b.What % 8==4)=true
 ·rw [if_pos e4,if_pos (by omega)]
  refine ⟨_,rfl,f.first,?_,fun l hl=>?_,f.shows,f.showsL⟩
  ·simp only [sub,List.length_take,List.length_drop]; omega
  ·exact f.stepL l (by simp only [sub] at hl; first | exact List.mem_of_mem_drop (List.mem_of_mem_take hl) | exact List.mem_of_mem_take (List.mem_of_mem_drop hl))
 rw [if_neg e4]
 by_cases e5:(b.What % 8==5)=true
 ·rw [if_pos e5,tmod_pos (by omega),lkI_at d1 d2]
  simp only [Option.bind_some]
  have hr:=v.shows _ (List.getElem_mem (show (b.S % (h.Show.length:Int)).toNat < h.Show.length by omega))
  generalize h.Show[(b.S % (h.Show.length:Int)).toNat]'(by omega)=r at *
  rw [if_pos (by rw [List.length_set]; omega),if_pos (by rw [List.length_set]; omega),if_pos (by simp; omega)]
  exact ⟨_,rfl,f.first,f.step,f.stepL,by simp only [List.length_set]; exact f.shows,mem_set_le (mem_set_le f.showsL (by simp)) (by simp; omega)⟩
 rw [if_neg e5]
 by_cases e6:(b.What % 8==6)=true
 ·rw [if_pos e6,if_pos (by simp; omega)]
  exact ⟨_,rfl,by simp; omega,f.step,f.stepL,f.shows,f.showsL⟩
 rw [if_neg e6]
 exact ⟨_,rfl,f.first,f.step,f.stepL,by simp,by simp⟩
end Go.Ab
namespace Go.Ab
open Go
set_option maxRecDepth 100000
theorem sub_lim {α:Type} (l:List α) (m:Nat):sub l 0 (if (m:Int) < (l.length:Int) then (m:Int) else (l.length:Int))=l.take m:=by
 by_cases c:(m:Int) < (l.length:Int)
 ·rw [if_pos c]; simp [sub]
 ·rw [if_neg c]; simp only [sub]
  rw [show (0:Int).toNat = 0 from rfl,List.drop_zero,show ((l.length:Int).toNat - 0)=l.length by omega,List.take_length,List.take_of_length_le (by omega)]
theorem lim_ok {α:Type} (l:List α) (m:Nat):0≤(0:Int)∧(0:Int)≤(if (m:Int) < (l.length:Int) then (m:Int) else (l.length:Int))∧(if (m:Int) < (l.length:Int) then (m:Int) else (l.length:Int))≤(l.length:Int):=by
 by_cases c:(m:Int) < (l.length:Int)
 ·rw [if_pos c]; omega
 ·rw [if_neg c]; omega
theorem few_rows {body:(Int × List (List Int))→Option (Step (Int × List (List Int)) (List (List Int)))} (L:List (List Int)) (hL:L.length≤1000)
  (step:∀i (hi:i < L.length) (out:List (List Int)),out.length=i→body ((i:Int),out)=some (.next (((i+1:Nat):Int),out++[L[i].take 6]))) (done:∀out,body ((L.length:Int),out)=some (.done out)) :
  whileN fuel body (0,([]:List (List Int)))=some (L.map fun l=>l.take 6):=by
 refine whileN_run (fun i=>((i:Int),(L.take i).map fun l=>l.take 6)) L.length _ (by simp) (fun i hi=>?_) ?_ (by omega)
 ·rw [step i hi _ (by simp; omega)]
  simp only [List.take_succ_eq_append_getElem hi,List.map_append,List.map_cons,List.map_nil]
 ·rw [done]; simp
theorem few_ok (h:Tapi_Hidden):∃h',g_law17_few h=some h'∧FewH h':=by
 have six:((6:Nat):Int)=6:=rfl
 unfold g_law17_few
 have s1:=sub_lim h.First 6; have s2:=sub_lim h.Step 6; have s3:=sub_lim h.Show 6
 have l1:=lim_ok h.First 6; have l2:=lim_ok h.Step 6; have l3:=lim_ok h.Show 6
 rw [six] at s1 s2 s3 l1 l2 l3
 rw [if_pos l1,if_pos l2]
 rw [few_rows (h.Step.take 6) (by simp; omega) (fun i hi out ho=>by
  have hi':i < 6:=by simp at hi; omega
  unfold g_law17_few_b0
  simp only
  rw [s2,if_pos (by rw [decide_eq_true_eq]; omega),lkI_nat hi]
  simp only [Option.bind_some]
  have l4:=lim_ok ((h.Step.take 6)[i]) 6; have s4:=sub_lim ((h.Step.take 6)[i]) 6
  rw [six] at l4 s4
  rw [if_pos l4,s4,if_pos (by simp; omega),w64 (by omega)]; rfl) (fun out=>by
  unfold g_law17_few_b0
  simp only
  rw [s2,if_neg (by simp)])]
 simp only [Option.bind_some]
 rw [if_pos l3]
 rw [few_rows (h.Show.take 6) (by simp; omega) (fun i hi out ho=>by
  have hi':i < 6:=by simp at hi; omega
  unfold g_law17_few_b1
  simp only
  rw [s3,if_pos (by rw [decide_eq_true_eq]; omega),lkI_nat hi]
  simp only [Option.bind_some]
  have l4:=lim_ok ((h.Show.take 6)[i]) 6; have s4:=sub_lim ((h.Show.take 6)[i]) 6
  rw [six] at l4 s4
  rw [if_pos l4,s4,if_pos (by simp; omega),w64 (by omega)]; rfl) (fun out=>by
  unfold g_law17_few_b1
  simp only
  rw [s3,if_neg (by simp)])]
 simp only [Option.bind_some]
 rw [s1]
 have row:∀(L:List (List Int)),∀l∈(L.take 6).map (fun l=>l.take 6),l.length≤8:=fun L l hl=>by
  obtain ⟨a,_,rfl⟩:=List.mem_map.1 hl
  simp; omega
 exact ⟨_,rfl,by simp; omega,by simp; omega,row _,by simp; omega,row _⟩
theorem chains_ok (p0:Tharuspexref17_Draft) (p1:Tharuspexref17_Bend) (p2:Tapi_Hidden) (h0:okTharuspexref17_Draft p0) (h1:okTharuspexref17_Bend p1) :
  ∃a b c g n k,g_law17_chains p0 p1 p2=some (a,b,c)∧g_ref17_Draft_Hidden p0=some a∧VH a g n k∧(k:Int)=1+p0.Shows % 4∧FewH a∧FewH b∧FewH c:=by
 obtain ⟨a,g,n,k,e1,v,hk⟩:=draft_ok p0 h0
 obtain ⟨b,e2,f2⟩:=bend_ok p1 h1 v
 obtain ⟨c,e3,f3⟩:=few_ok p2
 refine ⟨a,b,c,g,n,k,?_,e1,v,hk,v.few,f2,f3⟩
 unfold g_law17_chains
 rw [e1]; simp only [Option.bind_some]
 rw [e2]; simp only [Option.bind_some]
 rw [e3]; rfl
theorem same_refl (l:List Int) (hl:l.length≤100000):g_ref02_Same l l=some true:=by
 unfold g_ref02_Same
 rw [if_neg (by simp)]
 rw [whileN_run (s0:=(0:Int)) (fun i=>(i:Int)) l.length (Sum.inr ()) rfl (fun i hi=>by
  unfold g_ref02_Same_b0
  rw [if_pos (by rw [decide_eq_true_eq]; omega),lkI_nat hi]
  simp only [Option.bind_some]
  rw [if_neg (by simp),w64 (by omega)]; rfl) (by
  unfold g_ref02_Same_b0
  rw [if_neg (by simp)]) (by omega)]
 rfl
theorem sameTable_refl (L:List (List Int)) (hL:L.length≤100000) (hl:∀l∈L,l.length≤100000):g_ref17_SameTable L L=some true:=by
 unfold g_ref17_SameTable
 rw [if_neg (by simp)]
 rw [whileN_run (s0:=(0:Int)) (fun i=>(i:Int)) L.length (Sum.inr ()) rfl (fun i hi=>by
  unfold g_ref17_SameTable_b0
  rw [if_pos (by rw [decide_eq_true_eq]; omega),lkI_nat hi]
  simp only [Option.bind_some]
  rw [same_refl _ (hl _ (List.getElem_mem hi))]
  simp only [Option.bind_some]
  rw [if_neg (by simp),w64 (by omega)]; rfl) (by
  unfold g_ref17_SameTable_b0
  rw [if_neg (by simp)]) (by omega)]
 rfl
theorem wakes_true:g_law17_wakes=some true:=by kernel_rfl
end Go.Ab
namespace Go.Ab
open Go
set_option maxRecDepth 100000
theorem mx_eq:MX=4611686018427387903:=rfl
theorem sum_row {n:Nat} {f:Nat → Nat} (hn:n≤1000) (hb:sumTo n f≤MX):g_hidden_sum_int (rowI n f)=some ((sumTo n f:Nat):Int):=by
 have hMX:=mx_eq
 unfold g_hidden_sum_int
 rw [whileN_run (s0:=((0:Int),(0:Int))) (fun j=>(((sumTo j f:Nat):Int),(j:Int))) n ((sumTo n f:Nat):Int) rfl ?_ ?_ (by omega)]
 ·rfl
 ·intro j hj
  unfold g_hidden_sum_int_b0
  simp only [rowI_len]
  rw [if_pos (by rw [decide_eq_true_eq]; omega),rowI_get hj]
  simp only [Option.bind_some]
  have:=sumTo_mono (f:=f) (show j+1≤n by omega)
  simp only [sumTo] at this
  rw [←Int.natCast_add,w64 (by omega),w64 (by omega)]
  rfl
 ·unfold g_hidden_sum_int_b0
  simp only [rowI_len]
  rw [if_neg (by simp)]
def rowG {α:Type} (n:Nat) (F:Nat → α):List α:=(List.range n).map F
theorem rowG_len {α:Type} {n:Nat} {F:Nat → α}:(rowG n F).length=n:=by simp [rowG]
theorem rowG_get {α:Type} {n:Nat} {F:Nat → α} {k:Nat} (h:k < n):lkI (rowG n F) (k:Int)=some (F k):=by
 rw [lkI_nat (by rw [rowG_len]; exact h)]; simp [rowG]
theorem rowG_congr {α:Type} {n:Nat} {F G:Nat → α} (h:∀k,k < n→F k=G k):rowG n F=rowG n G:=by
 unfold rowG
 apply List.map_congr_left
 intro t ht
 exact h t (by simpa using ht)
theorem rowG_set {α:Type} {n:Nat} {F:Nat → α} {k:Nat} {x:α}:(rowG n F).set k x=rowG n (fun s=>if s=k then x else F s):=by
 apply List.ext_getElem?
 intro s
 rw [List.getElem?_set]
 simp only [rowG,List.getElem?_map,List.length_map,List.length_range]
 by_cases e:k=s
 ·subst e
  rw [if_pos rfl]
  by_cases hk:k < n
  ·rw [if_pos hk,List.getElem?_range hk]; simp
  ·rw [if_neg hk,List.getElem?_eq_none (by simpa using hk)]; rfl
 ·rw [if_neg e]
  by_cases hs:s < n
  ·rw [List.getElem?_range hs]; simp only [Option.map_some]; rw [if_neg (Ne.symm e)]
  ·rw [List.getElem?_eq_none (by simpa using hs)]; rfl
theorem rowG_rep {α:Type} (n:Nat) (x:α):List.replicate n x=rowG n (fun _=>x):=by
 apply List.ext_getElem?
 intro s
 rw [List.getElem?_replicate]
 by_cases hs:s < n
 ·rw [if_pos hs]; simp [rowG,List.getElem?_range hs]
 ·rw [if_neg hs,List.getElem?_eq_none (by rw [rowG_len]; omega)]
theorem rowG_succ {α:Type} {n:Nat} {F:Nat → α}:rowG n F++[F n]=rowG (n+1) F:=by
 unfold rowG; rw [List.range_succ]; simp
def shL (n:Nat) (f:Nat → Nat):List Tapi_Q:=rowG n fun s=>qN (f s) (sumTo n f)
theorem divide_row {n:Nat} {f:Nat → Nat} (hn:n≤1000) (h0:0 < sumTo n f) (hb:sumTo n f≤MX):g_hidden_divide_int (rowI n f)=some (shL n f):=by
 have hMX:=mx_eq
 unfold g_hidden_divide_int
 rw [sum_row hn hb]
 simp only [Option.bind_some]
 rw [rowI_len,if_pos (by omega),nat_i,rowG_rep]
 rw [whileN_run (fun j=>((j:Int),rowG n fun s=>if s < j then qN (f s) (sumTo n f) else ⟨0,0⟩)) n (shL n f) ?_ ?_ ?_ (by omega)]
 ·rfl
 ·exact Prod.ext rfl (rowG_congr fun s _=>by rw [if_neg (by omega)])
 ·intro j hj
  unfold g_hidden_divide_int_b0
  simp only [rowI_len]
  rw [if_pos (by rw [decide_eq_true_eq]; omega),rowI_get hj]
  simp only [Option.bind_some]
  rw [ratio_eq _ _ (Nat.le_trans (sumTo_one hj) hb) hb h0]
  simp only [Option.bind_some]
  rw [rowG_get hj]
  simp only [Option.bind_some]
  rw [w64 (by omega),nat_i,rowG_set]
  congr 2
  refine Prod.ext (by simp only []; omega) (rowG_congr fun s _=>?_)
  by_cases e:s=j
  ·subst e; rw [if_pos rfl,if_pos (by omega)]
  ·rw [if_neg e]
   by_cases e2:s < j
   ·rw [if_pos e2,if_pos (by omega)]
   ·rw [if_neg e2,if_neg (by omega)]
 ·unfold g_hidden_divide_int_b0
  simp only [rowI_len]
  rw [if_neg (by simp)]
  congr 2
  exact rowG_congr fun s hs=>by rw [if_pos hs]
theorem whole_eq (g m:Nat) (hm:m≤1000) (hb:g^m≤MX):g_weigh_Whole (g:Int) (m:Int)=some ((g^m:Nat):Int):=by
 have hMX:=mx_eq
 unfold g_weigh_Whole
 rcases Nat.eq_zero_or_pos g with hg | hg
 ·subst hg
  rw [whileN_run (s0:=((1:Int),(0:Int))) (fun j=>(((0^j:Nat):Int),(j:Int))) m ((0^m:Nat):Int) (by simp) ?_ ?_ (by omega)]
  ·rfl
  ·intro j hj
   unfold g_weigh_Whole_b0
   simp only []
   rw [if_pos (by rw [decide_eq_true_eq]; omega),w64 (by simp),w64 (by omega),Nat.pow_succ]
   simp
  ·unfold g_weigh_Whole_b0
   simp only []
   rw [if_neg (by simp)]
 ·rw [whileN_run (s0:=((1:Int),(0:Int))) (fun j=>(((g^j:Nat):Int),(j:Int))) m ((g^m:Nat):Int) (by simp) ?_ ?_ (by omega)]
  ·rfl
  ·intro j hj
   unfold g_weigh_Whole_b0
   simp only []
   have h1:g^(j+1)≤g^m:=Nat.pow_le_pow_right hg hj
   rw [Nat.pow_succ] at h1
   rw [if_pos (by rw [decide_eq_true_eq]; omega),←Int.natCast_mul,w64 (by omega),w64 (by omega),Nat.pow_succ]
   rfl
  ·unfold g_weigh_Whole_b0
   simp only []
   rw [if_neg (by simp)]
theorem fw_zero (h:Tapi_Hidden) (n:Nat) (seen:List Int) {t:Nat} (h0:sumTo n (fw h n seen t)=0):sumTo n (fw h n seen (t+1))=0:=by
 refine sumTo_zero fun s hs=>?_
 simp only [fw]
 rw [sumTo_zero fun r hr=>by rw [show fw h n seen t r=0 by have:=sumTo_one (f:=fw h n seen t) hr; omega,Nat.zero_mul],Nat.zero_mul]
theorem fw_pos (h:Tapi_Hidden) (n:Nat) (seen:List Int):∀(d t:Nat),0 < sumTo n (fw h n seen (t+d))→0 < sumTo n (fw h n seen t)
 | 0,t,hp=>hp
 | d+1,t,hp=>fw_pos h n seen d t (by
  rcases Nat.eq_zero_or_pos (sumTo n (fw h n seen (t+d))) with e | e
  ·have:=fw_zero h n seen e; rw [show t+(d+1)=t+d+1 by omega] at hp; omega
  ·exact e)
section
variable {h:Tapi_Hidden} {g n k:Nat} (v:VH h g n k) {seen:List Int} {T:Nat} (w:VS k seen T) (hT:1≤T∧T≤8)
include v
include w hT
theorem VH.fw_mx {t:Nat} (ht:t < T):sumTo n (fw h n seen t)≤MX:=by
 have:=v.fw_sum seen t
 have:=pow12' (e:=2*(t+1)) v.g12 (by omega)
 have hMX:=mx_eq
 omega
theorem VH.last:lkI (tabI T n (fw h n seen)) (IntKind.i64.wrap (((tabI T n (fw h n seen)).length:Int) - 1))=some (rowI n (fw h n seen (T - 1))):=by
 rw [tabI_len,w64 (by omega),show ((T:Int) - 1)=((T - 1:Nat):Int) by omega,tabI_get (by omega)]
theorem VH.possible_eq:g_hidden_watcher_possible ⟨h,seen⟩=some (if sumTo n (fw h n seen (T - 1))=0 then ([],7) else (tabI T n (fw h n seen),0)):=by
 have hn4:=v.n4
 unfold g_hidden_watcher_possible
 rw [v.forward_eq w hT]
 simp only [Option.bind_some]
 rw [v.last w hT]
 simp only [Option.bind_some]
 rw [sum_row (by omega) (v.fw_mx w hT (by omega))]
 simp only [Option.bind_some]
 by_cases e:sumTo n (fw h n seen (T - 1))=0
 ·rw [if_pos (by rw [beq_iff_eq]; omega),if_pos e]
 ·rw [if_neg (by rw [beq_iff_eq]; omega),if_neg e]
end
structure Valid (h:Tapi_Hidden) (seen:List Int) (g n k:Nat):Prop where
 v:VH h g n k
 w:VS k seen seen.length
 t1:1≤seen.length
 t8:seen.length≤8
 ok:OkH h
 e:errN h seen=0
section
variable {h:Tapi_Hidden} {seen:List Int} {g n k:Nat} (a:Valid h seen g n k)
include a
theorem Valid.watch:g_hidden_newWatcher h seen=some (⟨h,seen⟩,0):=by
 have:=a.t8
 rw [watcher_eq h seen a.ok (by omega),if_pos a.e,a.e]
def filN (h:Tapi_Hidden) (n:Nat) (seen:List Int):List (List Tapi_Q) × Int :=
 if sumTo n (fw h n seen (seen.length - 1))=0 then ([],7) else (rowG seen.length fun t=>shL n (fw h n seen t),0)
theorem Valid.filter:g_hidden_Filter h seen=some (filN h n seen):=by
 have hT:1≤seen.length∧seen.length≤8:=⟨a.t1,a.t8⟩
 have hn4:=a.v.n4
 unfold g_hidden_Filter filN
 rw [a.watch]
 simp only [Option.bind_some]
 rw [if_neg (by simp),a.v.possible_eq a.w hT]
 simp only [Option.bind_some]
 by_cases e:sumTo n (fw h n seen (seen.length - 1))=0
 ·rw [if_pos e,if_pos e,if_pos (by simp)]
 ·rw [if_neg e,if_neg e,if_neg (by simp)]
  rw [whileN_run (s0:=((0:Int),([]:List (List Tapi_Q)))) (fun j=>((j:Int),rowG j fun t=>shL n (fw h n seen t))) seen.length (rowG seen.length fun t=>shL n (fw h n seen t)) rfl ?_ ?_ (by omega)]
  ·rfl
  ·intro j hj
   unfold g_hidden_Filter_b0
   simp only [tabI_len]
   rw [if_pos (by rw [decide_eq_true_eq]; omega),tabI_get hj]
   simp only [Option.bind_some]
   have hp:=fw_pos h n seen (seen.length - 1 - j) j (by rw [show j+(seen.length - 1 - j)=seen.length - 1 by omega]; omega)
   rw [divide_row (by omega) hp (a.v.fw_mx a.w hT hj)]
   simp only [Option.bind_some]
   rw [rowG_succ (F:=fun t=>shL n (fw h n seen t)),if_pos (by rw [rowG_len]; omega),w64 (by omega)]
   rfl
  ·unfold g_hidden_Filter_b0
   simp only [tabI_len]
   rw [if_neg (by simp)]
end
end Go.Ab
namespace Go.Ab
open Go
set_option maxRecDepth 100000
section
variable {h:Tapi_Hidden} {seen:List Int} {g n k:Nat} (a:Valid h seen g n k)
include a
theorem Valid.back:(whileN fuel (g_hidden_watcher_backward_b0 ⟨h,seen⟩) (0,List.replicate (Int.toNat (seen.length:Int)) ([]:List Int))).bind (fun x=>whileN fuel (g_hidden_watcher_backward_b3 ⟨h,seen⟩) (IntKind.i64.wrap ((seen.length:Int) - 1),x))=some (tabI seen.length n (bw h n seen seen.length)):=by
 have h1:=a.v.backward_eq a.w ⟨a.t1,a.t8⟩
 have h8:=a.t8
 unfold g_hidden_watcher_backward at h1
 rw [if_pos (by simp only []; omega)] at h1
 simpa using h1
end
def more (seen:List Int) (p:Nat):List Int:=seen++List.replicate p (-1)
theorem more_len (seen:List Int) (p:Nat):(more seen p).length=seen.length+p:=by simp [more]
section
variable {h:Tapi_Hidden} {seen:List Int} {g n k:Nat} (a:Valid h seen g n k)
include a
theorem Valid.more {p:Nat} (hp:seen.length+p≤8):Valid h (more seen p) g n k:=by
 have hw:VS k (Go.Ab.more seen p) (Go.Ab.more seen p).length:=⟨rfl,fun x hx=>by
  unfold Go.Ab.more at hx
  rcases List.mem_append.1 hx with hx | hx
  ·exact a.w.all x hx
  ·obtain ⟨_,rfl⟩:=List.mem_replicate.1 hx; omega⟩
 have ht1:=a.t1
 refine ⟨a.v,hw,by rw [more_len]; omega,by rw [more_len]; omega,a.ok,?_⟩
 have e:=a.e
 unfold errN at e ⊢
 cases hr:rightB h with
 | false=>rw [hr] at e; simp at e
 | true =>
  rw [hr] at e
  obtain ⟨g',n',k',v',hk'⟩:=vh_of hr
  have hkk:k'=k:=by
   have h1:=a.v.show_row (s:=0) (by have:=a.v.n1; omega)
   obtain ⟨l,h1,h2,h3,h4⟩:=h1
   have hsl:=a.v.showL
   have hn1:=a.v.n1
   cases hs:h.Show with
   | nil=>rw [hs] at hsl; simp at hsl; omega
   | cons x L =>
    rw [hs] at hk' h4
    simp only [List.headD_cons] at hk'
    simp only [List.getD_cons_zero] at h4
    rw [←hk',h4,h2]
  subst hkk
  rw [if_pos rfl,if_pos]
  unfold seenB seesB
  rw [Bool.and_eq_true,Bool.and_eq_true,decide_eq_true_eq,decide_eq_true_eq,List.all_eq_true,more_len]
  refine ⟨fun x hx=>?_,by omega,by omega⟩
  have:=hw.all x hx
  rw [Bool.and_eq_true,decide_eq_true_eq,decide_eq_true_eq,hk']
  exact this
end
end Go.Ab
namespace Go.Ab
open Go
set_option maxRecDepth 100000
section
variable {h:Tapi_Hidden} {seen:List Int} (ok:OkH h) (hl:seen.length≤1000) (e:errN h seen≠0)
include ok hl e
end
section
variable {h:Tapi_Hidden} {seen:List Int} (ok:OkH h) (hl:seen.length≤1000)
include ok hl
end
theorem three {body:Int→Option (Step Int (Unit ⊕ Unit))} (a b c:Tapi_Hidden) (fa:FewH a) (fb:FewH b) (fc:FewH c)
  (step:∀(h:Tapi_Hidden) (j:Nat),j < 3→FewH h→lkI [a,b,c] (j:Int)=some h→body (j:Int)=some (.next ((j+1:Nat):Int))) (done:body 3=some (.done (Sum.inr ()))) :
  whileN fuel body 0=some (Sum.inr ()):=by
 refine whileN_run (fun j=>(j:Int)) 3 (Sum.inr ()) rfl (fun j hj=>?_) done (by omega)
 match j,hj with
 | 0,_=>exact step a 0 (by omega) fa rfl
 | 1,_=>exact step b 1 (by omega) fb rfl
 | 2,_=>exact step c 2 (by omega) fc rfl
end Go.Ab
namespace Go.Ab
open Go
set_option maxRecDepth 100000
theorem VH.head {h:Tapi_Hidden} {g n k:Nat} (v:VH h g n k):(h.Show.headD []).length=k:=by
 have h1:=v.showL; have h2:=v.n1
 cases hs:h.Show with
 | nil=>rw [hs] at h1; simp at h1; omega
 | cons x L=>exact (v.shows x (by rw [hs]; simp)).1
theorem VH.right {h:Tapi_Hidden} {g n k:Nat} (v:VH h g n k):rightB h=true:=by
 have h0:=v.head
 have h1:=v.firstL; have h2:=v.stepL; have h3:=v.showL; have h4:=v.grain; have h5:=v.g1; have h6:=v.g12; have h7:=v.n1; have h8:=v.n4; have h9:=v.k1; have h10:=v.k4
 unfold rightB
 simp only [Bool.and_eq_true,decide_eq_true_eq,beq_iff_eq,List.all_eq_true,rowB_iff]
 refine ⟨by omega,by omega,by omega,by omega,by omega,by omega,by omega,by rw [h4]; exact v.first,⟨by omega,fun l hl=>?_⟩,by omega,fun l hl=>?_⟩
 ·obtain ⟨a,b⟩:=v.step l hl; exact ⟨by omega,by rw [h4]; exact b⟩
 ·obtain ⟨a,b⟩:=v.shows l hl; exact ⟨by omega,by rw [h4]; exact b⟩
theorem clone_eq (l:List Int) (hl:l.length≤1000):g_slices_Clone_int_int l=some l:=by
 unfold g_slices_Clone_int_int
 cases l with
 | nil=>rfl
 | cons x l =>
  simp only []
  unfold g_slices_Clone_int_int_c
  rw [if_pos (by omega)]
end Go.Ab
namespace Go.Ab
open Go
set_option maxRecDepth 100000
theorem copied_eq (L:List (List Int)) (hL:L.length≤1000) (hl:∀l∈L,l.length≤1000):g_hidden_copied L=some L:=by
 unfold g_hidden_copied
 rw [whileN_run (s0:=((0:Int),([]:List (List Int)))) (fun j=>((j:Int),L.take j)) L.length L (by simp) ?_ ?_ (by omega)]
 ·rfl
 ·intro j hj
  unfold g_hidden_copied_b0
  simp only []
  rw [if_pos (by rw [decide_eq_true_eq]; omega),lkI_nat hj]; simp only [Option.bind_some]
  rw [clone_eq _ (hl _ (List.getElem_mem hj))]; simp only [Option.bind_some]
  rw [←List.take_succ_eq_append_getElem hj,if_pos (by rw [List.length_take]; omega),w64 (by omega)]
  rfl
 ·unfold g_hidden_copied_b0
  simp only []
  rw [if_neg (by simp),List.take_length]
def nodesN (h:Tapi_Hidden) (n k:Nat):Nat → List Tapi_Node
 | 0=>[]
 | t+1=>nodesN h n k t++[⟨(n:Int),if t=0 then [] else [2*(t:Int) - 2],if t=0 then [h.First] else h.Step⟩,⟨(k:Int),[2*(t:Int)],h.Show⟩]
theorem nodesN_len (h:Tapi_Hidden) (n k t:Nat):(nodesN h n k t).length=2*t:=by
 induction t with
 | zero=>rfl
 | succ t ih=>simp only [nodesN,List.length_append,ih,List.length_cons,List.length_nil]; omega
def NodeOk (x:Tapi_Node):Prop:=x.Parents.length≤1000∧x.Rows.length≤1000∧∀l∈x.Rows,l.length≤1000
theorem equalI_refl (l:List Int) (hl:l.length≤100000):g_slices_Equal_int_int l l=some true:=by
 unfold g_slices_Equal_int_int
 rw [if_neg (by simp)]
 rw [whileN_run (s0:=(0:Int)) (fun i=>(i:Int)) l.length (Sum.inr ()) rfl (fun i hi=>by
  unfold g_slices_Equal_int_int_b0
  rw [if_pos (by rw [decide_eq_true_eq]; omega),lkI_nat hi]
  simp only [Option.bind_some]
  rw [if_neg (by simp),w64 (by omega)]; rfl) (by
  unfold g_slices_Equal_int_int_b0
  rw [if_neg (by simp)]) (by omega)]
 rfl
theorem nets_b0 (x:Tapi_Net × Int) (hx:x.1.Nodes.length≤1000) (hn:∀y∈x.1.Nodes,NodeOk y):whileN fuel (g_law17_HiddenNets_b0 x x) 0=some (Sum.inr ()):=by
 rw [whileN_run (s0:=(0:Int)) (fun i=>(i:Int)) x.1.Nodes.length (Sum.inr ()) rfl (fun i hi=>by
  unfold g_law17_HiddenNets_b0
  obtain ⟨h1,h2,h3⟩:=hn _ (List.getElem_mem hi)
  rw [if_pos (by rw [decide_eq_true_eq]; omega),lkI_nat hi]
  simp only [Option.bind_some]
  rw [if_neg (by simp),equalI_refl _ (by omega)]
  simp only [Option.bind_some]
  rw [if_neg (by simp),sameTable_refl _ (by omega) (fun l hl=>by have:=h3 l hl; omega)]
  simp only [Option.bind_some]
  rw [if_neg (by simp),w64 (by omega)]; rfl) (by
  unfold g_law17_HiddenNets_b0
  rw [if_neg (by simp)]) (by omega)]
theorem net_same {h:Tapi_Hidden} (hf:FewH h) (p:Int):∃x,g_hidden_Net h p=some x∧g_ref17_Net h p=some x∧x.1.Nodes.length≤1000∧∀y∈x.1.Nodes,NodeOk y:=by
 have ok:=hf.ok
 unfold g_hidden_Net g_ref17_Net
 rw [check_eq h ok,right_eq h ok]
 simp only [Option.bind_some]
 cases hr:rightB h with
 | false=>exact ⟨(⟨0,[]⟩,170),rfl,rfl,by simp,by simp⟩
 | true =>
  obtain ⟨g,n,k,v,hk⟩:=vh_of hr
  have n1:=v.n1; have n4:=v.n4; have k1:=v.k1; have k4:=v.k4; have sl:=v.showL
  simp only [if_true,bne_self_eq_false,Bool.not_true,Bool.false_eq_true,if_false]
  by_cases p1:p < 1
  ·rw [if_pos (by rw [decide_eq_true_eq]; omega),if_pos (by rw [decide_eq_true_eq]; omega)]
   exact ⟨(⟨0,[]⟩,2),rfl,rfl,by simp,by simp⟩
  rw [if_neg (by rw [decide_eq_true_eq]; omega),if_neg (by rw [decide_eq_true_eq]; omega),lkI_head (d:=[]) (by omega)]
  simp only [Option.bind_some]
  rw [hk,v.firstL]
  by_cases p4:p > 4
  ·rw [if_pos (by rw [decide_eq_true_eq]; omega),if_pos (by rw [decide_eq_true_eq]; omega)]
   exact ⟨(⟨0,[]⟩,6),rfl,rfl,by simp,by simp⟩
  rw [if_neg (by rw [decide_eq_true_eq]; omega),if_neg (by rw [decide_eq_true_eq]; omega)]
  obtain ⟨q,rfl⟩:∃q:Nat,p=(q:Int):=⟨p.toNat,by omega⟩
  have hnk:n*k≤16:=Nat.mul_le_mul n4 k4
  have hnk1:1≤n*k:=Nat.mul_pos n1 k1
  have hpw:∀j,j≤4→(n*k)^j≤65536:=fun j hj=>by
   calc (n*k)^j≤16^j:=Nat.pow_le_pow_left hnk j
     _≤16^4:=Nat.pow_le_pow_right (by omega) hj
     _=65536:=by decide
  have hMX:=mx_eq
  rw [←Int.natCast_mul,w64 (by omega),whole_eq (n*k) q (by omega) (by have:=hpw q (by omega); omega)]
  simp only [Option.bind_some]
  have hshow:lkI h.Show 0=some (h.Show.headD []):=lkI_head (by omega)
  have rl:whileN fuel (g_ref17_Net_b0 (q:Int) h) (1,0,([]:List Tapi_Node))=some ((((n*k)^q:Nat):Int),nodesN h n k q):=by
   refine whileN_run (fun j=>((((n*k)^j:Nat):Int),(j:Int),nodesN h n k j)) q _ (by simp [nodesN]) ?_ ?_ (by omega)
   ·intro j hj
    unfold g_ref17_Net_b0
    simp only []
    have hl:=nodesN_len h n k j
    have hw:=hpw (j+1) (by omega)
    have hw0:=hpw j (by omega)
    have hA:(n*k)^j*n≤65536*4:=Nat.mul_le_mul hw0 n4
    have hB:(n*k)^j*n*k=(n*k)^(j+1):=by rw [Nat.pow_succ,Nat.mul_assoc]
    have hwr:IntKind.i64.wrap (IntKind.i64.wrap ((((n*k)^j:Nat):Int)*(n:Int))*(k:Int))=(((n*k)^(j+1):Nat):Int):=by
     rw [←Int.natCast_mul,w64 (n:=(((n*k)^j*n:Nat):Int)) (by omega),←Int.natCast_mul,w64 (by omega),hB]
    rw [if_pos (by rw [decide_eq_true_eq]; omega)]
    by_cases j0:j=0
    ·subst j0
     rw [if_neg (by simp),if_pos (by simp [nodesN])]
     rw [hshow]; simp only [Option.bind_some]
     rw [if_pos (by simp [nodesN]),v.firstL,hk]
     rw [hwr,w64 (n:=((0:Nat):Int)+1) (by omega),w64 (by omega)]
     simp only [nodesN,if_true,List.append_assoc]
     rfl
    ·rw [if_pos (by rw [decide_eq_true_eq]; omega),if_pos (by rw [List.length_append,hl]; simp; omega)]
     rw [hshow]; simp only [Option.bind_some]
     rw [if_pos (by simp [hl]; omega),v.firstL,hk]
     rw [hwr,w64 (n:=(j:Int)+1) (by omega),w64 (n:=2*(j:Int)) (by omega),w64 (n:=2*(j:Int) - 2) (by omega)]
     simp only [nodesN,if_neg j0,List.append_assoc]
     rfl
   ·unfold g_ref17_Net_b0
    simp only []
    rw [if_neg (by simp)]
  have pl:whileN fuel (g_hidden_Net_b0 (q:Int) h (h.Show.headD [])) (0,([]:List Tapi_Node))=some (nodesN h n k q):=by
   refine whileN_run (fun j=>((j:Int),nodesN h n k j)) q _ rfl ?_ ?_ (by omega)
   ·intro j hj
    unfold g_hidden_Net_b0
    simp only []
    have hl:=nodesN_len h n k j
    rw [if_pos (by rw [decide_eq_true_eq]; omega),copied_eq [h.First] (by simp) (fun l hl=>by simp at hl; subst hl; rw [v.firstL]; omega)]; simp only [Option.bind_some]
    have cs:g_hidden_copied h.Show=some h.Show:=copied_eq _ (by omega) (fun l hl=>by have:=(v.shows l hl).1; omega)
    by_cases j0:j=0
    ·subst j0
     rw [if_neg (by simp),cs]; simp only [Option.bind_some]
     rw [if_pos (by simp [nodesN]),v.firstL,hk]
     rw [w64 (n:=((0:Nat):Int)+1) (by omega),w64 (by omega)]
     simp only [nodesN,if_true]
     rfl
    ·rw [if_pos (by rw [decide_eq_true_eq]; omega),copied_eq h.Step (by rw [v.stepL]; omega) (fun l hl=>by have:=(v.step l hl).1; omega)]; simp only [Option.bind_some]
     rw [cs]; simp only [Option.bind_some]
     rw [if_pos (by simp [hl]; omega),v.firstL,hk]
     rw [w64 (n:=(j:Int)+1) (by omega),w64 (n:=2*(j:Int)) (by omega),w64 (n:=2*(j:Int) - 2) (by omega)]
     simp only [nodesN,if_neg j0]
     rfl
   ·unfold g_hidden_Net_b0
    simp only []
    rw [if_neg (by simp)]
  rw [rl]; simp only [Option.bind_some]
  by_cases c:(n*k)^q > 1024
  ·rw [if_pos (by rw [decide_eq_true_eq]; omega),if_pos (by rw [decide_eq_true_eq]; omega)]
   exact ⟨(⟨0,[]⟩,6),rfl,rfl,by simp,by simp⟩
  ·rw [if_neg (by rw [decide_eq_true_eq]; omega),if_neg (by rw [decide_eq_true_eq]; omega),pl]
   refine ⟨_,rfl,rfl,by simp only [nodesN_len]; omega,?_⟩
   have all:∀t,∀y∈nodesN h n k t,NodeOk y:=by
    intro t
    induction t with
    | zero=>intro y hy; cases hy
    | succ t ih =>
     intro y hy
     simp only [nodesN] at hy
     rcases List.mem_append.1 hy with hy | hy
     ·exact ih y hy
     ·simp only [List.mem_cons,List.not_mem_nil,or_false] at hy
      rcases hy with rfl | rfl
      ·unfold NodeOk
       by_cases t0:t=0
       ·simp only [if_pos t0]
        exact ⟨by simp,by simp,fun l hl=>by simp at hl; subst hl; rw [v.firstL]; omega⟩
       ·simp only [if_neg t0]
        exact ⟨by simp,by rw [v.stepL]; omega,fun l hl=>by have:=(v.step l hl).1; omega⟩
      ·unfold NodeOk
       exact ⟨by simp,by simp only []; omega,fun l hl=>by have:=(v.shows l hl).1; omega⟩
   exact all q
theorem nets_true (p0:Tharuspexref17_Draft) (p1:Tharuspexref17_Bend) (p2:Tapi_Hidden) (p3:Int) (h0:okTharuspexref17_Draft p0) (h1:okTharuspexref17_Bend p1) (h2:okTapi_Hidden p2) (h3:(Lit.int .i64 p3).wf=true):g_law17_HiddenNets p0 p1 p2 p3=some true:=by
 unfold g_law17_HiddenNets
 rw [wakes_true]
 simp only [Option.bind_some]
 rw [if_neg (by simp)]
 obtain ⟨a,b,c,g,n,k,e,e1,v,hk,fa,fb,fc⟩:=chains_ok p0 p1 p2 h0 h1
 rw [e]
 simp only [Option.bind_some]
 rw [three a b c fa fb fc (fun h j hj hf hg=>?_) (by unfold g_law17_HiddenNets_b2; rfl)]
 ·rfl
 ·unfold g_law17_HiddenNets_b2
  rw [if_pos (by rw [decide_eq_true_eq]; omega),hg]
  simp only [Option.bind_some]
  rw [whileN_run (s0:=(0:Int)) (fun j=>(j:Int)) 5 (Sum.inr ()) rfl (fun i hi=>?_) (by unfold g_law17_HiddenNets_b1; rfl) (by omega)]
  ·simp only [Option.bind_some]
   rw [w64 (by omega)]; rfl
  ·unfold g_law17_HiddenNets_b1
   rw [if_pos (by rw [decide_eq_true_eq]; omega),lkI_nat (by simpa using hi)]
   simp only [Option.bind_some]
   obtain ⟨x,x1,x2,x3,x4⟩:=net_same hf (([p3,1,2,3,4]:List Int)[i])
   rw [x1]; simp only [Option.bind_some]
   rw [x2]; simp only [Option.bind_some]
   rw [if_neg (by simp),if_neg (by simp),if_neg (by simp),nets_b0 x x3 x4]; simp only [Option.bind_some]
   rw [w64 (by omega)]; rfl
end Go.Ab
