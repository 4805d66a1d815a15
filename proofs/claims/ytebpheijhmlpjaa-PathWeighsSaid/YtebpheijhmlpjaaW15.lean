/- What functions compute. No conditions. -/
import Derived.Test.YtebpheijhmlpjaaW14
set_option linter.all false
namespace Go.Ab
open Go
set_option maxRecDepth 100000
section
variable {h:Tapi_Hidden} {g n k:Nat} (v:VH h g n k)
include v
theorem VH.pshown_eq {seen:List Int} {T t s:Nat} (w:VS k seen T) (ht:t < T) (hs:s < n):g_path_searcher_shown ⟨h,seen⟩ (t:Int) (s:Int)=some (shN h (seen.getD t 0) s:Int):=by
 have:=v.shown_eq w ht hs
 unfold g_hidden_watcher_shown at this
 unfold g_path_searcher_shown
 exact this
theorem VH.into0 {seen:List Int} {T s:Nat} (w:VS k seen T) (ht:0 < T) (hs:s < n) (r:Int):g_path_searcher_into ⟨h,seen⟩ 0 r (s:Int)=some ((nat1 h.First s*shN h (seen.getD 0 0) s:Nat):Int):=by
 unfold g_path_searcher_into
 have e:=v.pshown_eq w ht hs
 rw [show ((0:Nat):Int)=(0:Int) from rfl] at e
 rw [if_pos (by simp),v.first_get hs]
 simp only [Option.bind_some]
 rw [e]
 simp only [Option.bind_some]
 have h1:nat1 h.First s*shN h (seen.getD 0 0) s≤12*12:=by
  have:=v.wR_le seen [s] (by simpa using hs)
  simp only [wR,List.length_singleton] at this
  exact Nat.le_trans this (Nat.le_trans (Nat.pow_le_pow_left v.g12 _) (by decide))
 rw [←Int.natCast_mul,w64 (by omega)]
theorem VH.intoS {seen:List Int} {T t r s:Nat} (w:VS k seen T) (ht:t+1 < T) (hr:r < n) (hs:s < n):g_path_searcher_into ⟨h,seen⟩ ((t+1:Nat):Int) (r:Int) (s:Int)=some ((nat2 h.Step r s*shN h (seen.getD (t+1) 0) s:Nat):Int):=by
 unfold g_path_searcher_into
 rw [if_neg (by simp; omega)]
 obtain ⟨l,h1,h2⟩:=v.step_get hr hs
 rw [h1]; simp only [Option.bind_some]
 rw [h2]; simp only [Option.bind_some]
 rw [v.pshown_eq w ht hs]
 simp only [Option.bind_some]
 have b:=Nat.mul_le_mul (Nat.le_trans (v.step_le hr hs) v.g12) (Nat.le_trans (v.sh_le (seen.getD (t+1) 0) hs) v.g12)
 rw [←Int.natCast_mul,w64 (by omega)]
theorem VH.pweight_step {seen:List Int} {T:Nat} (w:VS k seen T) (hT:T≤8) (q:List Nat) (hq:∀s∈q,s < n) (ys:List Int) (hN:q.length≤ys.length) (hl:ys.length≤T) (hu:ys.take q.length=pI q) (e0:Int) (j:Nat) (hj:j < q.length) :
  g_path_Weight_b0 ys (⟨h,seen⟩,e0) (((wR h seen (q.drop (q.length - j)):Nat):Int),(if j=0 then 0 else ys.getD (j - 1) 0),(j:Int)) =
   some (.next (((wR h seen (q.drop (q.length - (j+1))):Nat):Int),(if j+1=0 then 0 else ys.getD (j+1 - 1) 0),((j+1:Nat):Int))):=by
 have key:∀j (hj:j < q.length),q.drop (q.length - (j+1))=q[q.length - 1 - j]'(by omega)::q.drop (q.length - j):=fun j hj=>by
  rw [List.drop_eq_getElem_cons (by omega:q.length - (j+1) < q.length)]
  congr 1
  ·congr 1; omega
  ·congr 1; omega
 have bnd:∀j,j≤q.length→wR h seen (q.drop (q.length - j))≤184884258895036416:=fun j hj=>by
  refine Nat.le_trans (v.wR_le seen _ (fun s hs=>hq s (List.mem_of_mem_drop hs))) (pow12' v.g12 ?_)
  rw [List.length_drop]; omega
 have at':∀j (hj:j < q.length),lkI ys (j:Int)=some ((q[q.length - 1 - j]'(by omega):Nat):Int):=fun j hj=>by
  have e:=pI_get hj
  rw [←hu] at e
  rw [lkI_nat (by rw [List.length_take]; omega)] at e
  rw [lkI_nat (by omega)]
  rw [List.getElem_take] at e
  exact e
 have hk:=key j hj
 have hb:=bnd (j+1) hj
 have hs:q[q.length - 1 - j]'(by omega) < n:=hq _ (List.getElem_mem _)
 have hgd:ys.getD j 0=((q[q.length - 1 - j]'(by omega):Nat):Int):=by
  have e:=at' j hj
  rw [lkI_nat (by omega)] at e
  simpa [List.getD_eq_getElem?_getD,List.getElem?_eq_getElem (show j < ys.length by omega)] using e
 unfold g_path_Weight_b0
 simp only []
 rw [if_pos (by simp; omega),at' j hj]
 simp only [Option.bind_some]
 rw [if_neg (by simp),if_neg (by rw [v.firstL]; simp; omega)]
 by_cases h0:j=0
 ·subst h0
  rw [show ((0:Nat):Int)=(0:Int) from rfl,v.into0 w (by omega) hs]
  simp only [Option.bind_some]
  rw [hk] at hb ⊢
  have hd:q.drop (q.length - 0)=[]:=by simp
  rw [hd] at hb ⊢
  simp only [wR] at hb ⊢
  rw [show ((1:Nat):Int)*((nat1 h.First (q[q.length - 1 - 0]'(by omega))*shN h (seen.getD 0 0) (q[q.length - 1 - 0]'(by omega)):Nat):Int)=((nat1 h.First (q[q.length - 1 - 0]'(by omega))*shN h (seen.getD 0 0) (q[q.length - 1 - 0]'(by omega)):Nat):Int) by simp,w64 (by omega),w64 (by omega)]
  simp only [Nat.add_sub_cancel]
  rw [if_neg (by omega),hgd]; rfl
 ·obtain ⟨i,rfl⟩:∃i,j=i+1:=⟨j - 1,by omega⟩
  have hi:i < q.length:=by omega
  have hr:q[q.length - 1 - i]'(by omega) < n:=hq _ (List.getElem_mem _)
  have hgi:ys.getD i 0=((q[q.length - 1 - i]'(by omega):Nat):Int):=by
   have e:=at' i hi
   rw [lkI_nat (by omega)] at e
   simpa [List.getD_eq_getElem?_getD,List.getElem?_eq_getElem (show i < ys.length by omega)] using e
  rw [if_neg (by omega),Nat.add_sub_cancel,hgi,v.intoS w (by omega) hr hs]
  simp only [Option.bind_some]
  have hk2:=key i hi
  rw [hk,hk2] at hb ⊢
  simp only [wR] at hb ⊢
  have hlen2:(q.drop (q.length - i)).length+1=i+1:=by rw [List.length_drop]; omega
  rw [hlen2] at hb ⊢
  rw [if_neg (by omega),Nat.add_sub_cancel,hgd]
  generalize wR h seen (q[q.length - 1 - i]'(by omega)::q.drop (q.length - i))=A at *
  generalize nat2 h.Step (q[q.length - 1 - i]'(by omega)) (q[q.length - 1 - (i+1)]'(by omega))=B at *
  generalize shN h (seen.getD (i+1) 0) (q[q.length - 1 - (i+1)]'(by omega))=C at *
  rw [Nat.mul_assoc] at hb ⊢
  rw [←Int.natCast_mul,w64 (by omega),w64 (by omega)]
  rfl
end
end Go.Ab
namespace Go.Ab
open Go
set_option maxRecDepth 100000
theorem pre_ex (n:Nat) (ys:List Int):∃q:List Nat,(∀s∈q,s < n)∧q.length≤ys.length∧ys.take q.length=pI q∧(q.length=ys.length∨∃hi:q.length < ys.length,(ys[q.length] < 0∨(n:Int)≤ys[q.length])):=by
 have key:∀m,m≤ys.length→(∃q:List Nat,(∀s∈q,s < n)∧q.length=m∧ys.take q.length=pI q)∨∃q:List Nat,(∀s∈q,s < n)∧q.length≤ys.length∧ys.take q.length=pI q∧∃hi:q.length < ys.length,(ys[q.length] < 0∨(n:Int)≤ys[q.length]):=by
  intro m
  induction m with
  | zero=>intro _; exact .inl ⟨[],by simp,rfl,by simp [pI]⟩
  | succ m ih =>
   intro hm
   rcases ih (by omega) with ⟨q,h1,h2,h3⟩ | h
   ·have hi:q.length < ys.length:=by omega
    by_cases c:ys[q.length] < 0∨(n:Int)≤ys[q.length]
    ·exact .inr ⟨q,h1,by omega,h3,hi,c⟩
    ·refine .inl ⟨(ys[q.length]).toNat :: q,?_,by simp [h2],?_⟩
     ·intro s hs
      rcases List.mem_cons.1 hs with rfl | hs
      ·omega
      ·exact h1 s hs
     ·rw [List.length_cons,List.take_succ_eq_append_getElem hi,h3,pI_cons]
      rw [Int.toNat_of_nonneg (by omega)]
   ·exact .inr h
 rcases key ys.length (Nat.le_refl _) with ⟨q,h1,h2,h3⟩ | ⟨q,h1,h2,h3,h4⟩
 ·exact ⟨q,h1,by omega,h3,.inl h2⟩
 ·exact ⟨q,h1,h2,h3,.inr h4⟩
theorem searcher_eq (h:Tapi_Hidden) (seen:List Int) (ok:OkH h) (hl:seen.length≤281474976710656) :
  g_path_newSearcher h seen=some (if errN h seen=0 then ⟨h,seen⟩ else ⟨⟨0,[],[],[]⟩,[]⟩,errN h seen):=by
 unfold g_path_newSearcher
 by_cases e:errN h seen=0
 ·obtain ⟨g,n,k,v,w,hT⟩:=errN_ok e
  rw [v.forward_call w hT ok e,if_pos e,e]
  rfl
 ·rw [forward_call h seen ok hl e,if_neg e]
  simp only [Option.bind_some]
  rw [if_pos (by simpa using e)]
theorem weights_same (h:Tapi_Hidden) (seen ys:List Int) (ok:OkH h) (hl:seen.length≤281474976710656):∃x,g_path_Weight h seen ys=some x∧g_ref18_Weight h seen ys=some x:=by
 unfold g_path_Weight g_ref18_Weight
 rw [searcher_eq h seen ok hl,errors_eq h seen ok hl]
 simp only [Option.bind_some]
 by_cases e:errN h seen=0
 ·obtain ⟨g,n,k,v,w,hT⟩:=errN_ok e
  rw [if_pos e,if_neg (by simpa using e)]
  by_cases el:ys.length=seen.length
  ·rw [if_neg (by simp; omega),if_neg (by simpa using e),if_neg (by simp; omega)]
   obtain ⟨q,hq,hN,hu,hend⟩:=pre_ex n ys
   have hstep:=v.pweight_step w hT.2 q hq ys hN (by omega) hu (errN h seen)
   have hat : ∀j (hj:j < q.length),∃s:Nat,lkI ys (j:Int)=some (s:Int)∧s < n:=fun j hj=>by
    have e:=pI_get hj
    rw [←hu] at e
    rw [lkI_nat (by rw [List.length_take]; omega)] at e
    rw [List.getElem_take] at e
    exact ⟨_,by rw [lkI_nat (by omega)]; exact e,hq _ (List.getElem_mem _)⟩
   have rstep:∀j,j < q.length→g_ref18_Weight_b0 ys h (j:Int)=some (.next ((j+1:Nat):Int)):=fun j hj=>by
    obtain ⟨s,h1,h2⟩:=hat j hj
    unfold g_ref18_Weight_b0
    rw [if_pos (by simp; omega),h1]
    simp only [Option.bind_some]
    rw [if_neg (by simp),if_neg (by rw [v.firstL]; simp; omega),w64 (by omega)]
    rfl
   rcases hend with hend | ⟨hi,hbad⟩
   ·have hys:ys=pI q:=by rw [←hu,hend,List.take_length]
    rw [whileN_run (fun j=>(((wR h seen (q.drop (q.length - j)):Nat):Int),(if j=0 then 0 else ys.getD (j - 1) 0),(j:Int))) q.length (.inr ((wR h seen q:Nat):Int)) (by simp [wR]) hstep ?_ (by omega),
     whileN_run (s0:=0) (fun j:Nat => (j:Int)) q.length (.inr ()) rfl rstep ?_ (by omega)]
    ·simp only [Option.bind_some]
     rw [show g_ref17_Weight h seen ys=some ((wR h seen q:Nat):Int) by rw [hys]; exact v.weight_eq w q hq (by omega) hT.2 seen (by rw [List.take_of_length_le (by omega)])]
     exact ⟨_,rfl,rfl⟩
    ·unfold g_ref18_Weight_b0
     rw [if_neg (by simp; omega)]
    ·unfold g_path_Weight_b0
     simp only []
     rw [if_neg (by simp; omega)]
     simp
   ·rw [whileN_run (fun j=>(((wR h seen (q.drop (q.length - j)):Nat):Int),(if j=0 then 0 else ys.getD (j - 1) 0),(j:Int))) q.length (.inl ()) (by simp [wR]) hstep ?_ (by omega),
     whileN_run (s0:=0) (fun j:Nat => (j:Int)) q.length (.inl ()) rfl rstep ?_ (by omega)]
    ·exact ⟨_,rfl,rfl⟩
    ·unfold g_ref18_Weight_b0
     rw [if_pos (by simp; omega),lkI_nat hi]
     simp only [Option.bind_some]
     by_cases c:ys[q.length] < 0
     ·rw [if_pos (by simpa using c)]
     ·rw [if_neg (by simpa using c),if_pos (by rw [v.firstL]; simp; omega)]
    ·unfold g_path_Weight_b0
     simp only []
     rw [if_pos (by simp; omega),lkI_nat hi]
     simp only [Option.bind_some]
     by_cases c:ys[q.length] < 0
     ·rw [if_pos (by simpa using c)]
     ·rw [if_neg (by simpa using c),if_pos (by rw [v.firstL]; simp; omega)]
  ·rw [if_pos (by simp; omega),if_neg (by simpa using e),if_pos (by simp; omega)]
   exact ⟨_,rfl,rfl⟩
 ·rw [if_neg e,if_pos (by simpa using e),if_pos (by simpa using e)]
  exact ⟨_,rfl,rfl⟩
end Go.Ab
namespace Go.Ab
open Go
set_option maxRecDepth 100000
theorem places_ok (N:Nat) (hN:N≤1000) (l:List Int) (m:Int) (hm:m≠0):∃x,g_law18_places (N:Int) l m=some x:=by
 unfold g_law18_places
 refine Exists.elim (whileN_ex (body:=g_law18_places_b0 (N:Int) l m) (fun s=>∃k:Nat,k≤N∧s.1=(k:Int)∧s.2.length=k) (fun s=>N - s.1.toNat) (fun _=>True) ?_ (0,[]) ⟨0,by omega,rfl,rfl⟩ (by simp; omega)) (fun r hr=>?_)
 ·rintro ⟨s,o⟩ ⟨k,hk,e,ho⟩
  simp only at e ho
  subst e
  unfold g_law18_places_b0
  simp only []
  by_cases c:k < N
  ·rw [if_pos (by simp; omega)]
   by_cases cl:0 < l.length
   ·rw [if_pos (by simp; omega),if_pos (by omega)]
    have h1:0≤Int.tmod (k:Int) (l.length:Int):=Int.tmod_nonneg _ (by omega)
    have h2:Int.tmod (k:Int) (l.length:Int) < (l.length:Int):=Int.tmod_lt_of_pos _ (by omega)
    rw [lkI_at h1 h2]
    simp only [Option.bind_some]
    rw [if_pos hm,if_pos (by simp; omega),w64 (by omega)]
    exact .inl ⟨_,rfl,⟨k+1,by omega,by simp,by simp [ho]⟩,by simp; omega⟩
   ·rw [if_neg (by rw [decide_eq_true_eq]; omega),if_pos (by rw [List.length_append,List.length_singleton]; omega),w64 (by omega)]
    exact .inl ⟨_,rfl,⟨k+1,by omega,by simp,by simp [ho]⟩,by simp; omega⟩
  ·rw [if_neg (by simp; omega)]
   exact .inr ⟨_,rfl,trivial⟩
 ·rw [hr.1]; exact ⟨_,rfl⟩
theorem weighs_b0 (x19 p3 x21 a17:List Int) (h:Tapi_Hidden) (ok:OkH h) (hx:a17.length≤281474976710656) (j:Nat) (hj:j < 3):g_law18_PathWeighs_b0 x19 p3 x21 h a17 (j:Int)=some (.next ((j+1:Nat):Int)):=by
 unfold g_law18_PathWeighs_b0
 rw [if_pos (by rw [decide_eq_true_eq]; omega),lkI_nat (by simpa using hj)]
 simp only [Option.bind_some]
 obtain ⟨x,e1,e2⟩:=weights_same h a17 (([x19,(sub p3 0 (if 10 < (p3.length:Int) then 10 else (p3.length:Int))),x21]:(List (List Int)))[j]'(by simpa using hj)) ok hx
 rw [e1]; simp only [Option.bind_some]
 rw [e2]; simp only [Option.bind_some]
 rw [if_neg (by simp),if_neg (by simp),w64 (by omega)]
 rfl
theorem weighs_b1 (x12 p3 p2:List Int) (p0:Tharuspexref17_Draft) (h0:okTharuspexref17_Draft p0) (h:Tapi_Hidden) (ok:OkH h) (hx:x12.length≤8) (j:Nat) (hj:j < 2):g_law18_PathWeighs_b1 x12 p3 p2 p0 h (j:Int)=some (.next ((j+1:Nat):Int)):=by
 unfold g_law18_PathWeighs_b1
 have l3:=lim_ok p3 10
 have s3:=sub_lim p3 10
 rw [show ((10:Nat):Int)=10 from rfl] at l3 s3
 rw [if_pos (by rw [decide_eq_true_eq]; omega),lkI_nat (by simpa using hj)]
 simp only [Option.bind_some]
 have ha:(([x12,(sub p3 0 (if 10 < (p3.length:Int) then 10 else (p3.length:Int)))]:(List (List Int)))[j]'(by simpa using hj)).length≤10:=by
  match j,hj with
  | 0,_=>show x12.length≤10; omega
  | 1,_=>show (sub p3 0 _).length≤10; rw [s3,List.length_take]; omega
 generalize (([x12,(sub p3 0 (if 10 < (p3.length:Int) then 10 else (p3.length:Int)))]:(List (List Int)))[j]'(by simpa using hj))=a17 at *
 have hst:=wf_u8 h0.2.1
 have ht0:0≤Int.tmod p0.States 4:=Int.tmod_nonneg _ hst.1
 have ht1:Int.tmod p0.States 4 < 4:=Int.tmod_lt_of_pos _ (by omega)
 obtain ⟨x19,e1⟩:=places_ok a17.length (by omega) p2 (IntKind.i64.wrap (1+(IntKind.i64.wrap (Int.tmod p0.States 4)))) (by rw [w64 (n:=Int.tmod p0.States 4) (by omega),w64 (by omega)]; omega)
 rw [e1]; simp only [Option.bind_some]
 rw [if_pos l3]
 obtain ⟨x21,e2⟩:=places_ok (a17.length+1) (by omega) p2 1 (by omega)
 rw [show IntKind.i64.wrap ((a17.length:Int)+1)=((a17.length+1:Nat):Int) by rw [w64 (by omega)]; rfl,e2]
 simp only [Option.bind_some]
 rw [whileN_run (s0:=(0:Int)) (fun j=>(j:Int)) 3 (Sum.inr ()) rfl (fun j hj=>weighs_b0 x19 p3 x21 a17 h ok (by omega) j hj) (by unfold g_law18_PathWeighs_b0; rfl) (by omega)]
 simp only [Option.bind_some]
 rw [w64 (by omega)]; rfl
theorem wakes18_true:g_law18_wakes=some true:=by kernel_rfl
theorem weighs_true (p0:Tharuspexref17_Draft) (p1:Tharuspexref17_Bend) (p2:List Int) (p3:List Int) (h0:okTharuspexref17_Draft p0) (h1:okTharuspexref17_Bend p1) (h2:p2.length≤maxLen∧∀y0∈p2,(Lit.int .u8 y0).wf=true) (h3:p3.length≤maxLen∧∀y0∈p3,(Lit.int .i64 y0).wf=true):g_law18_PathWeighs p0 p1 p2 p3=some true:=by
 unfold g_law18_PathWeighs
 rw [wakes18_true]
 simp only [Option.bind_some]
 rw [if_neg (by simp)]
 obtain ⟨a,b,g,n,k,e,e1,v,hk,fa,fb⟩:=chains_ok p0 p1 h0 h1
 obtain ⟨x,ex,x1,x8,xs⟩:=what_ok p0 h0 hk
 have l3:=lim_ok p3 10
 rw [show ((10:Nat):Int)=10 from rfl] at l3
 rw [e]
 simp only [Option.bind_some]
 rw [whileN_run (s0:=(0:Int)) (fun j=>(j:Int)) 2 (Sum.inr ()) rfl (fun j hj=>?_) (by unfold g_law18_PathWeighs_b2; rfl) (by omega)]
 ·rfl
 ·unfold g_law18_PathWeighs_b2
  rw [if_pos (by rw [decide_eq_true_eq]; omega),lkI_nat (by simpa using hj)]
  simp only [Option.bind_some]
  have hf:FewH (([a,b]:List Tapi_Hidden)[j]'(by simpa using hj)):=by
   match j,hj with
   | 0,_=>exact fa
   | 1,_=>exact fb
  generalize (([a,b]:List Tapi_Hidden)[j]'(by simpa using hj))=h at *
  rw [ex]; simp only [Option.bind_some]
  rw [if_pos l3,whileN_run (s0:=(0:Int)) (fun j=>(j:Int)) 2 (Sum.inr ()) rfl (fun j hj=>weighs_b1 x p3 p2 p0 h0 h hf.ok x8 j hj) (by unfold g_law18_PathWeighs_b1; rfl) (by omega)]
  simp only [Option.bind_some]
  rw [w64 (by omega)]; rfl
end Go.Ab
