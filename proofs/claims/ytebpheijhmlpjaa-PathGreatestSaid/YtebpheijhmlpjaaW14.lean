/- What functions compute. No conditions. -/
import Derived.Test.YtebpheijhmlpjaaW13
import Derived.Test.YtebpheijhmlpjaaW9
set_option linter.all false
namespace Go.Ab
open Go
set_option maxRecDepth 100000
theorem leW_ok:OrdOk leW:=⟨order18.trans,order18.total,order18.anti⟩
def beh (w s:Nat) (x:Tpath_weighed):Tpath_weighed:=⟨(w:Int)*x.weight,(s:Int)::x.path⟩
theorem leW_beh {w s:Nat} (hw:w≠0) (x y:Tpath_weighed):leW (beh w s x) (beh w s y)=leW x y:=by
 have hp:(0:Int) < (w:Int):=by omega
 unfold leW beh
 simp only [lexLe,Int.lt_irrefl,decide_false,Bool.false_or,beq_self_eq_true,Bool.true_and]
 rw [Bool.eq_iff_iff]
 simp only [Bool.or_eq_true,Bool.and_eq_true,decide_eq_true_eq,beq_iff_eq]
 rw [Int.mul_lt_mul_left hp,Int.mul_eq_mul_left_iff (by omega)]
def allW (wt:Nat → Nat → Nat → Nat) (n:Nat):Nat → Nat → Nat → List Tpath_weighed
 | 0,_,_=>[⟨1,[]⟩]
 | d+1,t,r=>(List.range n).flatMap fun s=>if wt t r s=0 then [] else (allW wt n d (t+1) s).map (beh (wt t r s) s)
def topC (wt:Nat → Nat → Nat → Nat) (n k d t r:Nat):List Tpath_weighed:=topL leW k (allW wt n d t r)
def behL (wt:Nat → Nat → Nat → Nat) (n k d t r s:Nat):List Tpath_weighed:=if wt t r s=0 then [] else (topC wt n k d (t+1) s).map (beh (wt t r s) s)
theorem top_flat {T:Type} {le:T→T→Bool} (O:OrdOk le) (k:Nat) (f g:Nat → List T) (h:∀s,topL le k (f s)=topL le k (g s)):∀n,topL le k ((List.range n).flatMap f)=topL le k ((List.range n).flatMap g)
 | 0=>rfl
 | n+1=>by
  rw [List.range_succ,List.flatMap_append,List.flatMap_append]
  simp only [List.flatMap_cons,List.flatMap_nil,List.append_nil]
  rw [←top_app2 O,←top_app2 O k ((List.range n).flatMap g),top_flat O k f g h n,h n]
theorem topC_succ (wt:Nat → Nat → Nat → Nat) (n k d t r:Nat):topC wt n k (d+1) t r=topL leW k ((List.range n).flatMap (behL wt n k d t r)):=by
 unfold topC
 rw [allW]
 refine top_flat leW_ok k _ _ (fun s=>?_) n
 unfold behL
 by_cases c:wt t r s=0
 ·rw [if_pos c,if_pos c]
 ·rw [if_neg c,if_neg c]
  rw [top_map leW_ok _ (leW_beh c),top_map leW_ok _ (leW_beh c)]
  unfold topC
  rw [top_top leW_ok]
def fI (q:List Nat):List Int:=q.map fun s:Nat => (s:Int)
theorem fI_cons (s:Nat) (q:List Nat):fI (s::q)=(s:Int)::fI q:=rfl
theorem fI_len (q:List Nat):(fI q).length=q.length:=by simp [fI]
def wP (wt:Nat → Nat → Nat → Nat):Nat → Nat → List Nat → Nat
 | _,_,[]=>1
 | t,r,s::q=>wt t r s*wP wt (t+1) s q
theorem allW_mem {wt:Nat → Nat → Nat → Nat} {n:Nat} {x:Tpath_weighed}:∀{d t r:Nat},x∈allW wt n d t r↔∃q:List Nat,q.length=d∧(∀s∈q,s < n)∧wP wt t r q≠0∧x=⟨(wP wt t r q:Nat),fI q⟩
 | 0,t,r=>by
  simp only [allW,List.mem_singleton]
  constructor
  ·rintro rfl; exact ⟨[],rfl,by simp,by simp [wP],rfl⟩
  ·rintro ⟨q,h1,_,_,rfl⟩
   rw [List.length_eq_zero_iff.1 h1]; rfl
 | d+1,t,r=>by
  rw [allW,List.mem_flatMap]
  constructor
  ·rintro ⟨s,hs,hx⟩
   rw [List.mem_range] at hs
   by_cases c:wt t r s=0
   ·rw [if_pos c] at hx; simp at hx
   ·rw [if_neg c] at hx
    obtain ⟨y,hy,rfl⟩:=List.mem_map.1 hx
    obtain ⟨q,h1,h2,h3,rfl⟩:=allW_mem.1 hy
    refine ⟨s::q,by simp [h1],fun z hz=>?_,?_,?_⟩
    ·rcases List.mem_cons.1 hz with rfl | hz
     ·exact hs
     ·exact h2 z hz
    ·simp only [wP]; exact Nat.mul_ne_zero c h3
    ·simp only [beh,wP,fI_cons,Int.natCast_mul]
  ·rintro ⟨q,h1,h2,h3,rfl⟩
   cases q with
   | nil=>simp at h1
   | cons s q =>
    simp only [wP] at h3
    refine ⟨s,List.mem_range.2 (h2 s (by simp)),?_⟩
    have c:wt t r s≠0:=fun e=>h3 (by rw [e,Nat.zero_mul])
    rw [if_neg c]
    refine List.mem_map.2 ⟨_,allW_mem.2 ⟨q,by simpa using h1,fun z hz=>h2 z (by simp [hz]),fun e=>h3 (by rw [e,Nat.mul_zero]),rfl⟩,?_⟩
    simp only [beh,wP,fI_cons,Int.natCast_mul]
theorem wP_le {wt:Nat → Nat → Nat → Nat} {n B:Nat} (hB:∀t r s,r < n→s < n→wt t r s≤B):∀{q:List Nat} {t r:Nat},r < n→(∀s∈q,s < n)→wP wt t r q≤B^q.length
 | [],_,_,_,_=>by simp [wP]
 | s::q,t,r,hr,hq=>by
  simp only [wP,List.length_cons,Nat.pow_succ]
  rw [Nat.mul_comm]
  exact Nat.mul_le_mul (wP_le hB (hq s (by simp)) fun z hz=>hq z (by simp [hz])) (hB t r s hr (hq s (by simp)))
end Go.Ab
namespace Go.Ab
open Go
set_option maxRecDepth 100000
def tabG {β:Type} (n T:Nat) (M:Nat → Nat → β) (m:Nat):List (List β):=(List.range (T+1)).map fun j=>if j < m then [] else if j=0 then [M 0 0] else rowG n (M j)
section
variable {β:Type} {n T:Nat} {M:Nat → Nat → β}
theorem tabG_len {m:Nat}:(tabG n T M m).length=T+1:=by simp [tabG]
theorem tabG_at {m i:Nat} (hi:i≤T):(tabG n T M m)[i]?=some (if i < m then [] else if i=0 then [M 0 0] else rowG n (M i)):=by
 unfold tabG
 rw [List.getElem?_map,List.getElem?_range (by omega)]
 rfl
theorem tabG_set {i:Nat} (hi:i≤T):(tabG n T M (i+1)).set i (if i=0 then [M 0 0] else rowG n (M i))=tabG n T M i:=by
 refine List.ext_getElem? fun j=>?_
 rw [List.getElem?_set]
 by_cases hj:j≤T
 ·rw [tabG_at hj,tabG_at hj]
  by_cases e:i=j
  ·subst e; rw [if_pos rfl,if_pos (by rw [tabG_len]; omega)]; simp
  ·rw [if_neg e]
   by_cases c:j < i
   ·rw [if_pos (by omega),if_pos c]
   ·rw [if_neg (by omega),if_neg c]
 ·rw [if_neg (by omega),List.getElem?_eq_none (by rw [tabG_len]; omega),List.getElem?_eq_none (by rw [tabG_len]; omega)]
theorem tabG_top (h1:1≤T):(List.replicate (T+1) ([]:List β)).set T (rowG n (M T))=tabG n T M T:=by
 refine List.ext_getElem? fun j=>?_
 rw [List.getElem?_set]
 by_cases hj:j≤T
 ·rw [tabG_at hj]
  by_cases e:T=j
  ·subst e
   rw [if_pos rfl,if_pos (by simp),if_neg (by omega),if_neg (by omega)]
  ·rw [if_neg e,List.getElem?_replicate,if_pos (by omega),if_pos (by omega)]
 ·rw [if_neg (by omega),List.getElem?_eq_none (by simp; omega),List.getElem?_eq_none (by rw [tabG_len]; omega)]
theorem tabG_row {body:(Int × List (List β))→Option (Step (Int × List (List β)) (List (List β)))} {m t:Nat} (L:List (List β)) (hm:m≤1000) (h0:L[t]?=some [])
  (step:∀j,j < m→∀L',L'[t]?=some (rowG j (M t))→L'[t+1]?=L[t+1]?→body ((j:Int),L')=some (.next (((j+1:Nat):Int),L'.set t (rowG (j+1) (M t)))))
  (done:∀L',body ((m:Int),L')=some (.done L')):whileN fuel body (0,L)=some (L.set t (rowG m (M t))):=by
 have hl1:t < L.length:=(List.getElem?_eq_some_iff.1 h0).1
 refine whileN_run (fun j=>((j:Int),L.set t (rowG j (M t)))) m _ ?_ ?_ (done _) (by omega)
 ·refine Prod.ext rfl ?_
  refine List.ext_getElem? fun i=>?_
  rw [List.getElem?_set]
  by_cases e:t=i
  ·subst e; rw [if_pos rfl,if_pos hl1,h0]; rfl
  ·rw [if_neg e]
 ·intro j hj
  rw [step j hj _ (by rw [List.getElem?_set,if_pos rfl,if_pos hl1]) (by rw [List.getElem?_set,if_neg (by omega)]),List.set_set]
theorem tabG_loop {body:(Int × List (List β))→Option (Step (Int × List (List β)) (List (List β)))} (h1:1≤T) (h8:T≤1000)
  (hZ:∀L,L[0]?=some []→L[1]?=some (rowG n (M 1))→body (0,L)=some (.next (-1,L.set 0 [M 0 0])))
  (hS:∀t,1≤t→t < T→∀L,L.length=T+1→L[t]?=some []→L[t+1]?=some (rowG n (M (t+1)))→body ((t:Int),L)=some (.next ((t:Int) - 1,L.set t (rowG n (M t)))))
  (hD:∀L,body (-1,L)=some (.done L)):whileN fuel body (((T - 1:Nat):Int),tabG n T M T)=some (tabG n T M 0):=by
 refine whileN_run (fun c=>((T:Int) - 1 - (c:Int),tabG n T M (T - c))) T _ ?_ ?_ ?_ (by omega)
 ·refine Prod.ext ?_ rfl
  simp only []; omega
 ·intro c hc
  obtain ⟨i,hi⟩:∃i,T - c=i+1:=⟨T - c - 1,by omega⟩
  rw [show (T:Int) - 1 - (c:Int)=(i:Int) by omega,hi,show T - (c+1)=i by omega,show (T:Int) - 1 - ((c+1:Nat):Int)=(i:Int) - 1 by omega]
  have hs:=tabG_set (n:=n) (M:=M) (i:=i) (T:=T) (by omega)
  by_cases e:i=0
  ·subst e
   rw [if_pos rfl] at hs
   rw [show ((0:Nat):Int)=0 from rfl,hZ _ (by rw [tabG_at (by omega),if_pos (by omega)]) (by rw [tabG_at (by omega),if_neg (by omega),if_neg (by omega)]),hs]; rfl
  ·rw [if_neg e] at hs
   rw [hS i (by omega) (by omega) _ tabG_len (by rw [tabG_at (by omega),if_pos (by omega)]) (by rw [tabG_at (by omega),if_neg (by omega),if_neg (by omega)]),hs]
 ·rw [show (T:Int) - 1 - (T:Int)=-1 by omega,hD,Nat.sub_self]
end
def wtN (h:Tapi_Hidden) (seen:List Int) (t r s:Nat):Nat := (if t=0 then nat1 h.First s else nat2 h.Step r s)*shN h (seen.getD t 0) s
section
variable {h:Tapi_Hidden} {g n k:Nat} (v:VH h g n k) {seen:List Int} {T:Nat} (w:VS k seen T)
include v
theorem VH.wtN_le (t r s:Nat) (hr:r < n) (hs:s < n):wtN h seen t r s≤144:=by
 unfold wtN
 have h1:=v.sh_le (seen.getD t 0) hs
 have h12:=v.g12
 have h2:(if t=0 then nat1 h.First s else nat2 h.Step r s)≤12:=by
  split
  ·have:=v.first_le hs; omega
  ·have:=v.step_le hr hs; omega
 exact Nat.le_trans (Nat.mul_le_mul h2 (Nat.le_trans h1 h12)) (by omega)
include w
theorem VH.into {t r s:Nat} (ht:t < T) (hr:r < n) (hs:s < n):g_path_searcher_into ⟨h,seen⟩ (t:Int) (r:Int) (s:Int)=some ((wtN h seen t r s:Nat):Int):=by
 unfold wtN
 cases t with
 | zero=>rw [if_pos rfl]; exact v.into0 w ht hs _
 | succ t=>rw [if_neg (by omega)]; exact v.intoS w ht hr hs
end
end Go.Ab
namespace Go.Ab
open Go
set_option maxRecDepth 100000
theorem topC_zero (wt:Nat → Nat → Nat → Nat) (n k t r:Nat) (hk:1≤k):topC wt n k 0 t r=[⟨1,[]⟩]:=by
 unfold topC topL allW isort insL isort
 rw [List.take_of_length_le (by simpa using hk)]
theorem topC_mem {wt:Nat → Nat → Nat → Nat} {n k d t r:Nat} (hB:∀t r s,r < n→s < n→wt t r s≤144) (hr:r < n) {x:Tpath_weighed} (h:x∈topC wt n k d t r) :
  1≤x.weight∧x.weight≤((144^d:Nat):Int)∧x.path.length=d∧∃q:List Nat,q.length=d∧(∀s∈q,s < n)∧wP wt t r q≠0∧x=⟨(wP wt t r q:Nat),fI q⟩:=by
 obtain ⟨q,h1,h2,h3,rfl⟩:=allW_mem.1 (top_mem h)
 have:=wP_le hB hr h2 (t:=t)
 rw [h1] at this
 refine ⟨by show (1:Int)≤((wP wt t r q:Nat):Int); omega,by show ((wP wt t r q:Nat):Int)≤_; omega,by show (fI q).length=d; rw [fI_len,h1],q,h1,h2,h3,rfl⟩
theorem pow144 {d:Nat} (hd:d≤8):144^d≤184884258895036416:=Nat.le_trans (Nat.pow_le_pow_right (by omega) hd) (by decide)
section
variable {h:Tapi_Hidden} {g n c:Nat} (v:VH h g n c) {seen:List Int} {T k:Nat} (w:VS c seen T) (hT:1≤T∧T≤8) (hk:1≤k∧k≤20)
include v w hT hk
end
section
variable {h:Tapi_Hidden} {seen:List Int} {g n c:Nat} (a:Valid h seen g n c) {k:Nat} (hk:1≤k∧k≤20)
include a hk
end
end Go.Ab
namespace Go.Ab
open Go
set_option maxRecDepth 100000
section
variable {h:Tapi_Hidden} {g n c:Nat} (v:VH h g n c) {seen:List Int} {T k:Nat} (w:VS c seen T) (hT:1≤T∧T≤8) (hk:1≤k∧k≤20)
include v w hT hk
end
end Go.Ab
namespace Go.Ab
open Go
set_option maxRecDepth 100000
def maxTo:Nat → (Nat → Nat)→Nat
 | 0,_=>0
 | j+1,f=>if f j > maxTo j f then f j else maxTo j f
theorem maxTo_argm (f:Nat → Nat):∀(n:Nat),maxTo (n+1) f=f (argm f (n+1))
 | 0=>by
  simp only [maxTo,argm,Nat.lt_irrefl,gt_iff_lt,if_false]
  split <;> omega
 | n+1=>by
  rw [maxTo,maxTo_argm f n]
  rw [show argm f (n+1+1)=if f (n+1) > f (argm f (n+1)) then n+1 else argm f (n+1) from rfl]
  split <;> rfl
theorem maxTo_le {f:Nat → Nat} {B:Nat}:∀{n:Nat},(∀k,k < n→f k≤B)→maxTo n f≤B
 | 0,_=>by simp [maxTo]
 | n+1,h=>by
  simp only [maxTo]
  have h1:=maxTo_le (n:=n) (fun k hk=>h k (Nat.lt_succ_of_lt hk))
  have:=h n (by omega)
  split
  ·exact this
  ·exact h1
def mxC (wt:Nat → Nat → Nat → Nat) (n:Nat):Nat → Nat → Nat → Nat
 | 0,_,_=>1
 | d+1,t,r=>maxTo n fun s=>wt t r s*mxC wt n d (t+1) s
def bestQ (wt:Nat → Nat → Nat → Nat) (n:Nat):Nat → Nat → Nat → List Nat
 | 0,_,_=>[]
 | d+1,t,r=>argm (fun s=>wt t r s*mxC wt n d (t+1) s) n::bestQ wt n d (t+1) (argm (fun s=>wt t r s*mxC wt n d (t+1) s) n)
theorem mxC_le {wt:Nat → Nat → Nat → Nat} {n:Nat} (hB:∀t r s,r < n→s < n→wt t r s≤144):∀{d t r:Nat},r < n→mxC wt n d t r≤144^d
 | 0,_,_,_=>by simp [mxC]
 | d+1,t,r,hr=>by
  simp only [mxC]
  refine maxTo_le fun s hs=>?_
  rw [Nat.pow_succ,Nat.mul_comm]
  exact Nat.mul_le_mul (mxC_le hB hs) (hB t r s hr hs)
theorem top_one {le:Tpath_weighed→Tpath_weighed→Bool} (x:Tpath_weighed):topL le 1 [x]=[x]:=rfl
theorem top_two {le:Tpath_weighed→Tpath_weighed→Bool} (x y:Tpath_weighed):topL le 1 [x,y]=if le x y=true then [x] else [y]:=by
 show ((if le x y=true then [x,y] else y::[x]).take 1)=_
 by_cases c:le x y=true
 ·rw [if_pos c,if_pos c]; rfl
 ·rw [if_neg c,if_neg c]; rfl
theorem top1_flat (n:Nat) (F:Nat → Nat) (Q:Nat → List Nat) (B:Nat → List Tpath_weighed):(∀s,s < n→B s=if F s=0 then [] else [⟨(F s:Nat),fI (s::Q s)⟩]) →
  topL leW 1 ((List.range n).flatMap B)=if maxTo n F=0 then [] else [⟨(maxTo n F:Nat),fI (argm F n::Q (argm F n))⟩]:=by
 induction n with
 | zero=>intro _; simp [maxTo,top_nil]
 | succ m ih =>
  intro hB
  rw [List.range_succ,List.flatMap_append]
  simp only [List.flatMap_cons,List.flatMap_nil,List.append_nil]
  rw [←top_app leW_ok,ih fun s hs=>hB s (by omega),hB m (by omega)]
  by_cases c:F m=0
  ·have e1:maxTo (m+1) F=maxTo m F:=by rw [maxTo,if_neg (by omega)]
   have e2:argm F (m+1)=argm F m:=by rw [argm,if_neg (by omega)]
   rw [if_pos c,e1,e2]
   by_cases c2:maxTo m F=0
   ·rw [if_pos c2]; rfl
   ·rw [if_neg c2,List.append_nil,top_one]
  ·rw [if_neg c]
   have e0:maxTo (m+1) F≠0:=by rw [maxTo]; split <;> omega
   rw [if_neg e0]
   by_cases c2:maxTo m F=0
   ·rw [if_pos c2,List.nil_append,top_one,maxTo,if_pos (by omega)]
    have:argm F (m+1)=m:=by
     cases m with
     | zero=>simp [argm]
     | succ j =>
      have:=maxTo_argm F j
      rw [argm,if_pos (by omega)]
    rw [this]
   ·rw [if_neg c2]
    obtain ⟨j,rfl⟩:∃j,m=j+1:=by
     cases m with
     | zero=>simp [maxTo] at c2
     | succ j=>exact ⟨j,rfl⟩
    have hm:=maxTo_argm F j
    have ha:=argm_lt F (j+1) (by omega)
    rw [List.singleton_append,top_two,show maxTo (j+1+1) F=if F (j+1) > maxTo (j+1) F then F (j+1) else maxTo (j+1) F from rfl,
     show argm F (j+1+1)=if F (j+1) > F (argm F (j+1)) then j+1 else argm F (j+1) from rfl,←hm]
    by_cases c3:F (j+1) > maxTo (j+1) F
    ·rw [if_pos c3,if_pos c3,if_neg]
     unfold leW
     simp only [Bool.or_eq_true,Bool.and_eq_true,decide_eq_true_eq,beq_iff_eq]
     omega
    ·rw [if_neg c3,if_neg c3,if_pos]
     unfold leW
     simp only [Bool.or_eq_true,Bool.and_eq_true,decide_eq_true_eq,beq_iff_eq]
     by_cases c4:F (j+1) < maxTo (j+1) F
     ·left; omega
     ·right
      refine ⟨by omega,?_⟩
      rw [fI_cons,fI_cons]
      simp only [lexLe,Bool.or_eq_true,decide_eq_true_eq]
      left; omega
theorem topC_one (wt:Nat → Nat → Nat → Nat) (n:Nat):∀(d t r:Nat),topC wt n 1 d t r=if mxC wt n d t r=0 then [] else [⟨(mxC wt n d t r:Nat),fI (bestQ wt n d t r)⟩]
 | 0,t,r=>by rw [topC_zero _ _ _ _ _ (by omega)]; rfl
 | d+1,t,r=>by
  rw [topC_succ,top1_flat n (fun s=>wt t r s*mxC wt n d (t+1) s) (fun s=>bestQ wt n d (t+1) s) _ (fun s hs=>?_)]
  ·rfl
  ·unfold behL
   rw [topC_one wt n d (t+1) s]
   by_cases c:wt t r s=0
   ·rw [if_pos c,if_pos (by rw [c,Nat.zero_mul])]
   ·rw [if_neg c]
    by_cases c2:mxC wt n d (t+1) s=0
    ·rw [if_pos c2,if_pos (by rw [c2,Nat.mul_zero])]; rfl
    ·rw [if_neg c2,if_neg (Nat.mul_ne_zero c c2)]
     simp only [List.map_cons,List.map_nil,beh,fI_cons,Int.natCast_mul]
section
variable {h:Tapi_Hidden} {g n c:Nat} (v:VH h g n c) {seen:List Int} {T:Nat} (w:VS c seen T) (hT:1≤T∧T≤8)
include v w hT
theorem VH.best_step (e0:Int) {t r:Nat} (ht:t < T) (hr:r < n) (s14 tbl:List (List Int)) (hrow:lkI tbl ((t+1:Nat):Int)=some (rowG n fun s=>((mxC (wtN h seen) n (T - (t+1)) (t+1) s:Nat):Int))) :
  whileN fuel (g_path_Best_b2 (⟨h,seen⟩,e0) ((t:Int),s14) ((r:Int),tbl)) (0,0)=some ((mxC (wtN h seen) n (T - t) t r:Nat):Int):=by
 have hn4:=v.n4
 have hB:=v.wtN_le (seen:=seen)
 obtain ⟨d,hd⟩:∃d,T - t=d+1:=⟨T - t - 1,by omega⟩
 rw [show T - (t+1)=d by omega] at hrow
 rw [hd,mxC]
 refine whileN_run (fun j=>(((maxTo j (fun s=>wtN h seen t r s*mxC (wtN h seen) n d (t+1) s):Nat):Int),(j:Int))) n _ (by simp [maxTo]) ?_ ?_ (by omega)
 ·intro j hj
  unfold g_path_Best_b2
  simp only [v.firstL]
  rw [if_pos (by rw [decide_eq_true_eq]; omega),v.into w ht hr hj]
  simp only [Option.bind_some]
  rw [show IntKind.i64.wrap ((t:Int)+1)=((t+1:Nat):Int) by rw [w64 (by omega)]; omega,hrow]
  simp only [Option.bind_some]
  rw [rowG_get hj]
  simp only [Option.bind_some]
  have hp:=pow144 (d:=d+1) (by omega)
  rw [Nat.pow_succ,Nat.mul_comm] at hp
  have hm:=Nat.mul_le_mul (hB t r j hr hj) (mxC_le hB hj (d:=d) (t:=t+1))
  unfold g_path_multiplied g_path_Best_1
  simp only [Option.bind_some]
  rw [←Int.natCast_mul,w64 (n:=((wtN h seen t r j*mxC (wtN h seen) n d (t+1) j:Nat):Int)) (by omega),w64 (by omega),maxTo]
  by_cases c:wtN h seen t r j*mxC (wtN h seen) n d (t+1) j > maxTo j fun s=>wtN h seen t r s*mxC (wtN h seen) n d (t+1) s
  ·rw [if_pos (by omega),if_pos c]; rfl
  ·rw [if_neg (by omega),if_neg c]; rfl
 ·unfold g_path_Best_b2
  simp only [v.firstL]
  rw [if_neg (by simp)]
theorem VH.best_loop (e0:Int):whileN fuel (g_path_Best_b4 (⟨h,seen⟩,e0)) (((T - 1:Nat):Int),tabG n T (fun t r=>((mxC (wtN h seen) n (T - t) t r:Nat):Int)) T)=some (tabG n T (fun t r=>((mxC (wtN h seen) n (T - t) t r:Nat):Int)) 0):=by
 have hn4:=v.n4
 have hn1:=v.n1
 refine tabG_loop hT.1 (by omega) (fun L h0 h1=>?_) (fun t t1 t2 L hL h0 h1=>?_) (fun L=>?_)
 ·unfold g_path_Best_b4
  simp only []
  rw [if_pos (by simp),if_pos (by simp)]
  rw [tabG_row (m:=1) (t:=0) (M:=fun t r=>((mxC (wtN h seen) n (T - t) t r:Nat):Int)) L (by omega) h0 (fun j hj L' e1 e2=>?_) (fun L'=>by unfold g_path_Best_b1; simp only []; rw [if_neg (by simp)])]
  ·simp only [Option.bind_some]
   rw [w64 (by omega)]; rfl
  ·obtain rfl:j=0:=by omega
   unfold g_path_Best_b1
   simp only []
   rw [if_pos (by simp)]
   have e:=v.best_step w hT e0 (t:=0) (r:=0) (by omega) (by omega) L L' (lkI_q (i:=1) (by rw [e2]; exact h1))
   rw [show whileN fuel (g_path_Best_b0 (⟨h,seen⟩,e0) (0,L) (((0:Nat):Int),L')) (0,0)=_ from e]
   simp only [Option.bind_some]
   rw [show lkI L' 0=some [] from lkI_q (i:=0) e1]
   simp only [Option.bind_some]
   rw [if_pos (by simp),List.set_set]
   rfl
 ·unfold g_path_Best_b4
  simp only []
  rw [if_pos (by rw [decide_eq_true_eq]; omega),if_neg (by rw [beq_iff_eq]; omega)]
  rw [tabG_row (m:=n) (t:=t) (M:=fun t r=>((mxC (wtN h seen) n (T - t) t r:Nat):Int)) L (by omega) h0 (fun j hj L' e1 e2=>?_) (fun L'=>by unfold g_path_Best_b3; simp only [v.firstL]; rw [if_neg (by simp)])]
  ·simp only [Option.bind_some]
   rw [w64 (by omega)]
  ·unfold g_path_Best_b3
   simp only [v.firstL]
   rw [if_pos (by rw [decide_eq_true_eq]; omega),v.best_step w hT e0 (t:=t) (r:=j) t2 hj L L' (lkI_q (by rw [e2]; exact h1))]
   simp only [Option.bind_some]
   rw [lkI_q e1]
   simp only [Option.bind_some]
   rw [if_pos (by rw [List.length_append,List.length_singleton,rowG_len]; omega),w64 (by omega),nat_i,List.set_set,rowG_succ]
   rfl
 ·unfold g_path_Best_b4
  simp only []
  rw [if_neg (by simp)]
theorem VH.best_at (e0:Int) {t r d:Nat} (hd:T - t=d+1) (hr:r < n) (h00:t=0→r=0) (q:List Int) (hq:q.length≤100) :
  whileN fuel (g_path_Best_b5 (⟨h,seen⟩,e0) ((r:Int),(t:Int),q) (tabG n T (fun t r=>((mxC (wtN h seen) n (T - t) t r:Nat):Int)) 0)) 0 =
   some (Sum.inl (((argm (fun s=>wtN h seen t r s*mxC (wtN h seen) n d (t+1) s) n:Nat):Int),q++[((argm (fun s=>wtN h seen t r s*mxC (wtN h seen) n d (t+1) s) n:Nat):Int)])):=by
 have hn4:=v.n4
 have hn1:=v.n1
 have hB:=v.wtN_le (seen:=seen)
 have ht:t < T:=by omega
 generalize hF:(fun s=>wtN h seen t r s*mxC (wtN h seen) n d (t+1) s)=F
 have hFs:∀s,wtN h seen t r s*mxC (wtN h seen) n d (t+1) s=F s:=fun s=>by rw [←hF]
 have hmx:mxC (wtN h seen) n (T - t) t r=F (argm F n):=by
  obtain ⟨m,rfl⟩:∃m,n=m+1:=⟨n - 1,by omega⟩
  rw [hd,mxC,hF,maxTo_argm]
 have ha:=argm_lt F n (by omega)
 have body:∀s,s < n→g_path_Best_b5 (⟨h,seen⟩,e0) ((r:Int),(t:Int),q) (tabG n T (fun t r=>((mxC (wtN h seen) n (T - t) t r:Nat):Int)) 0) (s:Int) =
   if F s=F (argm F n) then some (.done (Sum.inl ((s:Int),q++[(s:Int)]))) else some (.next ((s+1:Nat):Int)):=fun s hs=>by
  unfold g_path_Best_b5
  simp only [v.firstL]
  rw [if_pos (by rw [decide_eq_true_eq]; omega),v.into w ht hr hs]
  simp only [Option.bind_some]
  rw [show IntKind.i64.wrap ((t:Int)+1)=((t+1:Nat):Int) by rw [w64 (by omega)]; omega,lkI_q (tabG_at (by omega))]
  simp only [Option.bind_some,Nat.not_lt_zero,if_false,Nat.add_one_ne_zero]
  rw [rowG_get hs]
  simp only [Option.bind_some]
  rw [lkI_q (tabG_at (by omega))]
  simp only [Option.bind_some,Nat.not_lt_zero,if_false]
  have e3:lkI (if t=0 then [((mxC (wtN h seen) n (T - 0) 0 0:Nat):Int)] else rowG n fun r=>((mxC (wtN h seen) n (T - t) t r:Nat):Int)) (r:Int)=some ((F (argm F n):Nat):Int):=by
   by_cases t0:t=0
   ·rw [if_pos t0,h00 t0]
    rw [←hmx,h00 t0,t0]; rfl
   ·rw [if_neg t0,rowG_get hr,hmx]
  rw [e3]
  simp only [Option.bind_some]
  have hp:=pow144 (d:=d+1) (by omega)
  rw [Nat.pow_succ,Nat.mul_comm] at hp
  have hm:=Nat.mul_le_mul (hB t r s hr hs) (mxC_le hB hs (d:=d) (t:=t+1))
  rw [show T - (t+1)=d by omega,←Int.natCast_mul,w64 (n:=((wtN h seen t r s*mxC (wtN h seen) n d (t+1) s:Nat):Int)) (by omega),hFs s]
  by_cases c:F s=F (argm F n)
  ·rw [if_pos c,if_pos (by rw [c,beq_self_eq_true]),if_pos (by simp; omega)]
  ·rw [if_neg c,if_neg (by rw [beq_iff_eq]; omega),w64 (by omega)]; rfl
 refine whileN_run (fun j=>(j:Int)) (argm F n) _ rfl (fun j hj=>?_) ?_ (by omega)
 ·rw [body j (by omega),if_neg]
  have:=argm_first F n j hj
  omega
 ·rw [body _ ha,if_pos rfl]
end
section
variable {h:Tapi_Hidden} {seen:List Int} {g n c:Nat} (a:Valid h seen g n c)
include a
theorem Valid.best:g_path_Best h seen=some (if mxC (wtN h seen) n seen.length 0 0=0 then ([],0,7) else (fI (bestQ (wtN h seen) n seen.length 0 0),((mxC (wtN h seen) n seen.length 0 0:Nat):Int),0)):=by
 have hT:1≤seen.length∧seen.length≤8:=⟨a.t1,a.t8⟩
 have hn4:=a.v.n4
 have hn1:=a.v.n1
 unfold g_path_Best
 rw [searcher_eq h seen a.ok (by omega),if_pos a.e,a.e]
 have e1:IntKind.i64.wrap ((seen.length:Int)+1)=((seen.length+1:Nat):Int):=by rw [w64 (by omega)]; rfl
 have e2:IntKind.i64.wrap ((seen.length:Int) - 1)=((seen.length - 1:Nat):Int):=by rw [w64 (by omega)]; omega
 simp only [Option.bind_some,e1,e2,a.v.firstL,nat_i]
 rw [if_neg (by simp),if_pos (by omega),repeat1_eq n hn4]
 simp only [Option.bind_some]
 rw [lkI_q (i:=seen.length) (x:=[]) (by rw [List.getElem?_replicate,if_pos (by omega)])]
 simp only [Option.bind_some]
 have et:List.replicate n (1:Int)=rowG n ((fun t r=>((mxC (wtN h seen) n (seen.length - t) t r:Nat):Int)) seen.length):=by
  rw [rowG_rep]; exact rowG_congr fun s _=>by simp only [Nat.sub_self,mxC]; rfl
 rw [et,tabG_top (M:=fun t r=>((mxC (wtN h seen) n (seen.length - t) t r:Nat):Int)) hT.1,a.v.best_loop a.w hT 0]
 simp only [Option.bind_some]
 rw [show lkI (tabG n seen.length (fun t r=>((mxC (wtN h seen) n (seen.length - t) t r:Nat):Int)) 0) 0=some [((mxC (wtN h seen) n seen.length 0 0:Nat):Int)] from lkI_q (i:=0) (by rw [tabG_at (by omega),if_neg (by omega),if_pos rfl]; rfl)]
 simp only [Option.bind_some]
 rw [show ∀x:Int,lkI [x] 0=some x from fun _=>rfl]
 simp only [Option.bind_some]
 by_cases c:mxC (wtN h seen) n seen.length 0 0=0
 ·rw [if_pos c,if_pos (by rw [c]; rfl)]
 ·rw [if_neg c,if_neg (by rw [beq_iff_eq]; omega)]
  rw [whileN_eq (fun s=>∃(t r:Nat) (q:List Nat),s=((r:Int),(t:Int),fI q)∧t≤seen.length∧r < n∧(t=0→r=0)∧q.length=t∧q++bestQ (wtN h seen) n (seen.length - t) t r=bestQ (wtN h seen) n seen.length 0 0)
   (fun s=>seen.length - s.2.1.toNat) (fI (bestQ (wtN h seen) n seen.length 0 0)) (fun s hs=>?_) (0,0,[]) ⟨0,0,[],rfl,by omega,by omega,fun _=>rfl,rfl,rfl⟩ (by simp; omega)]
  ·rfl
  ·obtain ⟨t,r,q,rfl,h1,h2,h3,h4,h5⟩:=hs
   unfold g_path_Best_b6
   simp only []
   by_cases ct:t < seen.length
   ·left
    obtain ⟨d,hd⟩:∃d,seen.length - t=d+1:=⟨seen.length - t - 1,by omega⟩
    rw [if_pos (by rw [decide_eq_true_eq]; omega),a.v.best_at a.w hT 0 hd h2 h3 (fI q) (by rw [fI_len]; omega)]
    simp only [Option.bind_some]
    have ha:=argm_lt (fun s=>wtN h seen t r s*mxC (wtN h seen) n d (t+1) s) n (by omega)
    refine ⟨_,rfl,⟨t+1,_,q++[argm (fun s=>wtN h seen t r s*mxC (wtN h seen) n d (t+1) s) n],?_,by omega,ha,fun e=>by omega,by simp [h4],?_⟩,?_⟩
    ·rw [w64 (by omega)]
     refine Prod.ext rfl (Prod.ext rfl ?_)
     simp [fI]
    ·rw [←h5,hd,show seen.length - (t+1)=d by omega,bestQ,List.append_assoc]; rfl
    ·rw [w64 (by omega)]; simp only []; omega
   ·right
    rw [if_neg (by rw [decide_eq_true_eq]; omega)]
    have:t=seen.length:=by omega
    rw [this,Nat.sub_self,bestQ,List.append_nil] at h5
    rw [h5]
end
end Go.Ab
namespace Go.Ab
open Go
set_option maxRecDepth 100000
theorem fI_inj:∀{p q:List Nat},fI p=fI q→p=q
 | [],[],_=>rfl
 | [],_::_,h=>by simp [fI] at h
 | _::_,[],h=>by simp [fI] at h
 | x::p,y::q,h=>by
  rw [fI_cons,fI_cons,List.cons.injEq] at h
  rw [fI_inj h.2,show x=y by omega]
theorem fI_get {q:List Nat} {j:Nat} (hj:j < q.length):lkI (fI q) (j:Int)=some ((q[j]:Nat):Int):=by
 rw [lkI_nat (by rw [fI_len]; exact hj)]; simp [fI]
section
variable {h:Tapi_Hidden} {seen:List Int} {g n c:Nat} (a:Valid h seen g n c)
include a
theorem Valid.weight {q:List Nat} (hl:q.length=seen.length) (hq:∀s∈q,s < n):g_path_Weight h seen (fI q)=some (((wP (wtN h seen) 0 0 q:Nat):Int),0):=by
 have hT:1≤seen.length∧seen.length≤8:=⟨a.t1,a.t8⟩
 have hn4:=a.v.n4
 have hn1:=a.v.n1
 have hB:=a.v.wtN_le (seen:=seen)
 unfold g_path_Weight
 rw [searcher_eq h seen a.ok (by omega),if_pos a.e,a.e]
 simp only [Option.bind_some]
 rw [if_neg (by simp),if_neg (by rw [fI_len,hl]; simp)]
 rw [whileN_eq (fun s=>∃(x r j:Nat),s=((x:Int),(r:Int),(j:Int))∧j≤q.length∧r < n∧x≤144^j∧x*wP (wtN h seen) j r (q.drop j)=wP (wtN h seen) 0 0 q)
  (fun s=>q.length - s.2.2.toNat) (Sum.inr ((wP (wtN h seen) 0 0 q:Nat):Int)) (fun s hs=>?_) (1,0,0) ⟨1,0,0,rfl,by omega,by omega,by simp,by simp⟩ (by simp; omega)]
 ·rfl
 ·obtain ⟨x,r,j,rfl,h1,h2,h3,h4⟩:=hs
  unfold g_path_Weight_b0
  simp only [fI_len]
  by_cases cj:j < q.length
  ·left
   have hs:=hq _ (List.getElem_mem cj)
   rw [if_pos (by rw [decide_eq_true_eq]; omega),fI_get cj]
   simp only [Option.bind_some]
   rw [if_neg (by simp),if_neg (by rw [a.v.firstL,decide_eq_true_eq]; omega),a.v.into a.w (by omega) h2 hs]
   simp only [Option.bind_some]
   rw [List.drop_eq_getElem_cons cj] at h4
   simp only [wP] at h4
   have hp:=pow144 (d:=j+1) (by omega)
   have hm:=Nat.mul_le_mul h3 (hB j r _ h2 hs)
   rw [Nat.pow_succ] at hp
   rw [←Int.natCast_mul,w64 (by omega),w64 (by omega)]
   refine ⟨_,rfl,⟨_,_,j+1,rfl,by omega,hs,by rw [Nat.pow_succ]; exact hm,by rw [Nat.mul_assoc]; exact h4⟩,?_⟩
   simp only []; omega
  ·right
   rw [if_neg (by rw [decide_eq_true_eq]; omega)]
   rw [List.drop_eq_nil_of_le (by omega)] at h4
   simp only [wP,Nat.mul_one] at h4
   rw [h4]
end
theorem places_fI (N:Nat) (hN:N≤1000) (l:List Int) (m:Nat) (hm:1≤m) (hl:∀x∈l,0≤x∧x≤255):∃q:List Nat,g_law18_places (N:Int) l (m:Int)=some (fI q)∧q.length=N∧∀s∈q,s < m:=by
 unfold g_law18_places
 refine Exists.elim (whileN_ex (body:=g_law18_places_b0 (N:Int) l (m:Int)) (fun s=>∃(k:Nat) (q:List Nat),k≤N∧s.1=(k:Int)∧s.2=fI q∧q.length=k∧∀x∈q,x < m) (fun s=>N - s.1.toNat) (fun r=>∃q:List Nat,r=fI q∧q.length=N∧∀x∈q,x < m) ?_ (0,[]) ⟨0,[],by omega,rfl,rfl,rfl,by simp⟩ (by simp; omega)) (fun r hr=>?_)
 ·rintro ⟨s,o⟩ ⟨k,q,hk,e,ho,hq,hx⟩
  simp only at e ho
  subst e; subst ho
  unfold g_law18_places_b0
  simp only []
  have app:∀y:Nat,fI q++[((y:Nat):Int)]=fI (q++[y]):=fun y=>by simp [fI]
  by_cases c:k < N
  ·rw [if_pos (by simp; omega)]
   by_cases cl:0 < l.length
   ·rw [if_pos (by simp; omega),if_pos (by omega)]
    have h1:0≤Int.tmod (k:Int) (l.length:Int):=Int.tmod_nonneg _ (by omega)
    have h2:Int.tmod (k:Int) (l.length:Int) < (l.length:Int):=Int.tmod_lt_of_pos _ (by omega)
    rw [lkI_at h1 h2]
    simp only [Option.bind_some]
    have hb:=hl _ (List.getElem_mem (show (Int.tmod (k:Int) (l.length:Int)).toNat < l.length by omega))
    generalize l[(Int.tmod (k:Int) (l.length:Int)).toNat]=b at *
    have t1:0≤Int.tmod b (m:Int):=Int.tmod_nonneg _ hb.1
    have t2:Int.tmod b (m:Int) < (m:Int):=Int.tmod_lt_of_pos _ (by omega)
    obtain ⟨y,hy⟩:∃y:Nat,Int.tmod b (m:Int)=(y:Int):=⟨(Int.tmod b (m:Int)).toNat,by omega⟩
    rw [if_pos (by omega),w64 (n:=b) (by omega),hy,if_pos (by simp [fI]; omega),w64 (by omega),app]
    refine .inl ⟨_,rfl,⟨k+1,q++[y],by omega,by simp,rfl,by simp [hq],fun z hz=>?_⟩,by simp only []; omega⟩
    rcases List.mem_append.1 hz with hz | hz
    ·exact hx z hz
    ·simp at hz; omega
   ·rw [if_neg (by rw [decide_eq_true_eq]; omega),if_pos (by simp [fI]; omega),w64 (by omega),show (0:Int)=((0:Nat):Int) from rfl,app]
    refine .inl ⟨_,rfl,⟨k+1,q++[0],by omega,by simp,rfl,by simp [hq],fun z hz=>?_⟩,by simp only []; omega⟩
    rcases List.mem_append.1 hz with hz | hz
    ·exact hx z hz
    ·simp at hz; omega
  ·rw [if_neg (by simp; omega)]
   exact .inr ⟨_,rfl,q,rfl,by omega,hx⟩
 ·obtain ⟨h1,q,rfl,h2,h3⟩:=hr
  rw [h1]; exact ⟨q,rfl,h2,h3⟩
section
variable {T:Type} {le:T→T→Bool} (O:OrdOk le)
include O
theorem top_out {k:Nat} {a:List T} {x:T} (hx:x∈a) (hn:x ∉ topL le k a):(topL le k a).length=k∧∀y∈topL le k a,le y x=true:=by
 have hx':x∈isort le a:=(isort_perm le a).mem_iff.2 hx
 have hs:=isort_sorted O.trans O.total a
 unfold topL at hn ⊢
 rw [←List.take_append_drop k (isort le a)] at hx' hs
 rw [List.pairwise_append] at hs
 rcases List.mem_append.1 hx' with h | h
 ·exact absurd h hn
 ·refine ⟨?_,fun y hy=>hs.2.2 y hy x h⟩
  rw [List.length_take]
  have:0 < ((isort le a).drop k).length:=List.length_pos_of_mem h
  rw [List.length_drop] at this
  omega
end
section
variable (h:Tapi_Hidden) (n:Nat) (seen:List Int) (T:Nat)
end
end Go.Ab
namespace Go.Ab
open Go
set_option maxRecDepth 100000
theorem best_weight {h:Tapi_Hidden} {seen:List Int} {g n c:Nat} (a:Valid h seen g n c) (h0:mxC (wtN h seen) n seen.length 0 0≠0) :
  g_path_Weight h seen (fI (bestQ (wtN h seen) n seen.length 0 0))=some (((mxC (wtN h seen) n seen.length 0 0:Nat):Int),0):=by
 have hn1:=a.v.n1
 have hm:=topC_one (wtN h seen) n seen.length 0 0
 rw [if_neg h0] at hm
 obtain ⟨_,_,_,q,h1,h2,h3,h4⟩:=topC_mem (x:=⟨(mxC (wtN h seen) n seen.length 0 0:Nat),fI (bestQ (wtN h seen) n seen.length 0 0)⟩) (a.v.wtN_le (seen:=seen)) (show 0 < n by omega) (k:=1) (d:=seen.length) (t:=0) (by rw [hm]; simp)
 rw [Tpath_weighed.mk.injEq] at h4
 have e:=fI_inj h4.2
 rw [e,a.weight h1 h2]
 rw [h4.1]
theorem greatest_true (p0:Tharuspexref17_Draft) (p1:List Int) (h0:okTharuspexref17_Draft p0) (h1:p1.length≤maxLen∧∀y0∈p1,(Lit.int .u8 y0).wf=true):g_law18_PathGreatest p0 p1=some true:=by
 obtain ⟨h,seen,g,n,c,e1,e2,a⟩:=draft_valid p0 h0
 have hn1:=a.v.n1
 have hn4:=a.v.n4
 have ht1:=a.t1
 have ht8:=a.t8
 unfold g_law18_PathGreatest
 rw [wakes18_true]; simp only [Option.bind_some]
 rw [if_neg (by simp),e1]; simp only [Option.bind_some]
 rw [e2]; simp only [Option.bind_some]
 rw [a.best]; simp only [Option.bind_some]
 obtain ⟨q,hq1,hq2,hq3⟩:=places_fI seen.length (by omega) p1 n (by omega) (fun x hx=>wf_u8 (h1.2 x hx))
 rw [a.v.firstL,hq1]; simp only [Option.bind_some]
 rw [a.weight hq2 hq3]; simp only [Option.bind_some]
 rw [if_neg (by simp),if_neg (by rw [decide_eq_true_eq]; omega)]
 have hm:=topC_one (wtN h seen) n seen.length 0 0
 by_cases c0:mxC (wtN h seen) n seen.length 0 0=0
 ·rw [if_pos c0] at hm ⊢
  simp only []
  have hw:wP (wtN h seen) 0 0 q=0:=by
   by_cases hw:wP (wtN h seen) 0 0 q=0
   ·exact hw
   ·exfalso
    have hx:(⟨(wP (wtN h seen) 0 0 q:Nat),fI q⟩:Tpath_weighed)∈allW (wtN h seen) n seen.length 0 0:=allW_mem.2 ⟨q,hq2,hq3,hw,rfl⟩
    have hl:=top_len (le:=leW) 1 (allW (wtN h seen) n seen.length 0 0)
    rw [show topL leW 1 (allW (wtN h seen) n seen.length 0 0)=[] from hm] at hl
    have:=List.length_pos_of_mem hx
    simp at hl; omega
  rw [hw]
  rfl
 ·rw [if_neg c0] at hm ⊢
  simp only []
  rw [if_neg (by simp),best_weight a c0]
  simp only [Option.bind_some]
  rw [if_pos (by simp),if_pos (by simp),if_pos (by rw [decide_eq_true_eq]; omega)]
  by_cases hw:wP (wtN h seen) 0 0 q=0
  ·rw [hw,if_pos (by rw [decide_eq_true_eq]; omega),if_pos (by rw [decide_eq_true_eq]; omega)]
  ·have hx:(⟨(wP (wtN h seen) 0 0 q:Nat),fI q⟩:Tpath_weighed)∈allW (wtN h seen) n seen.length 0 0:=allW_mem.2 ⟨q,hq2,hq3,hw,rfl⟩
   have hle:leW ⟨(mxC (wtN h seen) n seen.length 0 0:Nat),fI (bestQ (wtN h seen) n seen.length 0 0)⟩ ⟨(wP (wtN h seen) 0 0 q:Nat),fI q⟩=true:=by
    by_cases hin:(⟨(wP (wtN h seen) 0 0 q:Nat),fI q⟩:Tpath_weighed)∈topL leW 1 (allW (wtN h seen) n seen.length 0 0)
    ·rw [show topL leW 1 (allW (wtN h seen) n seen.length 0 0)=_ from hm,List.mem_singleton] at hin
     rw [hin]
     have:=leW_ok.total ⟨(mxC (wtN h seen) n seen.length 0 0:Nat),fI (bestQ (wtN h seen) n seen.length 0 0)⟩ ⟨(mxC (wtN h seen) n seen.length 0 0:Nat),fI (bestQ (wtN h seen) n seen.length 0 0)⟩
     simpa using this
    ·refine (top_out leW_ok hx hin).2 _ ?_
     rw [show topL leW 1 (allW (wtN h seen) n seen.length 0 0)=_ from hm]; simp
   unfold leW at hle
   simp only [Bool.or_eq_true,Bool.and_eq_true,decide_eq_true_eq,beq_iff_eq] at hle
   rw [if_pos (by rw [decide_eq_true_eq]; omega)]
   by_cases c2:wP (wtN h seen) 0 0 q < mxC (wtN h seen) n seen.length 0 0
   ·rw [if_pos (by rw [decide_eq_true_eq]; omega)]
   ·rw [if_neg (by rw [decide_eq_true_eq]; omega)]
    have hbl:(bestQ (wtN h seen) n seen.length 0 0).length≤100:=by
     obtain ⟨_,_,h3,_⟩:=topC_mem (x:=⟨(mxC (wtN h seen) n seen.length 0 0:Nat),fI (bestQ (wtN h seen) n seen.length 0 0)⟩) (a.v.wtN_le (seen:=seen)) (show 0 < n by omega) (k:=1) (d:=seen.length) (t:=0) (by rw [hm]; simp)
     rw [fI_len] at h3; omega
    rw [compareL_eq _ _ (by rw [fI_len]; omega)]
    simp only [Option.bind_some]
    rcases hle with hle | ⟨_,hle⟩
    ·omega
    ·rw [lexLe_iff] at hle
     rw [decide_eq_true hle]
end Go.Ab
