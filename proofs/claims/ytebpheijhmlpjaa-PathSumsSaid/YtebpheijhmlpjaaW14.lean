/- What functions compute. No conditions. -/
import Derived.Test.YtebpheijhmlpjaaW13
import Derived.Test.YtebpheijhmlpjaaEng8
import Derived.Test.YtebpheijhmlpjaaW9
set_option linter.all false
namespace Go.Ab
open Go
set_option maxRecDepth 100000
def MX:Nat := 4611686018427387903
theorem mx_eq:MX=4611686018427387903:=rfl
def rowG {α:Type} (n:Nat) (F:Nat → α):List α:=(List.range n).map F
theorem rowG_len {α:Type} {n:Nat} {F:Nat → α}:(rowG n F).length=n:=by simp [rowG]
theorem rowG_get {α:Type} {n:Nat} {F:Nat → α} {k:Nat} (h:k < n):lkI (rowG n F) (k:Int)=some (F k):=by
 rw [lkI_nat (by rw [rowG_len]; exact h)]; simp [rowG]
theorem rowG_congr {α:Type} {n:Nat} {F G:Nat → α} (h:∀k,k < n→F k=G k):rowG n F=rowG n G:=by
 unfold rowG
 apply List.map_congr_left
 intro t ht
 exact h t (by simpa using ht)
theorem rowG_rep {α:Type} (n:Nat) (x:α):List.replicate n x=rowG n (fun _=>x):=by
 apply List.ext_getElem?
 intro s
 rw [List.getElem?_replicate]
 by_cases hs:s < n
 ·rw [if_pos hs]; simp [rowG,List.getElem?_range hs]
 ·rw [if_neg hs,List.getElem?_eq_none (by rw [rowG_len]; omega)]
theorem rowG_succ {α:Type} {n:Nat} {F:Nat → α}:rowG n F++[F n]=rowG (n+1) F:=by
 unfold rowG; rw [List.range_succ]; simp
theorem fb_step (h:Tapi_Hidden) (n:Nat) (seen:List Int) {T t:Nat} (ht:t+1 < T) :
  sumTo n (fun s=>fw h n seen t s*bw h n seen T t s)=sumTo n (fun s=>fw h n seen (t+1) s*bw h n seen T (t+1) s):=by
 have e1:sumTo n (fun s=>fw h n seen t s*bw h n seen T t s)=sumTo n fun s=>sumTo n fun r=>fw h n seen t s*(nat2 h.Step s r*shN h (seen.getD (t+1) 0) r*bw h n seen T (t+1) r) :=
  sumTo_congr fun s _=>by rw [bw_step h n seen ht,sumTo_mul]
 have e2:sumTo n (fun s=>fw h n seen (t+1) s*bw h n seen T (t+1) s)=sumTo n fun s=>sumTo n fun r=>fw h n seen t r*(nat2 h.Step r s*shN h (seen.getD (t+1) 0) s*bw h n seen T (t+1) s) :=
  sumTo_congr fun s _=>by
   simp only [fw]
   rw [Nat.mul_assoc,←sumTo_mulr]
   exact sumTo_congr fun r _=>by simp only [Nat.mul_assoc]
 rw [e1,e2,sumTo_comm]
theorem fb_total (h:Tapi_Hidden) (n:Nat) (seen:List Int) {T:Nat}:∀(d t:Nat),t+d+1=T→sumTo n (fun s=>fw h n seen t s*bw h n seen T t s)=sumTo n (fw h n seen (T - 1))
 | 0,t,e=>by
  have:t=T - 1:=by omega
  subst this
  exact sumTo_congr fun s _=>by rw [bw_last,Nat.mul_one]
 | d+1,t,e=>by
  rw [fb_step h n seen (by omega:t+1 < T),fb_total h n seen d (t+1) (by omega)]
section
variable {h:Tapi_Hidden} {g n k:Nat} (v:VH h g n k) {seen:List Int} {T:Nat} (w:VS k seen T) (hT:1≤T∧T≤8)
include v
include w hT
theorem VH.fw_mx {t:Nat} (ht:t < T):sumTo n (fw h n seen t)≤MX:=by
 have:=v.fw_sum seen t
 have:=pow12' (e:=2*(t+1)) v.g12 (by omega)
 have hMX:=mx_eq
 omega
theorem VH.last:lkI (tabI T n (fw h n seen)) (IntKind.i64.wrap (((tabI T n (fw h n seen)).length:Int) - 1))=some (rowI n (fw h n seen (T - 1))):=by
 rw [tabI_len,w64 (by omega),show ((T:Int) - 1)=((T - 1:Nat):Int) by omega,tabI_get (by omega)]
end
structure Valid (h:Tapi_Hidden) (seen:List Int) (g n k:Nat):Prop where
 v:VH h g n k
 w:VS k seen seen.length
 t1:1≤seen.length
 t8:seen.length≤8
 ok:OkH h
 e:errN h seen=0
section
variable {h:Tapi_Hidden} {seen:List Int} {g n k:Nat} (a:Valid h seen g n k)
include a
end
theorem VH.head {h:Tapi_Hidden} {g n k:Nat} (v:VH h g n k):(h.Show.headD []).length=k:=by
 have h1:=v.showL; have h2:=v.n1
 cases hs:h.Show with
 | nil=>rw [hs] at h1; simp at h1; omega
 | cons x L=>exact (v.shows x (by rw [hs]; simp)).1
theorem VH.right {h:Tapi_Hidden} {g n k:Nat} (v:VH h g n k):rightB h=true:=by
 have h0:=v.head
 have h1:=v.firstL; have h2:=v.stepL; have h3:=v.showL; have h4:=v.grain; have h5:=v.g1; have h6:=v.g12; have h7:=v.n1; have h8:=v.n4; have h9:=v.k1; have h10:=v.k4
 unfold rightB
 simp only [Bool.and_eq_true,decide_eq_true_eq,beq_iff_eq,List.all_eq_true,rowB_iff]
 refine ⟨by omega,by omega,by omega,by omega,by omega,by omega,by omega,by rw [h4]; exact v.first,⟨by omega,fun l hl=>?_⟩,by omega,fun l hl=>?_⟩
 ·obtain ⟨a,b⟩:=v.step l hl; exact ⟨by omega,by rw [h4]; exact b⟩
 ·obtain ⟨a,b⟩:=v.shows l hl; exact ⟨by omega,by rw [h4]; exact b⟩
theorem VH.valid {h:Tapi_Hidden} {g n k:Nat} (v:VH h g n k) {seen:List Int} (w:VS k seen seen.length) (t1:1≤seen.length) (t8:seen.length≤8):Valid h seen g n k:=by
 refine ⟨v,w,t1,t8,v.few.ok,?_⟩
 unfold errN
 rw [if_pos v.right,if_pos]
 unfold seenB seesB
 rw [Bool.and_eq_true,Bool.and_eq_true,decide_eq_true_eq,decide_eq_true_eq,List.all_eq_true]
 refine ⟨fun x hx=>?_,by omega,by omega⟩
 rw [Bool.and_eq_true,decide_eq_true_eq,decide_eq_true_eq,v.head]
 exact w.all x hx
theorem draft_valid (p0:Tharuspexref17_Draft) (h0:okTharuspexref17_Draft p0):∃h seen g n k,g_ref17_Draft_Hidden p0=some h∧g_ref17_Draft_What p0=some seen∧Valid h seen g n k:=by
 obtain ⟨h,g,n,k,e,v,hk⟩:=draft_ok p0 h0
 obtain ⟨seen,ex,x1,x8,xs⟩:=what_ok p0 h0 hk
 exact ⟨h,seen,g,n,k,e,ex,v.valid xs x1 x8⟩
end Go.Ab
namespace Go.Ab
open Go
set_option maxRecDepth 100000
theorem tot_last (h:Tapi_Hidden) (n:Nat) (seen:List Int) {T:Nat} (hT:1≤T):totN h n seen T=sumTo n (fw h n seen (T - 1)):=by
 rw [←fb_total h n seen (T - 1) 0 (by omega)]
 unfold totN
 exact sumTo_congr fun s _=>by simp only [fw]
section
variable {h:Tapi_Hidden} {seen:List Int} {g n k:Nat} (a:Valid h seen g n k)
include a
end
end Go.Ab
namespace Go.Ab
open Go
set_option maxRecDepth 100000
end Go.Ab
namespace Go.Ab
open Go
structure OrdOk {T:Type} (le:T→T→Bool):Prop where
 trans:∀x y z,le x y=true→le y z=true→le x z=true
 total:∀x y,(le x y || le y x)=true
 anti:∀x y,le x y=true→le y x=true→x=y
def topL {T:Type} (le:T→T→Bool) (k:Nat) (l:List T):List T:=(isort le l).take k
section
variable {T:Type} {le:T→T→Bool} (O:OrdOk le)
theorem insL_take (x:T):∀(k:Nat) (l:List T),(insL le x (l.take k)).take k=(insL le x l).take k
 | 0,l=>by simp
 | k+1,[]=>by simp
 | k+1,y::l=>by
  simp only [List.take_succ_cons]
  unfold insL
  split
  ·simp only [List.take_succ_cons]
   congr 1
   cases k with
   | zero=>simp
   | succ k=>simp only [List.take_succ_cons,List.take_take]; congr 2; omega
  ·simp only [List.take_succ_cons]
   congr 1
   exact insL_take x k l
theorem insL_foldr_take (k:Nat) (l:List T):∀(b:List T),(b.foldr (insL le) (l.take k)).take k=(b.foldr (insL le) l).take k
 | []=>by simp [List.take_take]
 | x::b=>by
  simp only [List.foldr_cons]
  rw [←insL_take,insL_foldr_take k l b,insL_take]
theorem isort_append (a b:List T):isort le (a++b)=a.foldr (insL le) (isort le b):=by
 induction a with
 | nil=>rfl
 | cons x a ih=>simp only [List.cons_append,isort,List.foldr_cons,ih]
include O
theorem isort_congr {a b:List T} (h:a.Perm b):isort le a=isort le b :=
 sorted_one O.anti ((isort_perm le a).trans (h.trans (isort_perm le b).symm)) (isort_sorted O.trans O.total a) (isort_sorted O.trans O.total b)
theorem isort_self {a:List T} (h:a.Pairwise (fun x y=>le x y=true)):isort le a=a :=
 sorted_one O.anti (isort_perm le a) (isort_sorted O.trans O.total a) h
theorem top_congr {k:Nat} {a b:List T} (h:a.Perm b):topL le k a=topL le k b:=by
 unfold topL; rw [isort_congr O h]
theorem top_sorted (k:Nat) (a:List T):(topL le k a).Pairwise (fun x y=>le x y=true) :=
 (isort_sorted O.trans O.total a).sublist (List.take_sublist _ _)
theorem top_appR (k:Nat) (a b:List T):topL le k (b++topL le k a)=topL le k (b++a):=by
 have e:isort le (topL le k a)=(isort le a).take k:=isort_self O (top_sorted O k a)
 rw [topL,isort_append,e,insL_foldr_take,←isort_append]; rfl
theorem top_app (k:Nat) (a b:List T):topL le k (topL le k a++b)=topL le k (a++b):=by
 rw [top_congr O List.perm_append_comm,top_appR O,top_congr O List.perm_append_comm]
theorem top_app2 (k:Nat) (a b:List T):topL le k (topL le k a++topL le k b)=topL le k (a++b):=by
 rw [top_appR O,top_app O]
omit O
theorem top_nil (k:Nat):topL le k ([]:List T)=[]:=by simp [topL,isort]
theorem top_len (k:Nat) (a:List T):(topL le k a).length=min k a.length:=by
 unfold topL; rw [List.length_take,(isort_perm le a).length_eq]
theorem top_mem {k:Nat} {a:List T} {x:T} (h:x∈topL le k a):x∈a:=(isort_perm le a).mem_iff.1 (List.mem_of_mem_take h)
include O
theorem top_top (k:Nat) (a:List T):topL le k (topL le k a)=topL le k a:=by
 have:=top_app O k a []
 simpa using this
theorem insL_map {U:Type} {leU:U→U→Bool} (f:U→T) (hf:∀x y,le (f x) (f y)=leU x y) (x:U):∀(l:List U),insL le (f x) (l.map f)=(insL leU x l).map f
 | []=>rfl
 | y::l=>by
  simp only [List.map_cons]
  unfold insL
  rw [hf]
  split
  ·rfl
  ·simp only [List.map_cons]; rw [insL_map f hf x l]
theorem isort_map {U:Type} {leU:U→U→Bool} (f:U→T) (hf:∀x y,le (f x) (f y)=leU x y):∀(l:List U),isort le (l.map f)=(isort leU l).map f
 | []=>rfl
 | x::l=>by
  simp only [List.map_cons,isort]
  rw [isort_map f hf l,insL_map O f hf]
theorem top_map {U:Type} {leU:U→U→Bool} (f:U→T) (hf:∀x y,le (f x) (f y)=leU x y) (k:Nat) (l:List U):topL le k (l.map f)=(topL leU k l).map f:=by
 unfold topL; rw [isort_map O f hf,List.map_take]
end
end Go.Ab
namespace Go.Ab
open Go
set_option maxRecDepth 100000
theorem leW_ok:OrdOk leW:=⟨order18.trans,order18.total,order18.anti⟩
def beh (w s:Nat) (x:Tpath_weighed):Tpath_weighed:=⟨(w:Int)*x.weight,(s:Int)::x.path⟩
theorem leW_beh {w s:Nat} (hw:w≠0) (x y:Tpath_weighed):leW (beh w s x) (beh w s y)=leW x y:=by
 have hp:(0:Int) < (w:Int):=by omega
 unfold leW beh
 simp only [lexLe,Int.lt_irrefl,decide_false,Bool.false_or,beq_self_eq_true,Bool.true_and]
 rw [Bool.eq_iff_iff]
 simp only [Bool.or_eq_true,Bool.and_eq_true,decide_eq_true_eq,beq_iff_eq]
 rw [Int.mul_lt_mul_left hp,Int.mul_eq_mul_left_iff (by omega)]
def allW (wt:Nat → Nat → Nat → Nat) (n:Nat):Nat → Nat → Nat → List Tpath_weighed
 | 0,_,_=>[⟨1,[]⟩]
 | d+1,t,r=>(List.range n).flatMap fun s=>if wt t r s=0 then [] else (allW wt n d (t+1) s).map (beh (wt t r s) s)
def topC (wt:Nat → Nat → Nat → Nat) (n k d t r:Nat):List Tpath_weighed:=topL leW k (allW wt n d t r)
def behL (wt:Nat → Nat → Nat → Nat) (n k d t r s:Nat):List Tpath_weighed:=if wt t r s=0 then [] else (topC wt n k d (t+1) s).map (beh (wt t r s) s)
theorem top_flat {T:Type} {le:T→T→Bool} (O:OrdOk le) (k:Nat) (f g:Nat → List T) (h:∀s,topL le k (f s)=topL le k (g s)):∀n,topL le k ((List.range n).flatMap f)=topL le k ((List.range n).flatMap g)
 | 0=>rfl
 | n+1=>by
  rw [List.range_succ,List.flatMap_append,List.flatMap_append]
  simp only [List.flatMap_cons,List.flatMap_nil,List.append_nil]
  rw [←top_app2 O,←top_app2 O k ((List.range n).flatMap g),top_flat O k f g h n,h n]
theorem topC_succ (wt:Nat → Nat → Nat → Nat) (n k d t r:Nat):topC wt n k (d+1) t r=topL leW k ((List.range n).flatMap (behL wt n k d t r)):=by
 unfold topC
 rw [allW]
 refine top_flat leW_ok k _ _ (fun s=>?_) n
 unfold behL
 by_cases c:wt t r s=0
 ·rw [if_pos c,if_pos c]
 ·rw [if_neg c,if_neg c]
  rw [top_map leW_ok _ (leW_beh c),top_map leW_ok _ (leW_beh c)]
  unfold topC
  rw [top_top leW_ok]
def fI (q:List Nat):List Int:=q.map fun s:Nat => (s:Int)
theorem fI_cons (s:Nat) (q:List Nat):fI (s::q)=(s:Int)::fI q:=rfl
theorem fI_len (q:List Nat):(fI q).length=q.length:=by simp [fI]
def wP (wt:Nat → Nat → Nat → Nat):Nat → Nat → List Nat → Nat
 | _,_,[]=>1
 | t,r,s::q=>wt t r s*wP wt (t+1) s q
theorem allW_mem {wt:Nat → Nat → Nat → Nat} {n:Nat} {x:Tpath_weighed}:∀{d t r:Nat},x∈allW wt n d t r↔∃q:List Nat,q.length=d∧(∀s∈q,s < n)∧wP wt t r q≠0∧x=⟨(wP wt t r q:Nat),fI q⟩
 | 0,t,r=>by
  simp only [allW,List.mem_singleton]
  constructor
  ·rintro rfl; exact ⟨[],rfl,by simp,by simp [wP],rfl⟩
  ·rintro ⟨q,h1,_,_,rfl⟩
   rw [List.length_eq_zero_iff.1 h1]; rfl
 | d+1,t,r=>by
  rw [allW,List.mem_flatMap]
  constructor
  ·rintro ⟨s,hs,hx⟩
   rw [List.mem_range] at hs
   by_cases c:wt t r s=0
   ·rw [if_pos c] at hx; simp at hx
   ·rw [if_neg c] at hx
    obtain ⟨y,hy,rfl⟩:=List.mem_map.1 hx
    obtain ⟨q,h1,h2,h3,rfl⟩:=allW_mem.1 hy
    refine ⟨s::q,by simp [h1],fun z hz=>?_,?_,?_⟩
    ·rcases List.mem_cons.1 hz with rfl | hz
     ·exact hs
     ·exact h2 z hz
    ·simp only [wP]; exact Nat.mul_ne_zero c h3
    ·simp only [beh,wP,fI_cons,Int.natCast_mul]
  ·rintro ⟨q,h1,h2,h3,rfl⟩
   cases q with
   | nil=>simp at h1
   | cons s q =>
    simp only [wP] at h3
    refine ⟨s,List.mem_range.2 (h2 s (by simp)),?_⟩
    have c:wt t r s≠0:=fun e=>h3 (by rw [e,Nat.zero_mul])
    rw [if_neg c]
    refine List.mem_map.2 ⟨_,allW_mem.2 ⟨q,by simpa using h1,fun z hz=>h2 z (by simp [hz]),fun e=>h3 (by rw [e,Nat.mul_zero]),rfl⟩,?_⟩
    simp only [beh,wP,fI_cons,Int.natCast_mul]
theorem wP_le {wt:Nat → Nat → Nat → Nat} {n B:Nat} (hB:∀t r s,r < n→s < n→wt t r s≤B):∀{q:List Nat} {t r:Nat},r < n→(∀s∈q,s < n)→wP wt t r q≤B^q.length
 | [],_,_,_,_=>by simp [wP]
 | s::q,t,r,hr,hq=>by
  simp only [wP,List.length_cons,Nat.pow_succ]
  rw [Nat.mul_comm]
  exact Nat.mul_le_mul (wP_le hB (hq s (by simp)) fun z hz=>hq z (by simp [hz])) (hB t r s hr (hq s (by simp)))
end Go.Ab
namespace Go.Ab
open Go
set_option maxRecDepth 100000
theorem concat2_eq (x y:List Int) (hx:x.length≤1000) (hy:y.length≤1000):g_slices_Concat_int_int [x,y]=some (x++y):=by
 have l1:lkI [x,y] 0=some x:=rfl
 have l2:lkI [x,y] 1=some y:=rfl
 unfold g_slices_Concat_int_int
 rw [whileN_run (s0:=((0:Int),(0:Int))) (fun j=>match j with | 0=>(0,0) | 1=>((x.length:Int),1) | _=>((x.length:Int)+(y.length:Int),2)) 2 ((x.length:Int)+(y.length:Int)) rfl ?_ ?_ (by omega)]
 ·simp only [Option.bind_some]
  rw [if_neg (by rw [decide_eq_true_eq]; omega)]
  have loop:∀b:(Int × List Int)→Option (Step (Int × List Int) (List Int)),(b=g_slices_Concat_int_int_b1 [x,y]∨b=g_slices_Concat_int_int_b2 [x,y])→whileN fuel b (0,([]:List Int))=some (x++y):=by
   intro b hb
   have hb:b=g_slices_Concat_int_int_b1 [x,y]:=by rcases hb with hb | hb <;> exact hb
   subst hb
   rw [whileN_run (s0:=((0:Int),([]:List Int))) (fun j=>match j with | 0=>(0,[]) | 1=>(1,x) | _=>(2,x++y)) 2 (x++y) rfl ?_ ?_ (by omega)]
   ·intro j hj
    rcases (by omega:j=0∨j=1) with e | e <;> subst e
    ·unfold g_slices_Concat_int_int_b1
     simp only []
     rw [if_pos (by simp),l1]
     simp only [Option.bind_some]
     rw [if_pos (by simp; omega),w64 (by omega)]; rfl
    ·unfold g_slices_Concat_int_int_b1
     simp only []
     rw [if_pos (by simp),l2]
     simp only [Option.bind_some]
     rw [if_pos (by simp; omega),w64 (by omega)]; rfl
   ·unfold g_slices_Concat_int_int_b1
    simp only []
    rw [if_neg (by simp)]
  by_cases e:(x.length:Int)+(y.length:Int)=0
  ·rw [if_neg (by rw [decide_eq_true_eq,w64 (by omega)]; omega),loop _ (.inr rfl)]; rfl
  ·rw [if_pos (by rw [decide_eq_true_eq,w64 (by omega)]; omega),if_pos (by rw [w64 (by omega)]; omega),if_pos (by simp; omega),loop _ (.inl rfl)]; rfl
 ·intro j hj
  rcases (by omega:j=0∨j=1) with e | e <;> subst e
  ·unfold g_slices_Concat_int_int_b0
   simp only []
   rw [if_pos (by simp),l1]
   simp only [Option.bind_some]
   rw [w64 (n:=0+(x.length:Int)) (by omega),if_neg (by rw [decide_eq_true_eq]; omega),w64 (by omega)]; simp
  ·unfold g_slices_Concat_int_int_b0
   simp only []
   rw [if_pos (by simp),l2]
   simp only [Option.bind_some]
   rw [w64 (n:=(x.length:Int)+(y.length:Int)) (by omega),if_neg (by rw [decide_eq_true_eq]; omega),w64 (by omega)]; simp
 ·unfold g_slices_Concat_int_int_b0
  simp only []
  rw [if_neg (by simp)]
theorem concatW_eq (x y:List Tpath_weighed) (hx:x.length≤1000) (hy:y.length≤1000):g_slices_Concat_path_weighed_path_weighed [x,y]=some (x++y):=by
 have l1:lkI [x,y] 0=some x:=rfl
 have l2:lkI [x,y] 1=some y:=rfl
 unfold g_slices_Concat_path_weighed_path_weighed
 rw [whileN_run (s0:=((0:Int),(0:Int))) (fun j=>match j with | 0=>(0,0) | 1=>((x.length:Int),1) | _=>((x.length:Int)+(y.length:Int),2)) 2 ((x.length:Int)+(y.length:Int)) rfl ?_ ?_ (by omega)]
 ·simp only [Option.bind_some]
  rw [if_neg (by rw [decide_eq_true_eq]; omega)]
  have loop:∀b:(Int × List Tpath_weighed)→Option (Step (Int × List Tpath_weighed) (List Tpath_weighed)),(b=g_slices_Concat_path_weighed_path_weighed_b1 [x,y]∨b=g_slices_Concat_path_weighed_path_weighed_b2 [x,y])→whileN fuel b (0,([]:List Tpath_weighed))=some (x++y):=by
   intro b hb
   have hb:b=g_slices_Concat_path_weighed_path_weighed_b1 [x,y]:=by rcases hb with hb | hb <;> exact hb
   subst hb
   rw [whileN_run (s0:=((0:Int),([]:List Tpath_weighed))) (fun j=>match j with | 0=>(0,[]) | 1=>(1,x) | _=>(2,x++y)) 2 (x++y) rfl ?_ ?_ (by omega)]
   ·intro j hj
    rcases (by omega:j=0∨j=1) with e | e <;> subst e
    ·unfold g_slices_Concat_path_weighed_path_weighed_b1
     simp only []
     rw [if_pos (by simp),l1]
     simp only [Option.bind_some]
     rw [if_pos (by simp; omega),w64 (by omega)]; rfl
    ·unfold g_slices_Concat_path_weighed_path_weighed_b1
     simp only []
     rw [if_pos (by simp),l2]
     simp only [Option.bind_some]
     rw [if_pos (by simp; omega),w64 (by omega)]; rfl
   ·unfold g_slices_Concat_path_weighed_path_weighed_b1
    simp only []
    rw [if_neg (by simp)]
  by_cases e:(x.length:Int)+(y.length:Int)=0
  ·rw [if_neg (by rw [decide_eq_true_eq,w64 (by omega)]; omega),loop _ (.inr rfl)]; rfl
  ·rw [if_pos (by rw [decide_eq_true_eq,w64 (by omega)]; omega),if_pos (by rw [w64 (by omega)]; omega),if_pos (by simp; omega),loop _ (.inl rfl)]; rfl
 ·intro j hj
  rcases (by omega:j=0∨j=1) with e | e <;> subst e
  ·unfold g_slices_Concat_path_weighed_path_weighed_b0
   simp only []
   rw [if_pos (by simp),l1]
   simp only [Option.bind_some]
   rw [w64 (n:=0+(x.length:Int)) (by omega),if_neg (by rw [decide_eq_true_eq]; omega),w64 (by omega)]; simp
  ·unfold g_slices_Concat_path_weighed_path_weighed_b0
   simp only []
   rw [if_pos (by simp),l2]
   simp only [Option.bind_some]
   rw [w64 (n:=(x.length:Int)+(y.length:Int)) (by omega),if_neg (by rw [decide_eq_true_eq]; omega),w64 (by omega)]; simp
 ·unfold g_slices_Concat_path_weighed_path_weighed_b0
  simp only []
  rw [if_neg (by simp)]
def tabG {β:Type} (n T:Nat) (M:Nat → Nat → β) (m:Nat):List (List β):=(List.range (T+1)).map fun j=>if j < m then [] else if j=0 then [M 0 0] else rowG n (M j)
section
variable {β:Type} {n T:Nat} {M:Nat → Nat → β}
theorem tabG_len {m:Nat}:(tabG n T M m).length=T+1:=by simp [tabG]
theorem tabG_at {m i:Nat} (hi:i≤T):(tabG n T M m)[i]?=some (if i < m then [] else if i=0 then [M 0 0] else rowG n (M i)):=by
 unfold tabG
 rw [List.getElem?_map,List.getElem?_range (by omega)]
 rfl
theorem tabG_set {i:Nat} (hi:i≤T):(tabG n T M (i+1)).set i (if i=0 then [M 0 0] else rowG n (M i))=tabG n T M i:=by
 refine List.ext_getElem? fun j=>?_
 rw [List.getElem?_set]
 by_cases hj:j≤T
 ·rw [tabG_at hj,tabG_at hj]
  by_cases e:i=j
  ·subst e; rw [if_pos rfl,if_pos (by rw [tabG_len]; omega)]; simp
  ·rw [if_neg e]
   by_cases c:j < i
   ·rw [if_pos (by omega),if_pos c]
   ·rw [if_neg (by omega),if_neg c]
 ·rw [if_neg (by omega),List.getElem?_eq_none (by rw [tabG_len]; omega),List.getElem?_eq_none (by rw [tabG_len]; omega)]
theorem tabG_top (h1:1≤T):(List.replicate (T+1) ([]:List β)).set T (rowG n (M T))=tabG n T M T:=by
 refine List.ext_getElem? fun j=>?_
 rw [List.getElem?_set]
 by_cases hj:j≤T
 ·rw [tabG_at hj]
  by_cases e:T=j
  ·subst e
   rw [if_pos rfl,if_pos (by simp),if_neg (by omega),if_neg (by omega)]
  ·rw [if_neg e,List.getElem?_replicate,if_pos (by omega),if_pos (by omega)]
 ·rw [if_neg (by omega),List.getElem?_eq_none (by simp; omega),List.getElem?_eq_none (by rw [tabG_len]; omega)]
theorem tabG_row {body:(Int × List (List β))→Option (Step (Int × List (List β)) (List (List β)))} {m t:Nat} (L:List (List β)) (hm:m≤1000) (h0:L[t]?=some [])
  (step:∀j,j < m→∀L',L'[t]?=some (rowG j (M t))→L'[t+1]?=L[t+1]?→body ((j:Int),L')=some (.next (((j+1:Nat):Int),L'.set t (rowG (j+1) (M t)))))
  (done:∀L',body ((m:Int),L')=some (.done L')):whileN fuel body (0,L)=some (L.set t (rowG m (M t))):=by
 have hl1:t < L.length:=(List.getElem?_eq_some_iff.1 h0).1
 refine whileN_run (fun j=>((j:Int),L.set t (rowG j (M t)))) m _ ?_ ?_ (done _) (by omega)
 ·refine Prod.ext rfl ?_
  refine List.ext_getElem? fun i=>?_
  rw [List.getElem?_set]
  by_cases e:t=i
  ·subst e; rw [if_pos rfl,if_pos hl1,h0]; rfl
  ·rw [if_neg e]
 ·intro j hj
  rw [step j hj _ (by rw [List.getElem?_set,if_pos rfl,if_pos hl1]) (by rw [List.getElem?_set,if_neg (by omega)]),List.set_set]
theorem tabG_loop {body:(Int × List (List β))→Option (Step (Int × List (List β)) (List (List β)))} (h1:1≤T) (h8:T≤1000)
  (hZ:∀L,L[0]?=some []→L[1]?=some (rowG n (M 1))→body (0,L)=some (.next (-1,L.set 0 [M 0 0])))
  (hS:∀t,1≤t→t < T→∀L,L.length=T+1→L[t]?=some []→L[t+1]?=some (rowG n (M (t+1)))→body ((t:Int),L)=some (.next ((t:Int) - 1,L.set t (rowG n (M t)))))
  (hD:∀L,body (-1,L)=some (.done L)):whileN fuel body (((T - 1:Nat):Int),tabG n T M T)=some (tabG n T M 0):=by
 refine whileN_run (fun c=>((T:Int) - 1 - (c:Int),tabG n T M (T - c))) T _ ?_ ?_ ?_ (by omega)
 ·refine Prod.ext ?_ rfl
  simp only []; omega
 ·intro c hc
  obtain ⟨i,hi⟩:∃i,T - c=i+1:=⟨T - c - 1,by omega⟩
  rw [show (T:Int) - 1 - (c:Int)=(i:Int) by omega,hi,show T - (c+1)=i by omega,show (T:Int) - 1 - ((c+1:Nat):Int)=(i:Int) - 1 by omega]
  have hs:=tabG_set (n:=n) (M:=M) (i:=i) (T:=T) (by omega)
  by_cases e:i=0
  ·subst e
   rw [if_pos rfl] at hs
   rw [show ((0:Nat):Int)=0 from rfl,hZ _ (by rw [tabG_at (by omega),if_pos (by omega)]) (by rw [tabG_at (by omega),if_neg (by omega),if_neg (by omega)]),hs]; rfl
  ·rw [if_neg e] at hs
   rw [hS i (by omega) (by omega) _ tabG_len (by rw [tabG_at (by omega),if_pos (by omega)]) (by rw [tabG_at (by omega),if_neg (by omega),if_neg (by omega)]),hs]
 ·rw [show (T:Int) - 1 - (T:Int)=-1 by omega,hD,Nat.sub_self]
end
def wtN (h:Tapi_Hidden) (seen:List Int) (t r s:Nat):Nat := (if t=0 then nat1 h.First s else nat2 h.Step r s)*shN h (seen.getD t 0) s
section
variable {h:Tapi_Hidden} {g n k:Nat} (v:VH h g n k) {seen:List Int} {T:Nat} (w:VS k seen T)
include v
theorem VH.wtN_le (t r s:Nat) (hr:r < n) (hs:s < n):wtN h seen t r s≤144:=by
 unfold wtN
 have h1:=v.sh_le (seen.getD t 0) hs
 have h12:=v.g12
 have h2:(if t=0 then nat1 h.First s else nat2 h.Step r s)≤12:=by
  split
  ·have:=v.first_le hs; omega
  ·have:=v.step_le hr hs; omega
 exact Nat.le_trans (Nat.mul_le_mul h2 (Nat.le_trans h1 h12)) (by omega)
include w
theorem VH.into {t r s:Nat} (ht:t < T) (hr:r < n) (hs:s < n):g_path_searcher_into ⟨h,seen⟩ (t:Int) (r:Int) (s:Int)=some ((wtN h seen t r s:Nat):Int):=by
 unfold wtN
 cases t with
 | zero=>rw [if_pos rfl]; exact v.into0 w ht hs _
 | succ t=>rw [if_neg (by omega)]; exact v.intoS w ht hr hs
end
end Go.Ab
namespace Go.Ab
open Go
set_option maxRecDepth 100000
theorem topC_len (wt:Nat → Nat → Nat → Nat) (n k d t r:Nat):(topC wt n k d t r).length≤k:=by unfold topC; rw [top_len]; omega
theorem topC_zero (wt:Nat → Nat → Nat → Nat) (n k t r:Nat) (hk:1≤k):topC wt n k 0 t r=[⟨1,[]⟩]:=by
 unfold topC topL allW isort insL isort
 rw [List.take_of_length_le (by simpa using hk)]
theorem topC_mem {wt:Nat → Nat → Nat → Nat} {n k d t r:Nat} (hB:∀t r s,r < n→s < n→wt t r s≤144) (hr:r < n) {x:Tpath_weighed} (h:x∈topC wt n k d t r) :
  1≤x.weight∧x.weight≤((144^d:Nat):Int)∧x.path.length=d∧∃q:List Nat,q.length=d∧(∀s∈q,s < n)∧wP wt t r q≠0∧x=⟨(wP wt t r q:Nat),fI q⟩:=by
 obtain ⟨q,h1,h2,h3,rfl⟩:=allW_mem.1 (top_mem h)
 have:=wP_le hB hr h2 (t:=t)
 rw [h1] at this
 refine ⟨by show (1:Int)≤((wP wt t r q:Nat):Int); omega,by show ((wP wt t r q:Nat):Int)≤_; omega,by show (fI q).length=d; rw [fI_len,h1],q,h1,h2,h3,rfl⟩
theorem pow144 {d:Nat} (hd:d≤8):144^d≤184884258895036416:=Nat.le_trans (Nat.pow_le_pow_right (by omega) hd) (by decide)
theorem most3 (t s w:Nat) (L:List Tpath_weighed) (hL:L.length≤20) (hx:∀x∈L,0≤(w:Int)*x.weight∧(w:Int)*x.weight≤184884258895036416∧x.path.length≤100) :
  g_path_Most_3 (t:Int) (s:Int) (w:Int) L=some (if w=0 then [] else L.map (beh w s)):=by
 unfold g_path_Most_3
 rw [whileN_run (s0:=((0:Int),([]:List Tpath_weighed))) (fun j=>((j:Int),if w=0 then [] else (L.take j).map (beh w s))) L.length (if w=0 then [] else L.map (beh w s)) (by simp) ?_ ?_ (by omega)]
 ·rfl
 ·intro j hj
  unfold g_path_Most_3_b0
  simp only []
  rw [if_pos (by rw [decide_eq_true_eq]; omega),lkI_nat hj]
  simp only [Option.bind_some]
  by_cases c:w=0
  ·rw [if_neg (by rw [decide_eq_true_eq]; omega),if_pos c,if_pos c,w64 (by omega)]; rfl
  ·obtain ⟨b1,b2,b3⟩:=hx _ (List.getElem_mem hj)
   rw [if_pos (by rw [decide_eq_true_eq]; omega),concat2_eq _ _ (by simp) (by omega)]
   simp only [Option.bind_some]
   rw [if_neg c,if_neg c,if_pos (by simp; omega),w64 (n:=(w:Int)*L[j].weight) (by omega),w64 (by omega),List.take_succ_eq_append_getElem hj,List.map_append]
   rfl
 ·unfold g_path_Most_3_b0
  simp only []
  rw [if_neg (by simp),List.take_length]
theorem most2 (a b:List Tpath_weighed) (k:Nat) (hk:k≤20) (ha:a.length≤20) (hb:b.length≤20) (hp:∀x∈a++b,x.path.length≤100):g_path_Most_2_k0 a b (k:Int)=some (topL leW k (a++b)):=by
 unfold g_path_Most_2_k0
 rw [concatW_eq _ _ (by omega) (by omega)]
 simp only [Option.bind_some]
 have hg:((a++b).all goodW && Nat.blt (a++b).length 4611686018427387904)=true:=by
  rw [Bool.and_eq_true,List.all_eq_true]
  refine ⟨fun x hx=>?_,by simp; omega⟩
  unfold goodW; rw [decide_eq_true_eq]; have:=hp x hx; omega
 unfold sortD
 rw [if_pos hg]
 simp only [Option.bind_some]
 have hl:=(isort_perm leW (a++b)).length_eq
 have hs:=sub_lim (isort leW (a++b)) k
 have h0:=lim_ok (isort leW (a++b)) k
 have e:(if ((isort leW (a++b)).length:Int) < (k:Int) then ((isort leW (a++b)).length:Int) else (k:Int))=(if (k:Int) < ((isort leW (a++b)).length:Int) then (k:Int) else ((isort leW (a++b)).length:Int)):=by
  split <;> split <;> omega
 rw [e,if_pos h0,hs]
 rfl
section
variable {h:Tapi_Hidden} {g n c:Nat} (v:VH h g n c) {seen:List Int} {T k:Nat} (w:VS c seen T) (hT:1≤T∧T≤8) (hk:1≤k∧k≤20)
include v w hT hk
theorem VH.most_step (e0:Int) {t r:Nat} (ht:t < T) (hr:r < n) (s14 tbl:List (List (List Tpath_weighed))) (hrow:lkI tbl ((t+1:Nat):Int)=some (rowG n fun s=>topC (wtN h seen) n k (T - (t+1)) (t+1) s)) :
  whileN fuel (g_path_Most_b2 (⟨h,seen⟩,e0) ((t:Int),s14) ((r:Int),tbl) (k:Int)) ([],0)=some (topC (wtN h seen) n k (T - t) t r):=by
 have hn4:=v.n4
 have hB:=v.wtN_le (seen:=seen)
 obtain ⟨d,hd⟩:∃d,T - t=d+1:=⟨T - t - 1,by omega⟩
 rw [show T - (t+1)=d by omega] at hrow
 rw [hd,topC_succ]
 have hmem:∀s,s < n→∀x∈behL (wtN h seen) n k d t r s,x.path.length≤100:=fun s hs x hx=>by
  unfold behL at hx
  split at hx
  ·simp at hx
  ·obtain ⟨y,hy,rfl⟩:=List.mem_map.1 hx
   obtain ⟨_,_,h3,_⟩:=topC_mem hB hs hy
   show ((s:Int)::y.path).length≤100
   rw [List.length_cons,h3]; omega
 have hlen:∀s,(behL (wtN h seen) n k d t r s).length≤20:=fun s=>by
  unfold behL
  split
  ·simp
  ·rw [List.length_map]; have:=topC_len (wtN h seen) n k d (t+1) s; omega
 refine whileN_run (fun j=>(topL leW k ((List.range j).flatMap (behL (wtN h seen) n k d t r)),(j:Int))) n _ (by simp [top_nil]) ?_ ?_ (by omega)
 ·intro j hj
  unfold g_path_Most_b2
  simp only [v.firstL]
  rw [if_pos (by rw [decide_eq_true_eq]; omega),v.into w ht hr hj]
  simp only [Option.bind_some]
  rw [show IntKind.i64.wrap ((t:Int)+1)=((t+1:Nat):Int) by rw [w64 (by omega)]; omega,hrow]
  simp only [Option.bind_some]
  rw [rowG_get hj]
  simp only [Option.bind_some]
  rw [most3 t j _ _ (by have:=topC_len (wtN h seen) n k d (t+1) j; omega) (fun x hx=>by
   obtain ⟨h1,h2,h3,_⟩:=topC_mem hB hj hx
   have hw:=hB t r j hr hj
   have hp:=pow144 (d:=d+1) (by omega)
   have hc:=pow144 (d:=d) (by omega)
   rw [Nat.pow_succ] at hp
   obtain ⟨y,hy⟩:∃y:Nat,x.weight=(y:Int):=⟨x.weight.toNat,by omega⟩
   rw [hy] at h2 ⊢
   have hm:=Nat.mul_le_mul hw (show y≤144^d by omega)
   rw [Nat.mul_comm 144] at hm
   refine ⟨by rw [←Int.natCast_mul]; omega,by rw [←Int.natCast_mul]; omega,by omega⟩)]
  simp only [Option.bind_some]
  rw [show (if wtN h seen t r j=0 then [] else (topC (wtN h seen) n k d (t+1) j).map (beh (wtN h seen t r j) j))=behL (wtN h seen) n k d t r j from rfl]
  rw [most2 _ _ k hk.2 (by rw [top_len]; omega) (hlen j) (fun x hx=>by
   rcases List.mem_append.1 hx with hx | hx
   ·obtain ⟨s,hs,hx⟩:=List.mem_flatMap.1 (top_mem hx)
    exact hmem s (by have:=List.mem_range.1 hs; omega) x hx
   ·exact hmem j hj x hx)]
  simp only [Option.bind_some]
  rw [top_app leW_ok,w64 (by omega),List.range_succ,List.flatMap_append]
  simp only [List.flatMap_cons,List.flatMap_nil,List.append_nil]
  rfl
 ·unfold g_path_Most_b2
  simp only [v.firstL]
  rw [if_neg (by simp)]
theorem VH.most_loop (e0:Int):whileN fuel (g_path_Most_b4 (⟨h,seen⟩,e0) (k:Int)) (((T - 1:Nat):Int),tabG n T (fun t r=>topC (wtN h seen) n k (T - t) t r) T)=some (tabG n T (fun t r=>topC (wtN h seen) n k (T - t) t r) 0):=by
 have hn4:=v.n4
 have hn1:=v.n1
 refine tabG_loop hT.1 (by omega) (fun L h0 h1=>?_) (fun t t1 t2 L hL h0 h1=>?_) (fun L=>?_)
 ·unfold g_path_Most_b4
  simp only []
  rw [if_pos (by simp),if_pos (by simp)]
  rw [tabG_row (m:=1) (t:=0) (M:=fun t r=>topC (wtN h seen) n k (T - t) t r) L (by omega) h0 (fun j hj L' e1 e2=>?_) (fun L'=>by unfold g_path_Most_b1; simp only []; rw [if_neg (by simp)])]
  ·simp only [Option.bind_some]
   rw [w64 (by omega)]; rfl
  ·obtain rfl:j=0:=by omega
   unfold g_path_Most_b1
   simp only []
   rw [if_pos (by simp)]
   have e:=v.most_step w hT hk e0 (t:=0) (r:=0) (by omega) (by omega) L L' (lkI_q (i:=1) (by rw [e2]; exact h1))
   rw [show whileN fuel (g_path_Most_b0 (⟨h,seen⟩,e0) (0,L) (((0:Nat):Int),L') (k:Int)) ([],0)=_ from e]
   simp only [Option.bind_some]
   rw [show lkI L' 0=some [] from lkI_q (i:=0) e1]
   simp only [Option.bind_some]
   rw [if_pos (by simp),List.set_set]
   rfl
 ·unfold g_path_Most_b4
  simp only []
  rw [if_pos (by rw [decide_eq_true_eq]; omega),if_neg (by rw [beq_iff_eq]; omega)]
  rw [tabG_row (m:=n) (t:=t) (M:=fun t r=>topC (wtN h seen) n k (T - t) t r) L (by omega) h0 (fun j hj L' e1 e2=>?_) (fun L'=>by unfold g_path_Most_b3; simp only [v.firstL]; rw [if_neg (by simp)])]
  ·simp only [Option.bind_some]
   rw [w64 (by omega)]
  ·unfold g_path_Most_b3
   simp only [v.firstL]
   rw [if_pos (by rw [decide_eq_true_eq]; omega),v.most_step w hT hk e0 (t:=t) (r:=j) t2 hj L L' (lkI_q (by rw [e2]; exact h1))]
   simp only [Option.bind_some]
   rw [lkI_q e1]
   simp only [Option.bind_some]
   rw [if_pos (by rw [List.length_append,List.length_singleton,rowG_len]; omega),w64 (by omega),nat_i,List.set_set,rowG_succ]
   rfl
 ·unfold g_path_Most_b4
  simp only []
  rw [if_neg (by simp)]
end
theorem repeatW_eq (p:Nat) (hp:p≤4):g_slices_Repeat_path_weighed_path_weighed [[⟨1,[]⟩]] (p:Int)=some (List.replicate p [⟨1,[]⟩]):=by
 rcases (by omega:p=0∨p=1∨p=2∨p=3∨p=4) with e | e | e | e | e <;> subst e <;> kernel_rfl
section
variable {h:Tapi_Hidden} {seen:List Int} {g n c:Nat} (a:Valid h seen g n c) {k:Nat} (hk:1≤k∧k≤20)
include a hk
theorem Valid.most:g_path_Most h seen (k:Int)=some ((topC (wtN h seen) n k seen.length 0 0).map (·.path),(topC (wtN h seen) n k seen.length 0 0).map (·.weight),0):=by
 have hT:1≤seen.length∧seen.length≤8:=⟨a.t1,a.t8⟩
 have hn4:=a.v.n4
 unfold g_path_Most
 rw [searcher_eq h seen a.ok (by omega),if_pos a.e,a.e]
 have e1:IntKind.i64.wrap ((seen.length:Int)+1)=((seen.length+1:Nat):Int):=by rw [w64 (by omega)]; rfl
 have e2:IntKind.i64.wrap ((seen.length:Int) - 1)=((seen.length - 1:Nat):Int):=by rw [w64 (by omega)]; omega
 simp only [Option.bind_some,e1,e2,a.v.firstL,nat_i]
 rw [if_neg (by simp),if_neg (by rw [decide_eq_true_eq]; omega),if_neg (by rw [decide_eq_true_eq]; omega),if_pos (by omega),repeatW_eq n hn4]
 simp only [Option.bind_some]
 rw [lkI_q (i:=seen.length) (x:=[]) (by rw [List.getElem?_replicate,if_pos (by omega)])]
 simp only [Option.bind_some]
 have et:List.replicate n ([⟨1,[]⟩]:List Tpath_weighed)=rowG n ((fun t r=>topC (wtN h seen) n k (seen.length - t) t r) seen.length):=by
  rw [rowG_rep]; exact rowG_congr fun s _=>by simp only [Nat.sub_self]; rw [topC_zero _ _ _ _ _ hk.1]
 rw [et,tabG_top (M:=fun t r=>topC (wtN h seen) n k (seen.length - t) t r) hT.1,a.v.most_loop a.w hT hk 0]
 simp only [Option.bind_some]
 rw [show lkI (tabG n seen.length (fun t r=>topC (wtN h seen) n k (seen.length - t) t r) 0) 0=some [topC (wtN h seen) n k seen.length 0 0] from lkI_q (i:=0) (by rw [tabG_at (by omega),if_neg (by omega),if_pos rfl]; rfl)]
 simp only [Option.bind_some]
 rw [show ∀x:List Tpath_weighed,lkI [x] 0=some x from fun _=>rfl]
 simp only [Option.bind_some]
 have hl:=topC_len (wtN h seen) n k seen.length 0 0
 generalize topC (wtN h seen) n k seen.length 0 0=L at *
 rw [whileN_run (s0:=((0:Int),([]:List (List Int)),([]:List Int))) (fun j=>((j:Int),(L.take j).map (·.path),(L.take j).map (·.weight))) L.length (L.map (·.path),L.map (·.weight)) (by simp) ?_ ?_ (by omega)]
 ·rfl
 ·intro j hj
  unfold g_path_Most_b5
  simp only []
  rw [if_pos (by rw [decide_eq_true_eq]; omega),lkI_nat hj]
  simp only [Option.bind_some]
  rw [if_pos (by simp; omega),if_pos (by simp; omega),w64 (by omega),List.take_succ_eq_append_getElem hj,List.map_append,List.map_append]
  rfl
 ·unfold g_path_Most_b5
  simp only []
  rw [if_neg (by simp),List.take_length]
end
end Go.Ab
namespace Go.Ab
open Go
set_option maxRecDepth 100000
section
variable {h:Tapi_Hidden} {g n c:Nat} (v:VH h g n c) {seen:List Int} {T k:Nat} (w:VS c seen T) (hT:1≤T∧T≤8) (hk:1≤k∧k≤20)
include v w hT hk
end
end Go.Ab
namespace Go.Ab
open Go
set_option maxRecDepth 100000
section
variable {h:Tapi_Hidden} {g n c:Nat} (v:VH h g n c) {seen:List Int} {T:Nat} (w:VS c seen T) (hT:1≤T∧T≤8)
include v w hT
end
section
variable {h:Tapi_Hidden} {seen:List Int} {g n c:Nat} (a:Valid h seen g n c)
include a
end
end Go.Ab
namespace Go.Ab
open Go
set_option maxRecDepth 100000
theorem fI_get {q:List Nat} {j:Nat} (hj:j < q.length):lkI (fI q) (j:Int)=some ((q[j]:Nat):Int):=by
 rw [lkI_nat (by rw [fI_len]; exact hj)]; simp [fI]
section
variable {h:Tapi_Hidden} {seen:List Int} {g n c:Nat} (a:Valid h seen g n c)
include a
theorem Valid.weight {q:List Nat} (hl:q.length=seen.length) (hq:∀s∈q,s < n):g_path_Weight h seen (fI q)=some (((wP (wtN h seen) 0 0 q:Nat):Int),0):=by
 have hT:1≤seen.length∧seen.length≤8:=⟨a.t1,a.t8⟩
 have hn4:=a.v.n4
 have hn1:=a.v.n1
 have hB:=a.v.wtN_le (seen:=seen)
 unfold g_path_Weight
 rw [searcher_eq h seen a.ok (by omega),if_pos a.e,a.e]
 simp only [Option.bind_some]
 rw [if_neg (by simp),if_neg (by rw [fI_len,hl]; simp)]
 rw [whileN_eq (fun s=>∃(x r j:Nat),s=((x:Int),(r:Int),(j:Int))∧j≤q.length∧r < n∧x≤144^j∧x*wP (wtN h seen) j r (q.drop j)=wP (wtN h seen) 0 0 q)
  (fun s=>q.length - s.2.2.toNat) (Sum.inr ((wP (wtN h seen) 0 0 q:Nat):Int)) (fun s hs=>?_) (1,0,0) ⟨1,0,0,rfl,by omega,by omega,by simp,by simp⟩ (by simp; omega)]
 ·rfl
 ·obtain ⟨x,r,j,rfl,h1,h2,h3,h4⟩:=hs
  unfold g_path_Weight_b0
  simp only [fI_len]
  by_cases cj:j < q.length
  ·left
   have hs:=hq _ (List.getElem_mem cj)
   rw [if_pos (by rw [decide_eq_true_eq]; omega),fI_get cj]
   simp only [Option.bind_some]
   rw [if_neg (by simp),if_neg (by rw [a.v.firstL,decide_eq_true_eq]; omega),a.v.into a.w (by omega) h2 hs]
   simp only [Option.bind_some]
   rw [List.drop_eq_getElem_cons cj] at h4
   simp only [wP] at h4
   have hp:=pow144 (d:=j+1) (by omega)
   have hm:=Nat.mul_le_mul h3 (hB j r _ h2 hs)
   rw [Nat.pow_succ] at hp
   rw [←Int.natCast_mul,w64 (by omega),w64 (by omega)]
   refine ⟨_,rfl,⟨_,_,j+1,rfl,by omega,hs,by rw [Nat.pow_succ]; exact hm,by rw [Nat.mul_assoc]; exact h4⟩,?_⟩
   simp only []; omega
  ·right
   rw [if_neg (by rw [decide_eq_true_eq]; omega)]
   rw [List.drop_eq_nil_of_le (by omega)] at h4
   simp only [wP,Nat.mul_one] at h4
   rw [h4]
end
section
variable {T:Type} {le:T→T→Bool} (O:OrdOk le)
include O
end
def wsum:List Tpath_weighed→Int
 | []=>0
 | x::l=>x.weight+wsum l
theorem wsum_append (l m:List Tpath_weighed):wsum (l++m)=wsum l+wsum m:=by
 induction l with
 | nil=>simp [wsum]
 | cons x l ih=>simp only [List.cons_append,wsum,ih]; omega
theorem wsum_perm {l m:List Tpath_weighed} (h:l.Perm m):wsum l=wsum m:=by
 induction h with
 | nil=>rfl
 | cons x _ ih=>simp only [wsum,ih]
 | swap x y l=>simp only [wsum]; omega
 | trans _ _ h1 h2=>omega
theorem wsum_pos {l:List Tpath_weighed} (h:∀x∈l,1≤x.weight):(l.length:Int)≤wsum l:=by
 induction l with
 | nil=>simp [wsum]
 | cons x l ih =>
  have:=ih fun y hy=>h y (List.mem_cons_of_mem _ hy)
  have:=h x (by simp)
  simp only [wsum,List.length_cons]; omega
theorem wsum_map (w s:Nat) (l:List Tpath_weighed):wsum (l.map (beh w s))=(w:Int)*wsum l:=by
 induction l with
 | nil=>simp [wsum]
 | cons x l ih=>simp only [List.map_cons,wsum,ih,beh]; rw [Int.mul_add]
theorem wsum_flat (f:Nat → List Tpath_weighed) (F:Nat → Nat):∀(n:Nat),(∀s,s < n→wsum (f s)=((F s:Nat):Int))→wsum ((List.range n).flatMap f)=((sumTo n F:Nat):Int)
 | 0,_=>rfl
 | n+1,h=>by
  rw [List.range_succ,List.flatMap_append,wsum_append,wsum_flat f F n fun s hs=>h s (by omega)]
  simp only [List.flatMap_cons,List.flatMap_nil,List.append_nil]
  rw [h n (by omega)]; simp only [sumTo]; omega
theorem len_flat (f:Nat → List Tpath_weighed) (F:Nat → Nat):∀(n:Nat),(∀s,s < n→(f s).length=F s)→((List.range n).flatMap f).length=sumTo n F
 | 0,_=>rfl
 | n+1,h=>by
  rw [List.range_succ,List.flatMap_append,List.length_append,len_flat f F n fun s hs=>h s (by omega)]
  simp only [List.flatMap_cons,List.flatMap_nil,List.append_nil]
  rw [h n (by omega)]; simp only [sumTo]
section
variable (h:Tapi_Hidden) (n:Nat) (seen:List Int) (T:Nat)
theorem wtN_succ (t r s:Nat):wtN h seen (t+1) r s=nat2 h.Step r s*shN h (seen.getD (t+1) 0) s:=by
 unfold wtN; rw [if_neg (by omega)]
theorem wtN_zero (r s:Nat):wtN h seen 0 r s=nat1 h.First s*shN h (seen.getD 0 0) s:=by
 unfold wtN; rw [if_pos rfl]
theorem allW_bw:∀(d t s:Nat),t+1+d=T→wsum (allW (wtN h seen) n d (t+1) s)=((bw h n seen T t s:Nat):Int)
 | 0,t,s,e=>by
  have:t=T - 1:=by omega
  rw [this,bw_last]; rfl
 | d+1,t,s,e=>by
  rw [allW,bw_step h n seen (by omega)]
  refine wsum_flat _ _ n fun r hr=>?_
  rw [wtN_succ]
  split
  ·rename_i c; rw [c,Nat.zero_mul]; rfl
  ·rw [wsum_map,allW_bw d (t+1) r (by omega),←Int.natCast_mul]
theorem allW_sum (hT:1≤T):wsum (allW (wtN h seen) n T 0 0)=((totN h n seen T:Nat):Int):=by
 obtain ⟨d,hd⟩:∃d,T=d+1:=⟨T - 1,by omega⟩
 have key:=allW_bw h n seen T d 0
 rw [show allW (wtN h seen) n T 0 0=allW (wtN h seen) n (d+1) 0 0 by rw [hd],allW]
 unfold totN
 refine wsum_flat _ _ n fun r hr=>?_
 rw [wtN_zero]
 split
 ·rename_i c; rw [c,Nat.zero_mul]; rfl
 ·rw [wsum_map,key r (by omega),←Int.natCast_mul]
theorem allW_cw:∀(d t s:Nat),t+1+d=T→(allW (wtN h seen) n d (t+1) s).length=cw h n seen T t s
 | 0,t,s,e=>by
  have:t=T - 1:=by omega
  rw [this,cw_last]; rfl
 | d+1,t,s,e=>by
  rw [allW,cw_step h n seen (by omega)]
  refine len_flat _ _ n fun r hr=>?_
  rw [wtN_succ]
  split
  ·rfl
  ·rw [List.length_map,allW_cw d (t+1) r (by omega)]
theorem allW_len (hT:1≤T):(allW (wtN h seen) n T 0 0).length=cntN h n seen T:=by
 obtain ⟨d,hd⟩:∃d,T=d+1:=⟨T - 1,by omega⟩
 have key:=allW_cw h n seen T d 0
 rw [show allW (wtN h seen) n T 0 0=allW (wtN h seen) n (d+1) 0 0 by rw [hd],allW]
 unfold cntN
 refine len_flat _ _ n fun r hr=>?_
 rw [wtN_zero]
 split
 ·rfl
 ·rw [List.length_map,key r (by omega)]
end
end Go.Ab
namespace Go.Ab
open Go
set_option maxRecDepth 100000
theorem psums_b0 {n:Nat} {f:Nat → Nat} (hn:n≤1000) (hb:sumTo n f≤MX):whileN fuel (g_law18_PathSums_b0 (rowI n f)) (0,0)=some ((sumTo n f:Nat):Int):=by
 have hMX:=mx_eq
 rw [whileN_run (s0:=((0:Int),(0:Int))) (fun j=>(((sumTo j f:Nat):Int),(j:Int))) n ((sumTo n f:Nat):Int) rfl ?_ ?_ (by omega)]
 ·intro j hj
  unfold g_law18_PathSums_b0
  simp only [rowI_len]
  rw [if_pos (by rw [decide_eq_true_eq]; omega),rowI_get hj]
  simp only [Option.bind_some]
  have:=sumTo_mono (f:=f) (show j+1≤n by omega)
  simp only [sumTo] at this
  rw [←Int.natCast_add,w64 (by omega),w64 (by omega)]
  rfl
 ·unfold g_law18_PathSums_b0
  simp only [rowI_len]
  rw [if_neg (by simp)]
theorem psums_b1 (L:List Tpath_weighed) (x:List (List Int) × Int) (hl:L.length≤20) (hx:∀x∈L,1≤x.weight) (hs:wsum L≤4611686018427387903):whileN fuel (g_law18_PathSums_b1 (x.1,L.map (·.weight),x.2)) (0,0)=some (wsum L):=by
 rw [whileN_run (s0:=((0:Int),(0:Int))) (fun j=>(wsum (L.take j),(j:Int))) L.length (wsum L) (by simp [wsum]) ?_ ?_ (by omega)]
 ·intro j hj
  unfold g_law18_PathSums_b1
  simp only [List.length_map]
  rw [if_pos (by rw [decide_eq_true_eq]; omega),lkI_nat (by rw [List.length_map]; exact hj)]
  simp only [Option.bind_some,List.getElem_map]
  have e:wsum (L.take (j+1))=wsum (L.take j)+L[j].weight:=by
   rw [List.take_succ_eq_append_getElem hj,wsum_append]; simp [wsum]
  have h1:=wsum_append (L.take (j+1)) (L.drop (j+1))
  rw [List.take_append_drop] at h1
  have h2:=wsum_pos (l:=L.drop (j+1)) fun y hy=>hx y (List.mem_of_mem_drop hy)
  have h3:=wsum_pos (l:=L.take (j+1)) fun y hy=>hx y (List.mem_of_mem_take hy)
  rw [e] at h1 h3
  rw [e,w64 (n:=wsum (L.take j)+L[j].weight) (by omega),w64 (by omega)]
  rfl
 ·unfold g_law18_PathSums_b1
  simp only [List.length_map]
  rw [if_neg (by simp),List.take_length]
theorem sums_true (p0:Tharuspexref17_Draft) (h0:okTharuspexref17_Draft p0):g_law18_PathSums p0=some true:=by
 obtain ⟨h,seen,g,n,c,e1,e2,a⟩:=draft_valid p0 h0
 have hT:1≤seen.length∧seen.length≤8:=⟨a.t1,a.t8⟩
 have hn1:=a.v.n1
 have hn4:=a.v.n4
 have hMX:=mx_eq
 unfold g_law18_PathSums
 rw [wakes18_true]; simp only [Option.bind_some]
 rw [if_neg (by simp),e1]; simp only [Option.bind_some]
 rw [e2]; simp only [Option.bind_some]
 rw [a.v.count_eq a.w hT a.ok a.e a.t8]; simp only [Option.bind_some]
 rw [show (20:Int)=((20:Nat):Int) from rfl,a.most (k:=20) (by omega)]; simp only [Option.bind_some]
 rw [a.v.forward_call a.w hT a.ok a.e]; simp only [Option.bind_some]
 rw [if_neg (by simp),if_neg (by simp),if_neg (by simp),if_neg (by rw [tabI_len]; simp),if_neg (by simp),a.v.last a.w hT]
 simp only [Option.bind_some]
 have hfx:=a.v.fw_mx a.w hT (t:=seen.length - 1) (by omega)
 rw [psums_b0 (by omega) hfx]
 simp only [Option.bind_some]
 have htot:=tot_last h n seen hT.1
 have hall:=allW_sum h n seen seen.length hT.1
 have hlen:=allW_len h n seen seen.length hT.1
 rw [htot] at hall
 have hperm:=isort_perm leW (allW (wtN h seen) n seen.length 0 0)
 have hsum:=wsum_perm hperm
 have hpl:=hperm.length_eq
 have hsplit:=wsum_append ((isort leW (allW (wtN h seen) n seen.length 0 0)).take 20) ((isort leW (allW (wtN h seen) n seen.length 0 0)).drop 20)
 rw [List.take_append_drop] at hsplit
 have hpos:∀x∈isort leW (allW (wtN h seen) n seen.length 0 0),1≤x.weight:=fun x hx=>by
  obtain ⟨q,_,_,h3,rfl⟩:=allW_mem.1 (hperm.mem_iff.1 hx)
  show (1:Int)≤((wP (wtN h seen) 0 0 q:Nat):Int)
  omega
 have hd:=wsum_pos (l:=(isort leW (allW (wtN h seen) n seen.length 0 0)).drop 20) fun y hy=>hpos y (List.mem_of_mem_drop hy)
 rw [show topC (wtN h seen) n 20 seen.length 0 0=(isort leW (allW (wtN h seen) n seen.length 0 0)).take 20 from rfl]
 rw [show whileN fuel (g_law18_PathSums_b1 (((isort leW (allW (wtN h seen) n seen.length 0 0)).take 20).map (·.path),((isort leW (allW (wtN h seen) n seen.length 0 0)).take 20).map (·.weight),0)) (0,0)=_ from
  psums_b1 ((isort leW (allW (wtN h seen) n seen.length 0 0)).take 20) (((isort leW (allW (wtN h seen) n seen.length 0 0)).take 20).map (·.path),0) (by rw [List.length_take]; omega) (fun x hx=>hpos x (List.mem_of_mem_take hx)) (by omega)]
 simp only [Option.bind_some]
 rw [List.length_drop] at hd
 by_cases cc:wsum ((isort leW (allW (wtN h seen) n seen.length 0 0)).take 20)=((sumTo n (fw h n seen (seen.length - 1)):Nat):Int)
 ·rw [if_pos (by rw [beq_iff_eq]; exact cc)]
 ·rw [if_neg (by rw [beq_iff_eq]; exact cc)]
  have hgt:20 < (allW (wtN h seen) n seen.length 0 0).length:=by
   rcases Nat.lt_or_ge 20 (allW (wtN h seen) n seen.length 0 0).length with h1 | h1
   ·exact h1
   ·exfalso; apply cc
    rw [List.take_of_length_le (by omega)]; omega
  rw [if_pos (by rw [decide_eq_true_eq]; omega),decide_eq_true (by omega)]
end Go.Ab
