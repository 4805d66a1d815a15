/- What functions compute. No conditions. -/
import Derived.Test.YtjhfdojgaoapcaaDoorW15
import Derived.Test.YtjhfdojgaoapcaaDoorRows
import Derived.Test.YtjhfdojgaoapcaaDoorEng6
import Derived.WalkKit
import Derived.ProofKit
import Derived.LaidMore
import Derived.Lib.LaidTab
import Derived.Stop.LaidErr
import Derived.Stop.Joined
import Derived.OpenShut
set_option linter.all false
namespace Go.Ab
open Go
set_option maxRecDepth 100000
set_option maxHeartbeats 400000
def mn (n:Nat) (S:Nat → Bool) (f:Nat → Nat):Nat → Nat
 | 0=>n
 | k+1=>if S k then min (mn n S f k) (f k) else mn n S f k
theorem mn_congr {n:Nat} {S T:Nat → Bool} {f g:Nat → Nat}:∀k,(∀i,i < k→S i=T i)→(∀i,i < k→S i=true→f i=g i)→mn n S f k=mn n T g k
 | 0,_,_=>rfl
 | k+1,h1,h2=>by
  simp only [mn]
  rw [mn_congr k (fun i hi=>h1 i (by omega)) (fun i hi=>h2 i (by omega)),←h1 k (by omega)]
  cases hS:S k with
  | true=>rw [h2 k (by omega) hS]
  | false=>rfl
def rem (S:Nat → Bool) (v:Nat):Nat → Bool:=fun i=>S i && !decide (v=i)
noncomputable def wid (n:Nat) (A:Gr):Nat → (Nat → Bool)→Nat
 | 0,_=>0
 | k+1,S=>mn n S (fun v=>max (lateN n A S v) (wid n A k (rem S v))) n
theorem late_congr {n:Nat} {A:Gr} {S T:Nat → Bool} (hG:Good n A) (h:∀i,i < n→S i=T i) (v:Nat):lateN n A S v=lateN n A T v:=by unfold lateN; rw [Egr_congr hG h]
theorem wid_congr {n:Nat} {A:Gr} (hG:Good n A):∀(k:Nat) (S T:Nat → Bool),(∀i,i < n→S i=T i)→wid n A k S=wid n A k T
 | 0,_,_,_=>rfl
 | k+1,S,T,h=>by
  simp only [wid]
  refine mn_congr n h fun v hv _=>?_
  rw [late_congr hG h,wid_congr hG k (rem S v) (rem T v) fun i hi=>by unfold rem; rw [h i hi]]
theorem cnt_rem {n:Nat} {S:Nat → Bool} {v k:Nat} (hv:v < n) (h:S v=true) (hc:cnt n S=k+1):cnt n (rem S v)=k:=by
 have:=cnt_del (n:=n) hv h
 unfold rem; omega
theorem some_in {n:Nat} {S:Nat → Bool} {k:Nat} (hc:cnt n S=k+1):∃v,v < n∧S v=true:=by
 apply Classical.byContradiction
 intro h
 have:=cnt_zero (n:=n) (p:=S) fun i hi=>by rw [Bool.eq_false_iff]; exact fun hh=>h ⟨i,hi,hh⟩
 omega
theorem mget_mput (k:Int) (w:Int):∀(l:List (Int × Int)) (n:Int),mget (mput l k w) n=if n==k then some w else mget l n
 | [],n=>by simp only [mput,mget]
 | p::r,n=>by
  unfold mput
  by_cases h:(k==p.1)=true
  ·rw [if_pos h]
   have e:k=p.1:=by simpa using h
   simp only [mget]
   by_cases h2:(n==k)=true
   ·simp [h2]
   ·have h3:(n==p.1)=false:=by rw [←e]; simpa using h2
    simp [h2,h3]
  ·rw [if_neg h]
   simp only [mget,mget_mput k w r n]
   by_cases h2:(n==p.1)=true
   ·have e2:n=p.1:=by simpa using h2
    have h3:(n==k)=false:=by
     rw [Bool.eq_false_iff]; intro h4
     have:n=k:=by simpa using h4
     exact h (by rw [←this,e2]; simp)
    simp [h2,h3]
   ·simp [h2]
def Vm (n:Nat) (A:Gr) (m:List (Int × Int)):Prop:=(∀S w,mget m ((msk n S:Nat):Int)=some w→w=(wid n A (cnt n S) S:Int))∧mget m 0=some 0
theorem vm_put {n:Nat} {A:Gr} {m:List (Int × Int)} (hG:Good n A) (h:Vm n A m) {S:Nat → Bool} {k:Nat} (hc:cnt n S=k+1):Vm n A (mput m ((msk n S:Nat):Int) (wid n A (k+1) S:Int)):=by
 refine ⟨fun T w hw=>?_,?_⟩
 ·rw [mget_mput] at hw
  split at hw
  ·rename_i e
   cases hw
   have e1:msk n T=msk n S:=by
    have:((msk n T:Nat):Int)=((msk n S:Nat):Int):=by simpa using e
    omega
   have e2:=msk_inj e1
   rw [cnt_congr e2,hc,wid_congr hG _ _ _ e2]
  ·exact h.1 T w hw
 ·rw [mget_mput,if_neg,h.2]
  have:=msk_ne hc
  simp at this
  simp; omega
theorem gone_msk {n:Nat} {S:Nat → Bool} (hn:n≤10):IntKind.u64.wrap (BitVec.ofInt (IntKind.bits .u64) (IntKind.u64.wrap ((IntKind.u64.wrap (1*2^min (Int.toNat (n:Int)) (IntKind.bits .u64))) - 1)) &&& ~~~ BitVec.ofInt (IntKind.bits .u64) ((msk n S:Nat):Int)).toNat = ((msk n fun i=>!S i:Nat):Int):=by
 rw [u_all hn,u_diff (n:=n) (p:=fun _=>true) (q:=S) (by omega) (msk_lt n _) (lt64 hn (msk_lt n _)) bitS bitS]
 simp
theorem imin (a b:Nat):(if (a:Int) < (b:Int) then (a:Int) else (b:Int))=((min b a:Nat):Int):=by split <;> omega
theorem narrow_spec {n:Nat} {A:Gr} (hn:n≤10) (h1:1≤n) (hG:Good n A):∀(k N:Nat) (S:Nat → Bool) (m:List (Int × Int)),k < N→cnt n S=k→Vm n A m →
  ∃m',recN (g_order_Best_r1 (gl n A)) N (((msk n S:Nat):Int),m)=some ((wid n A k S:Int),m')∧Vm n A m'
 | k,0,S,m,hN,_,_=>by omega
 | k,N+1,S,m,hN,hc,hV=>by
  show ∃m',g_order_Best_r1 (gl n A) (recN (g_order_Best_r1 (gl n A)) N) (((msk n S:Nat):Int),m)=some ((wid n A k S:Int),m')∧Vm n A m'
  have ih:∀(k:Nat) (S:Nat → Bool) (m:List (Int × Int)),k < N→cnt n S=k→Vm n A m→∃m',recN (g_order_Best_r1 (gl n A)) N (((msk n S:Nat):Int),m)=some ((wid n A k S:Int),m')∧Vm n A m':=fun k S m a b c=>narrow_spec hn h1 hG k N S m a b c
  generalize recN (g_order_Best_r1 (gl n A)) N=d at ih
  unfold g_order_Best_r1
  dsimp only
  cases hm:mget m ((msk n S:Nat):Int) with
  | some w =>
   rw [if_pos (by rfl)]
   have:=hV.1 S w hm
   rw [hc] at this
   exact ⟨m,by rw [this]; rfl,hV⟩
  | none =>
   rw [if_neg (by simp)]
   cases k with
   | zero=>rw [msk_zero hc] at hm; rw [show ((0:Nat):Int)=0 from rfl,hV.2] at hm; cases hm
   | succ k =>
    let f:Nat → Nat := fun v=>max (lateN n A S v) (wid n A k (rem S v))
    obtain ⟨r,e1,e2⟩:=mem_loop hn (fun R (t:List (Int × Int) × Int)=>(R,t.1,t.2)) (body:=g_order_Best_b0 (gl n A) (((msk n S:Nat):Int),m) d) (fun j t=>Vm n A t.1∧t.2=(mn n S f j:Int)) (fun r=>Vm n A r.1∧r.2=(mn n S f n:Int)) S
     (fun x t R R' hx hp hI c1 c2 c3=>.inl (by
      obtain ⟨t1,t2⟩:=t
      obtain ⟨i1,i2⟩:=hI
      simp only at i1 i2
      subst i2
      obtain ⟨m',e,hV'⟩:=ih k (rem S x) t1 (by omega) (cnt_rem hx hp hc) i1
      have hl:=late_spec hn hG hx hp
      have hd:IntKind.u64.wrap (BitVec.ofInt (IntKind.bits .u64) ((msk n S:Nat):Int) &&& ~~~ BitVec.ofInt (IntKind.bits .u64) (IntKind.u64.wrap (1*2^min (Int.toNat (x:Int)) (IntKind.bits .u64)))).toNat = ((msk n (rem S x):Nat):Int):=u_del hn (by omega)
      refine ⟨(m',(mn n S f (x+1):Int)),?_,hV',rfl⟩
      unfold g_order_Best_b0
      dsimp only
      rw [if_pos c1,c2,Option.bind_some,gl_len,gone_msk hn,hl,Option.bind_some,if_pos (nat_ge x),hd,e,Option.bind_some,c3]
      simp only [imax,imin,mn,hp,if_true,f]))
     (fun x t hx hp hI=>⟨hI.1,by rw [hI.2]; simp only [mn]; rw [hp]; rfl⟩)
     (fun t hI=>⟨_,by unfold g_order_Best_b0; dsimp only; rw [if_neg (by simp)],hI⟩)
     (m,((gl n A).length:Int)) ⟨hV,by rw [gl_len]; rfl⟩
    dsimp only at e1
    rw [e1,Option.bind_some]
    refine ⟨mput r.1 ((msk n S:Nat):Int) r.2,by rw [e2.2]; rfl,?_⟩
    rw [e2.2]
    exact vm_put hG e2.1 hc
open Classical in
theorem r31:g_order_Best_r3=g_order_Best_r1:=rfl
theorem nI_snoc (o:List Nat) (v:Nat):nI o++([(v:Int)]:List Int)=nI (o++[v]):=by simp [nI]
theorem place {n:Nat} {A:Gr} (hn:n≤10) (h1:1≤n) (hG:Good n A) {k w:Nat} {S:Nat → Bool} {o:List Nat} {m mx:List (Int × Int)} (hc:cnt n S=k+1) (hV:Vm n A m) (ho:o.length≤100) :
  (∃v m',whileN fuel (g_order_Best_b4 (gl n A) (((msk n S:Nat):Int),nI o,m) ((w:Int),mx)) (((msk n S:Nat):Int),m)=some (Sum.inl (((msk n (rem S v):Nat):Int),m',nI (o++[v])))∧Vm n A m'∧v < n∧S v=true∧lateN n A S v≤w∧wid n A k (rem S v)≤w∧∀i,i < v→S i=true→¬ (lateN n A S i≤w∧wid n A k (rem S i)≤w)) ∨
  (∃m',whileN fuel (g_order_Best_b4 (gl n A) (((msk n S:Nat):Int),nI o,m) ((w:Int),mx)) (((msk n S:Nat):Int),m)=some (Sum.inr m')∧∀i,i < n→S i=true→¬ (lateN n A S i≤w∧wid n A k (rem S i)≤w)):=by
 obtain ⟨r,e1,e2⟩:=mem_loop hn (fun R (t:List (Int × Int))=>(R,t)) (body:=g_order_Best_b4 (gl n A) (((msk n S:Nat):Int),nI o,m) ((w:Int),mx)) (fun j t=>Vm n A t∧∀i,i < j→S i=true→¬ (lateN n A S i≤w∧wid n A k (rem S i)≤w))
  (fun r=>(∃v m',r=Sum.inl (((msk n (rem S v):Nat):Int),m',nI (o++[v]))∧Vm n A m'∧v < n∧S v=true∧lateN n A S v≤w∧wid n A k (rem S v)≤w∧∀i,i < v→S i=true→¬ (lateN n A S i≤w∧wid n A k (rem S i)≤w))∨(∃m',r=Sum.inr m'∧∀i,i < n→S i=true→¬ (lateN n A S i≤w∧wid n A k (rem S i)≤w))) S
  (fun x t R R' hx hp hI c1 c2 c3=>by
   obtain ⟨i1,i2⟩:=hI
   have hl:=late_spec hn hG hx hp
   have hd:IntKind.u64.wrap (BitVec.ofInt (IntKind.bits .u64) ((msk n S:Nat):Int) &&& ~~~ BitVec.ofInt (IntKind.bits .u64) (IntKind.u64.wrap (1*2^min (Int.toNat (x:Int)) (IntKind.bits .u64)))).toNat = ((msk n (rem S x):Nat):Int):=u_del hn (by omega)
   obtain ⟨m',e,hV'⟩:=narrow_spec hn h1 hG k fuel (rem S x) t (by have:=cnt_le n S; show k < 1152921504606846976; omega) (cnt_rem hx hp hc) i1
   have more:¬ (lateN n A S x≤w∧wid n A k (rem S x)≤w)→∀i,i < x+1→S i=true→¬ (lateN n A S i≤w∧wid n A k (rem S i)≤w):=fun h i hi hS=>by
    rcases Nat.lt_succ_iff_lt_or_eq.1 hi with h2 | h2
    ·exact i2 i h2 hS
    ·rw [h2]; exact h
   by_cases l1:lateN n A S x≤w
   ·have d1:decide ((lateN n A S x:Int)≤(w:Int))=true:=by simpa using l1
    by_cases l2:wid n A k (rem S x)≤w
    ·right
     have d2:decide ((wid n A k (rem S x):Int)≤(w:Int))=true:=by simpa using l2
     have hlen:(nI o++([(x:Int)]:List Int)).length*8≤140737488355328:=by rw [List.length_append,nI_len]; simp; omega
     refine ⟨_,?_,.inl ⟨x,m',rfl,hV',hx,hp,l1,l2,i2⟩⟩
     unfold g_order_Best_b4
     dsimp only
     rw [if_pos c1,c2,Option.bind_some,gl_len,gone_msk hn,hl,Option.bind_some,if_pos d1,if_pos (nat_ge x),hd,r31,e,Option.bind_some,if_pos d2,if_pos hlen,if_pos (nat_ge x),nI_snoc]
    ·left
     have d2:¬ decide ((wid n A k (rem S x):Int)≤(w:Int))=true:=by simpa using l2
     refine ⟨m',?_,hV',more fun h=>l2 h.2⟩
     unfold g_order_Best_b4
     dsimp only
     rw [if_pos c1,c2,Option.bind_some,gl_len,gone_msk hn,hl,Option.bind_some,if_pos d1,if_pos (nat_ge x),hd,r31,e,Option.bind_some,if_neg d2,c3]
   ·left
    have d1:¬ decide ((lateN n A S x:Int)≤(w:Int))=true:=by simpa using l1
    refine ⟨t,?_,i1,more fun h=>l1 h.1⟩
    unfold g_order_Best_b4
    dsimp only
    rw [if_pos c1,c2,Option.bind_some,gl_len,gone_msk hn,hl,Option.bind_some,if_neg d1,c3])
  (fun x t hx hp hI=>⟨hI.1,fun i hi hS=>by
   rcases Nat.lt_succ_iff_lt_or_eq.1 hi with h2 | h2
   ·exact hI.2 i h2 hS
   ·subst h2; rw [hp] at hS; cases hS⟩)
  (fun t hI=>⟨_,by unfold g_order_Best_b4; dsimp only; rw [if_neg (by simp)],.inr ⟨t,rfl,hI.2⟩⟩)
  m ⟨hV,fun i hi=>by omega⟩
 rcases e2 with ⟨v,m',rfl,h⟩ | ⟨m',rfl,h⟩
 ·exact .inl ⟨v,m',e1,h⟩
 ·exact .inr ⟨m',e1,h⟩
end Go.Ab
namespace Go.Ab
open Go
set_option maxRecDepth 100000
set_option maxHeartbeats 400000
structure Lists (n:Nat) (S:Nat → Bool) (o:List Nat):Prop where
 mem:∀i,i∈o↔i < n∧S i=true
 nodup:o.Nodup
theorem lists_tail {n:Nat} {S:Nat → Bool} {v:Nat} {o:List Nat} (h:Lists n S (v::o)):v < n∧S v=true∧Lists n (rem S v) o:=by
 have h1:=(h.mem v).1 (by simp)
 have h2:=List.nodup_cons.1 h.nodup
 refine ⟨h1.1,h1.2,fun i=>?_,h2.2⟩
 unfold rem
 simp only [Bool.and_eq_true,Bool.not_eq_true',decide_eq_false_iff_not]
 have:=h.mem i
 rw [List.mem_cons] at this
 constructor
 ·intro hi
  have h3:=this.1 (.inr hi)
  exact ⟨h3.1,h3.2,fun e=>h2.1 (e ▸ hi)⟩
 ·rintro ⟨a,b,c⟩
  rcases this.2 ⟨a,b⟩ with e | e
  ·exact absurd e.symm c
  ·exact e
theorem lists_nil {n:Nat} {S:Nat → Bool} (h:Lists n S []):cnt n S=0:=cnt_zero fun i hi=>by
 rw [Bool.eq_false_iff]; intro hS
 have:=(h.mem i).2 ⟨hi,hS⟩
 cases this
theorem ord_lists {n:Nat} {o:List Nat} (h:Ord n o):Lists n (fun _=>true) o:=by
 refine ⟨fun i=>⟨fun hi=>⟨h.lt i hi,rfl⟩,fun hi=>?_⟩,h.nodup⟩
 apply Classical.byContradiction
 intro hno
 have hp:(i::o).Nodup:=List.nodup_cons.2 ⟨hno,h.nodup⟩
 have hsub:(i::o).length≤(List.range n).length:=by
  exact List.Nodup.length_le_of_subset hp fun x hx=>by
   rcases List.mem_cons.1 hx with e | e
   ·rw [e]; exact List.mem_range.2 hi.1
   ·exact List.mem_range.2 (h.lt x e)
 rw [List.length_cons,h.len,List.length_range] at hsub
 omega
theorem elim_egr {n:Nat} {A:Gr} {S:Nat → Bool} {v:Nat} (hG:Good n A) (hv:S v=true):elim (Egr A S) v=Egr A (rem S v):=funext fun u=>funext fun w=>Egr_elim hG hv u w
theorem mn_ge {n:Nat} {S:Nat → Bool} {f:Nat → Nat} {d:Nat} (hn:d≤n):∀k,(∀v,v < k→S v=true→d≤f v)→d≤mn n S f k
 | 0,_=>hn
 | k+1,h=>by
  have:=mn_ge (S:=S) (f:=f) hn k fun v a b=>h v (by omega) b
  simp only [mn]
  split
  ·rename_i hS
   have:=h k (by omega) hS; omega
  ·exact this
end Go.Ab
namespace Go.Ab
open Go
set_option maxRecDepth 100000
set_option maxHeartbeats 400000
theorem miss_nil {n:Nat} {G:Gr} {v:Nat} (hG:Good n G) (h:miss n G v=[]) {a b:Nat} (ha:G v a=true) (hb:G v b=true) (hne:a≠b):G a b=true:=by
 have la:a < n:=hG.lt a v (by rw [hG.sym]; exact ha)
 have lb:b < n:=hG.lt b v (by rw [hG.sym]; exact hb)
 apply Classical.byContradiction
 intro hno
 have hno':G a b=false:=by simpa using hno
 rcases Nat.lt_or_ge a b with c | c
 ·have:(a,b)∈miss n G v:=miss_mem.2 ⟨c,lb,ha,hb,hno'⟩
  rw [h] at this; cases this
 ·have:(b,a)∈miss n G v:=miss_mem.2 ⟨by omega,la,hb,ha,by rw [hG.sym]; exact hno'⟩
  rw [h] at this; cases this
theorem elim_del {n:Nat} {G:Gr} {v:Nat} (hG:Good n G) (h:miss n G v=[]):elim G v=del G v:=funext fun u=>funext fun w=>by
 have key:=fun (ha:G v u=true) (hb:G v w=true) (hne:u≠w)=>miss_nil hG h ha hb hne
 unfold elim del
 grind
structure Clq (n:Nat) (G:Gr) (K:Nat → Bool):Prop where
 lt:∀i,K i=true→i < n
 all:∀a b,K a=true→K b=true→a≠b→G a b=true
theorem wid_clique {n:Nat} {A:Gr} (hG:Good n A):∀(k:Nat) (S K:Nat → Bool) (d:Nat),cnt n S=k→(∀i,K i=true→S i=true)→Clq n (Egr A S) K→cnt n K=d+1→d≤wid n A k S
 | 0,S,K,d,hc,hs,hK,hd=>by
  obtain ⟨i,hi,h⟩:=some_in hd
  have:=cnt_pos hi (hs i h); omega
 | k+1,S,K,d,hc,hs,hK,hd=>by
  simp only [wid]
  refine mn_ge (by have:=cnt_le n K; omega) n fun u hu hS=>?_
  cases hKu:K u with
  | true =>
   have h1:=cnt_del (n:=n) hu hKu
   have h2:cnt n (fun i=>K i && !decide (u=i))≤lateN n A S u:=cnt_mono fun i hi h=>by
    simp only [Bool.and_eq_true,Bool.not_eq_true',decide_eq_false_iff_not] at h
    exact hK.all u i hKu h.1 h.2
   omega
  | false =>
   have h2:=wid_clique hG k (rem S u) K d (cnt_rem hu hS hc) (fun i h=>by
    unfold rem
    have:¬ u=i:=fun e=>by subst e; rw [hKu] at h; cases h
    simp [hs i h,this]) ⟨hK.lt,fun a b ha hb hne=>by
    rw [←elim_egr hG hS]
    have e1:¬ a=u:=fun e=>by subst e; rw [hKu] at ha; cases ha
    have e2:¬ b=u:=fun e=>by subst e; rw [hKu] at hb; cases hb
    unfold elim
    simp [hK.all a b ha hb hne,e1,e2]⟩ hd
   omega
theorem chord_width {n:Nat} {W:Nat}:∀(o:List Nat) (G:Gr),Good n G→(∀v∈o,v < n)→fillL n G o=[]→(∀(K:Nat → Bool) (d:Nat),Clq n G K→cnt n K=d+1→d≤W)→widL n G o≤W
 | [],G,hG,ho,hf,hW=>by simp [widL]
 | v::o,G,hG,ho,hf,hW=>by
  simp only [fillL,List.append_eq_nil_iff] at hf
  have hv:=ho v (by simp)
  have ih:=chord_width (W:=W) o (elim G v) (elim_good hG v) (fun u hu=>ho u (List.mem_cons_of_mem _ hu)) hf.2 fun K d hK hd=>hW K d ⟨hK.lt,fun a b ha hb hne=>by
   have h:=hK.all a b ha hb hne
   rw [elim_del hG hf.1] at h
   unfold del at h
   simp only [Bool.and_eq_true] at h
   exact h.1.1⟩ hd
  have h1:=hW (fun i=>G v i || decide (v=i)) (cnt n (G v)) ⟨fun i h=>by
    simp only [Bool.or_eq_true,decide_eq_true_eq] at h
    rcases h with h | h
    ·exact hG.lt i v (by rw [hG.sym]; exact h)
    ·omega,fun a b ha hb hne=>by
    simp only [Bool.or_eq_true,decide_eq_true_eq] at ha hb
    rcases ha with ha | ha
    ·rcases hb with hb | hb
     ·exact miss_nil hG hf.1 ha hb hne
     ·rw [←hb,hG.sym]; exact ha
    ·rcases hb with hb | hb
     ·rw [←ha]; exact hb
     ·exact absurd (ha.symm.trans hb) hne⟩ (by
    have h2:=cnt_del (n:=n) (p:=fun i=>G v i || decide (v=i)) hv (by simp)
    rw [cnt_congr (q:=G v) fun i hi=>by
     by_cases e:v=i
     ·subst e; rw [hG.irr]; simp
     ·simp [e]] at h2
    exact h2.symm)
  simp only [widL]
  omega
theorem fill_erase {n v:Nat}:∀(o:List Nat) (G:Gr),Good n G→fillL n G o=[]→fillL n (del G v) (o.erase v)=[]
 | [],G,hG,hf=>by simp [fillL]
 | u::o,G,hG,hf=>by
  simp only [fillL,List.append_eq_nil_iff] at hf
  by_cases e:u=v
  ·subst e
   rw [List.erase_cons_head,←elim_del hG hf.1]
   exact hf.2
  ·rw [List.erase_cons_tail (by simpa using e)]
   have h1:miss n (del G v) u=[]:=by
    rw [List.eq_nil_iff_forall_not_mem]
    rintro ⟨a,b⟩ hm
    obtain ⟨m1,m2,m3,m4,m5⟩:=miss_mem.1 hm
    have:(a,b)∈miss n G u:=by
     unfold del at m3 m4 m5
     refine miss_mem.2 ⟨m1,m2,?_,?_,?_⟩ <;> grind
    rw [hf.1] at this; cases this
   have h2:elim (del G v) u=del (elim G u) v:=funext fun a=>funext fun b=>by
    unfold elim del
    grind
   simp only [fillL]
   rw [h1,h2,fill_erase o (elim G u) (elim_good hG u) hf.2]; rfl
theorem lists_erase {n v:Nat} {L:Nat → Bool} {o:List Nat} (h:Lists n L o):Lists n (rem L v) (o.erase v):=by
 refine ⟨fun i=>?_,h.nodup.erase v⟩
 rw [h.nodup.mem_erase_iff,h.mem]
 unfold rem
 simp only [Bool.and_eq_true,Bool.not_eq_true',decide_eq_false_iff_not]
 grind
theorem greedy_chord {n:Nat}:∀(k:Nat) (G:Gr) (L:Nat → Bool) (o:List Nat),Good n G→cnt n L=k→Lists n L o→fillL n G o=[]→fillL n G (grd n (lackN n) k G L)=[]
 | 0,G,L,o,hG,hc,hl,hf=>by simp [grd,fillL]
 | k+1,G,L,[],hG,hc,hl,hf=>by have:=lists_nil hl; omega
 | k+1,G,L,u::o,hG,hc,hl,hf=>by
  obtain ⟨u1,u2,u3⟩:=lists_tail hl
  have hf':=hf
  simp only [fillL,List.append_eq_nil_iff] at hf'
  rcases amin_spec (L:=L) (m:=lackN n G) n with ⟨a1,a2⟩ | ⟨v,a1,a2,a3,a4,_⟩
  ·have:=cnt_zero a2; omega
  ·have h0:miss n G v=[]:=by
    have:=a4 u u1 u2
    rw [lack_zero.2 hf'.1] at this
    exact lack_zero.1 (by omega)
   simp only [grd,a1,fillL]
   rw [h0,List.nil_append]
   have hfe:=fill_erase (v:=v) (u::o) G hG hf
   rw [←elim_del hG h0] at hfe
   exact greedy_chord k (elim G v) (rem L v) ((u::o).erase v) (elim_good hG v) (cnt_rem a2 a3 hc) (lists_erase hl) hfe
theorem new_nil {n:Nat} {A:Gr} {o:List Nat} (hG:Good n A):newL n (wholeA n A o) A n=[]↔fillL n A o=[]:=by
 have:=(fill_perm (o:=o) hG).length_eq
 rw [←List.length_eq_zero_iff,←List.length_eq_zero_iff,this]
theorem joinL_good {n:Nat}:∀(l:List (Nat × Nat)) (A:Gr),Good n A→(∀p∈l,p.1 < n∧p.2 < n∧p.1≠p.2)→Good n (joinL A l)
 | [],A,hG,_=>hG
 | (a,b)::l,A,hG,h=>by
  obtain ⟨h1,h2,h3⟩:=h (a,b) (by simp)
  exact joinL_good l _ (join_good hG h1 h2 h3) fun p hp=>h p (List.mem_cons_of_mem _ hp)
theorem fill_ok {n:Nat} {A:Gr} {o:List Nat}:∀p∈fillL n A o,p.1 < n∧p.2 < n∧p.1≠p.2:=fun p hp=>by
 obtain ⟨a,b⟩:=p
 have:=fill_lt o A a b hp
 simp only; omega
theorem whole_good {n:Nat} {A:Gr} {o:List Nat} (hG:Good n A):Good n (wholeA n A o):=joinL_good _ A hG fill_ok
theorem fill_closed {n:Nat}:∀(o:List Nat) (A:Gr),Good n A→fillL n (wholeA n A o) o=[]∧widL n (wholeA n A o) o=widL n A o
 | [],A,hG=>⟨rfl,rfl⟩
 | v::o,A,hG=>by
  have hB:=elim_good hG v
  obtain ⟨ih1,ih2⟩:=fill_closed o (elim A v) hB
  have hBv:∀w,elim A v v w=false:=fun w=>by rw [Bool.eq_false_iff]; exact fun h=>(elim_off h).1 rfl
  have hW:∀u w,wholeA n A (v::o) u w=true↔A u w=true∨((u,w)∈miss n A v∨(w,u)∈miss n A v)∨((u,w)∈fillL n (elim A v) o∨(w,u)∈fillL n (elim A v) o):=fun u w=>by
   unfold wholeA
   rw [joinL_iff]
   simp only [fillL,List.mem_append]
   grind
  have hWn:∀u w,wholeA n (elim A v) o u w=true↔elim A v u w=true∨((u,w)∈fillL n (elim A v) o∨(w,u)∈fillL n (elim A v) o):=fun u w=>by
   unfold wholeA; rw [joinL_iff]
  have nf:∀u,(v,u) ∉ fillL n (elim A v) o∧(u,v) ∉ fillL n (elim A v) o:=fun u=>⟨fill_not o _ hB (.inr (.inl hBv)),fill_not o _ hB (.inr (.inr hBv))⟩
  have nm:∀u,(v,u) ∉ miss n A v∧(u,v) ∉ miss n A v:=fun u=>⟨(fun h=>by have:=(miss_mem.1 h).2.2.1; rw [hG.irr] at this; cases this),(fun h=>by have:=(miss_mem.1 h).2.2.2.1; rw [hG.irr] at this; cases this)⟩
  have hWG:=whole_good (o:=v::o) hG
  have hWv:∀u,wholeA n A (v::o) v u=A v u:=fun u=>by
   rw [Bool.eq_iff_iff,hW]
   have h1:=nf u
   have h2:=nm u
   constructor
   ·rintro (h | (h | h) | (h | h))
    ·exact h
    ·exact absurd h h2.1
    ·exact absurd h h2.2
    ·exact absurd h h1.1
    ·exact absurd h h1.2
   ·exact .inl
  have hm:miss n (wholeA n A (v::o)) v=[]:=by
   rw [List.eq_nil_iff_forall_not_mem]
   rintro ⟨a,b⟩ hab
   obtain ⟨m1,m2,m3,m4,m5⟩:=miss_mem.1 hab
   rw [hWv] at m3 m4
   rw [Bool.eq_false_iff] at m5
   refine m5 ((hW a b).2 ?_)
   cases hA:A a b with
   | true=>exact .inl rfl
   | false=>exact .inr (.inl (.inl (miss_mem.2 ⟨m1,m2,m3,m4,hA⟩)))
  have he:elim (wholeA n A (v::o)) v=wholeA n (elim A v) o:=by
   rw [elim_del hWG hm]
   funext u w
   rw [Bool.eq_iff_iff,hWn]
   unfold del
   simp only [Bool.and_eq_true,Bool.not_eq_true',decide_eq_false_iff_not,hW]
   constructor
   ·rintro ⟨⟨h,e1⟩,e2⟩
    rcases h with h | h | h
    ·left; unfold elim; simp [h,e1,e2]
    ·left
     have:A v u=true∧A v w=true∧u≠w:=by
      rcases h with h | h
      ·have:=miss_mem.1 h; exact ⟨this.2.2.1,this.2.2.2.1,by omega⟩
      ·have:=miss_mem.1 h; exact ⟨this.2.2.2.1,this.2.2.1,by omega⟩
     unfold elim; simp [this.1,this.2.1,this.2.2,e1,e2]
    ·exact .inr h
   ·rintro (h | h)
    ·have h5:=elim_off h
     refine ⟨⟨?_,h5.1⟩,h5.2⟩
     unfold elim at h
     simp only [Bool.and_eq_true,Bool.or_eq_true,Bool.not_eq_true',decide_eq_false_iff_not] at h
     rcases h.1.1 with h | ⟨⟨h6,h7⟩,h8⟩
     ·exact .inl h
     ·cases hA:A u w with
      | true=>exact .inl rfl
      | false =>
       right; left
       have lu:u < n:=hG.lt u v (by rw [hG.sym]; exact h6)
       have lw:w < n:=hG.lt w v (by rw [hG.sym]; exact h7)
       rcases Nat.lt_or_ge u w with c | c
       ·exact .inl (miss_mem.2 ⟨c,lw,h6,h7,hA⟩)
       ·exact .inr (miss_mem.2 ⟨by omega,lu,h7,h6,by rw [hG.sym]; exact hA⟩)
    ·refine ⟨⟨.inr (.inr h),fun e=>?_⟩,fun e=>?_⟩
     ·subst e
      rcases h with h | h
      ·exact (nf w).1 h
      ·exact (nf w).2 h
     ·subst e
      rcases h with h | h
      ·exact (nf u).2 h
      ·exact (nf u).1 h
  simp only [fillL,widL]
  rw [hm,he,ih1,ih2]
  refine ⟨rfl,?_⟩
  rw [cnt_congr fun i _=>hWv i]
end Go.Ab
namespace Go.Ab
open Go
set_option maxRecDepth 100000
set_option maxHeartbeats 400000
def cmpL:List Int→List Int→Int
 | [],[]=>0
 | [],_::_=>-1
 | _::_,[]=>1
 | a::l,b::m=>if a < b then -1 else if a > b then 1 else cmpL l m
theorem cmp_int (a b:Int):g_cmp_Compare_int a b=some (if a < b then -1 else if a > b then 1 else 0):=by
 unfold g_cmp_Compare_int g_cmp_isNaN_int
 simp only [Option.bind_some,bne_self_eq_false,Bool.false_eq_true,if_false,decide_eq_true_eq]
 split
 ·rfl
 ·split <;> rfl
def cmpR (c:Int):Int ⊕ Unit:=if c=0 then .inr () else .inl c
theorem cmp_loop {p q:List Int} (hl:p.length=q.length) (hn:p.length≤1000):∀(j N k:Nat),k+j=p.length→j < N→whileN N (g_slices_Compare_int_int_b0 p q) (k:Int)=some (cmpR (cmpL (p.drop k) (q.drop k)))
 | 0,N,k,e,hN=>by
  obtain ⟨N,rfl⟩:∃M,N=M+1:=⟨N - 1,by omega⟩
  have hb:g_slices_Compare_int_int_b0 p q (k:Int)=some (.done (.inr ())):=by
   unfold g_slices_Compare_int_int_b0
   rw [if_neg (by simp; omega)]
  rw [List.drop_eq_nil_of_le (by omega),List.drop_eq_nil_of_le (by omega)]
  simp only [whileN,hb]; rfl
 | j+1,N,k,e,hN=>by
  obtain ⟨N,rfl⟩:∃M,N=M+1:=⟨N - 1,by omega⟩
  have hk:k < p.length:=by omega
  have hk':k < q.length:=by omega
  have e1:lkI p (k:Int)=some p[k]:=lkI_nat hk
  have e2:lkI q (k:Int)=some q[k]:=lkI_nat hk'
  have hb:g_slices_Compare_int_int_b0 p q (k:Int)=some (if p[k] < q[k] then .done (.inl (-1)) else if p[k] > q[k] then .done (.inl 1) else .next (IntKind.i64.wrap ((k:Int)+1))):=by
   unfold g_slices_Compare_int_int_b0
   rw [if_pos (dlt hk),e1,Option.bind_some,if_neg (by simp; omega),e2,Option.bind_some,cmp_int,Option.bind_some]
   split
   ·rfl
   ·split
    ·rfl
    ·rfl
  have d1:=List.drop_eq_getElem_cons hk
  have d2:=List.drop_eq_getElem_cons hk'
  have ih:=cmp_loop hl hn j N (k+1) (by omega) (by omega)
  have key:cmpL (p.drop k) (q.drop k)=if p[k] < q[k] then -1 else if p[k] > q[k] then 1 else cmpL (p.drop (k+1)) (q.drop (k+1)):=by rw [d1,d2]; rfl
  rw [key]
  simp only [whileN,hb]
  rcases Int.lt_trichotomy p[k] q[k] with c | c | c
  ·simp only [if_pos c]; rfl
  ·have c1:¬ p[k] < q[k]:=by omega
   have c2:¬ p[k] > q[k]:=by omega
   simp only [if_neg c1,if_neg c2]
   rw [i_succ (by omega)]
   exact ih
  ·have c1:¬ p[k] < q[k]:=by omega
   have c2:p[k] > q[k]:=c
   simp only [if_neg c1,if_pos c2]; rfl
theorem cmp_spec {p q:List Int} (hl:p.length=q.length) (hn:p.length≤1000):g_slices_Compare_int_int p q=some (cmpL p q):=by
 unfold g_slices_Compare_int_int
 have h:=cmp_loop hl hn p.length fuel 0 (by omega) (by show p.length < 1152921504606846976; omega)
 rw [List.drop_zero,List.drop_zero] at h
 rw [show ((0:Nat):Int)=0 from rfl] at h
 rw [h,Option.bind_some]
 unfold cmpR
 by_cases c:cmpL p q=0
 ·rw [if_pos c,c]
  dsimp only
  rw [if_neg (by simp; omega)]
 ·rw [if_neg c]
end Go.Ab
namespace Go.Ab
open Go
set_option maxRecDepth 100000
set_option maxHeartbeats 400000
theorem new_len {n:Nat} {W A:Gr} (hn:n≤10):(newL n W A n).length≤100:=by
 have:=newL_len n W A n
 have:n*n≤10*10:=Nat.mul_le_mul hn hn
 omega
theorem fills_loop {n:Nat} {A W:Gr} {e:Int} (hn:n≤10) (hG:Good n A) :
  whileN fuel (g_law08_OrderFills_b0 ((newL n W A n).map pI,e) (gl n A)) (0,gl n A)=some (.inr (gl n (joinL A (newL n W A n)))):=by
 have hlen:=new_len (W:=W) (A:=A) hn
 have hmem:∀p∈newL n W A n,p.1 < p.2∧p.2 < n∧A p.1 p.2=false:=fun p hp=>by
  obtain ⟨a,b⟩:=p
  have:=new_mem.1 hp
  exact ⟨this.1,this.2.1,this.2.2.2⟩
 have hso:=List.pairwise_iff_getElem.1 (newL_sorted n W A)
 generalize newL n W A n=l at hlen hmem hso
 have h:=rng_run (n:=l.length) (k0:=0) (by omega) (by omega) (fun i (t:List Int)=>(i,t)) (body:=g_law08_OrderFills_b0 (l.map pI,e) (gl n A)) (fun k=>gl n (joinL A (l.take k))) (.inr (gl n (joinL A l)))
  (fun k _ h2=>by
   have hm:=hmem _ (List.getElem_mem h2)
   have et:=List.take_succ_eq_append_getElem h2
   have ek:lkI (l.map pI) (k:Int)=some (pI l[k]):=by rw [lkI_nat (by simpa using h2)]; simp
   have hprev:0 < k→∃q:Nat × Nat,lkI (l.map pI) (IntKind.i64.wrap ((k:Int) - 1))=some (pI q)∧ltP q l[k]:=fun hk=>by
    refine ⟨l[k - 1],?_,hso (k - 1) k (by omega) h2 (by omega)⟩
    rw [w64 (by omega),show ((k:Int) - 1)=((k - 1:Nat):Int) by omega,lkI_nat (by simp; omega)]
    simp
   generalize l[k]=p at hm et ek hprev
   obtain ⟨a,b⟩:=p
   obtain ⟨h3,h4,h5⟩:=hm
   simp only at h3 h4 h5
   have ha:a < n:=by omega
   have ea:(pI (a,b)).1=(a:Int):=rfl
   have eb:(pI (a,b)).2=(b:Int):=rfl
   have bit:=u_bit (a:=msk n (A a)) (k:=b) (lt64 hn (msk_lt _ _)) (by omega)
   rw [bitS b h4,h5] at bit
   have last:∀{R:Type} (K:List Int→Option R),((lkI (gl n (joinL A (l.take k))) (a:Int)).bind fun a42=>if 0≤(b:Int) then (lkI (List.set (gl n (joinL A (l.take k))) (Int.toNat (a:Int)) (IntKind.u64.wrap (BitVec.ofInt (IntKind.bits .u64) a42 ||| BitVec.ofInt (IntKind.bits .u64) (IntKind.u64.wrap (1*2^min (Int.toNat (b:Int)) (IntKind.bits .u64)))).toNat)) (b:Int)).bind fun a44=>if 0≤(a:Int) then K (List.set (List.set (gl n (joinL A (l.take k))) (Int.toNat (a:Int)) (IntKind.u64.wrap (BitVec.ofInt (IntKind.bits .u64) a42 ||| BitVec.ofInt (IntKind.bits .u64) (IntKind.u64.wrap (1*2^min (Int.toNat (b:Int)) (IntKind.bits .u64)))).toNat)) (Int.toNat (b:Int)) (IntKind.u64.wrap (BitVec.ofInt (IntKind.bits .u64) a44 ||| BitVec.ofInt (IntKind.bits .u64) (IntKind.u64.wrap (1*2^min (Int.toNat (a:Int)) (IntKind.bits .u64)))).toNat)) else none else none)=K (gl n (joinL A (l.take (k+1)))):=fun K=>by
    simp only [gl_at ha,Option.bind_some,if_pos (nat_ge a),if_pos (nat_ge b),u_ins hn h4,gl_set,gl_at h4]
    rw [upd_ne (fun h=>by omega),u_ins hn ha,gl_set]
    congr 1
    refine gl_congr fun u w hu hw=>?_
    rw [et,joinL_snoc]
    simp only [upd]
    grind
   unfold g_law08_OrderFills_b0
   dsimp only
   rw [List.length_map,if_pos (dlt h2),ek,Option.bind_some,ea,eb,if_neg (by simp),gl_len,if_neg (by simp; omega),if_neg (by simp; omega),gl_at ha,Option.bind_some,if_pos (nat_ge b),bit,if_neg (by decide)]
   by_cases c:0 < k
   ·obtain ⟨⟨q1,q2⟩,hq,hlt⟩:=hprev c
    rw [if_pos (by simpa using c),hq,Option.bind_some,cmp_spec (p:=[(pI (q1,q2)).1,(pI (q1,q2)).2]) (q:=[(a:Int),(b:Int)]) rfl (by simp),Option.bind_some]
    have hc:cmpL [(pI (q1,q2)).1,(pI (q1,q2)).2] [(a:Int),(b:Int)]=-1:=by
     unfold pI
     rcases hlt with h | ⟨h,h'⟩
     ·simp only [cmpL]; rw [if_pos (by omega)]
     ·simp only [cmpL]
      simp only at h h'
      rw [if_neg (by omega),if_neg (by omega),if_pos (by omega)]
    rw [hc,if_neg (by decide)]
    exact last fun t=>some (Step.next (IntKind.i64.wrap ((k:Int)+1),t))
   ·rw [if_neg (by simpa using c)]
    exact last fun t=>some (Step.next (IntKind.i64.wrap ((k:Int)+1),t)))
  (by
   unfold g_law08_OrderFills_b0
   dsimp only
   rw [List.length_map,if_neg (nlt _),List.take_length])
 rw [show ((0:Nat):Int)=0 from rfl,List.take_zero] at h
 rw [show joinL A []=A from rfl] at h
 exact h
theorem fills_true (p0:Tharuspexref08_Draft) (h0:okTharuspexref08_Draft p0):g_law08_OrderFills p0=some true:=by
 obtain ⟨_,h1,h7⟩:=dN_eq h0
 obtain ⟨A,hG,eg⟩:=draft_graph h0
 obtain ⟨o,ho,eo⟩:=draft_list h0
 have hn:dN p0≤10:=by omega
 unfold g_law08_OrderFills
 generalize dN p0=n at *
 have hW:=whole_good (o:=o) hG
 obtain ⟨f1,f2⟩:=fill_closed o A hG
 have o1:=grd_ord (n:=n) (μ:=lackN n) (A:=A)
 have eW:gl n (joinL A (newL n (wholeA n A o) A n))=gl n (wholeA n A o):=gl_congr fun u w hu hw=>by
  have hp:=fill_perm (o:=o) hG
  rw [Bool.eq_iff_iff]
  unfold wholeA
  rw [joinL_iff,joinL_iff,hp.mem_iff,hp.mem_iff]
  rfl
 have gW:=greedy_chord n (wholeA n A o) (fun _=>true) o hW (cnt_all n) (ord_lists ho) f1
 rw [works_true,Option.bind_some,if_neg (by decide),eg,Option.bind_some,eo,Option.bind_some,Fill_ord h1 hn hG ho,Option.bind_some,Width_ord h1 hn hG ho,Option.bind_some,if_neg (by simp),if_neg (by simp),clone_u (by rw [gl_len]; omega),Option.bind_some,fills_loop hn hG,Option.bind_some]
 dsimp only
 rw [eW,Chordal_spec h1 hn hW,Option.bind_some,gW]
 unfold g_law08_is_bool_1_k5 g_law08_are_2_int_1_k1 g_law08_is_int_1_k2
 rw [if_pos (by rfl),Option.bind_some,if_pos (by rfl),Fill_ord h1 hn hW ho,Option.bind_some,(new_nil hW).2 f1,if_pos (by rfl)]
 rw [show g_slices_Equal_2_int_2_int (List.map pI []) []=some true by kernel_rfl,Option.bind_some,Option.bind_some,if_pos rfl,Width_ord h1 hn hW ho,Option.bind_some,f2,if_pos (by simp),Option.bind_some,if_pos (by rfl)]
 simp only [List.length_map]
 by_cases c:(newL n (wholeA n A o) A n).length=0
 ·rw [if_pos (by simpa using c),Chordal_spec h1 hn hG,Option.bind_some]
  have:=greedy_chord n A (fun _=>true) o hG (cnt_all n) (ord_lists ho) ((new_nil hG).1 (List.length_eq_zero_iff.1 c))
  rw [this]; rfl
 ·rw [if_neg (by simpa using c)]
  unfold g_law08_chordal
  rw [LeastFill_spec h1 hn hG,Option.bind_some,Fill_ord h1 hn hG o1,Option.bind_some,if_pos (by rfl),if_pos (by rfl),Option.bind_some,Chordal_spec h1 hn hG,Option.bind_some]
  dsimp only
  rw [List.length_map]
  have hnil:=new_nil (o:=grd n (lackN n) n A fun _=>true) hG
  cases hf:fillL n A (grd n (lackN n) n A fun _=>true) with
  | nil=>rw [hnil.2 hf]; rfl
  | cons x l =>
   have hne:newL n (wholeA n A (grd n (lackN n) n A fun _=>true)) A n≠[]:=fun h=>by rw [hnil,hf] at h; cases h
   have l1:=List.length_pos_iff.2 hne
   rw [if_pos (by simp; omega)]; rfl
#print axioms fills_true
end Go.Ab
namespace Go.Ab
open Go Go.Proofs Go.Proofs.YtjhfdojgaoapcaaDoor
open Go.ChangeShapes Go.WideShapes Go.ChangeAt Go.RowKit
abbrev dr_laid:List (String × DataW Unit):=[("math/bits.deBruijn32tab",Rows.laid_math_bits_deBruijn32tab),("math/bits.deBruijn64tab",Rows.laid_math_bits_deBruijn64tab)]
theorem dr_own:ownKnob Tryd.prog.godebug=none:=by kernel_rfl
theorem dr_g0:Tryd.prog.globalNamed "math/bits.deBruijn32tab" = some 0:=by kernel_rfl
theorem dr_g1:Tryd.prog.globalNamed "math/bits.deBruijn64tab" = some 1:=by kernel_rfl
theorem dr_met (os:Os) (args:Array Value):laidMetH Tryd.prog dr_laid ((World.doorLaid Tryd.prog 19 os).forCall (fun _ _=>0) ⟨#[],args,[]⟩).memory :=
 laidMetH_of_parts3 (fuel:=8) (laidMet_of_run' 8 (by kernel_rfl) (by kernel_rfl)) (by kernel_rfl) (by kernel_rfl)
theorem dr_glob {W:World} (h:laidMetH Tryd.prog dr_laid W):Go.Ab.GlobIn W:=by
 rw [MakeChecks.laidMetH_plain _ _ _ (by kernel_rfl)] at h
 have h0:=Lib.tabIs_of_head (k:=.u8) (zs:=Go.Ab.tab0) (t:=135) (e:=5) (n:=32) dr_g0 (by kernel_rfl) (by kernel_rfl) (by kernel_rfl) (by kernel_rfl) (by kernel_rfl) h
 have h1:=Lib.tabIs_of_head (k:=.u8) (zs:=Go.Ab.tab1) (t:=136) (e:=5) (n:=64) dr_g1 (by kernel_rfl) (by kernel_rfl) (by kernel_rfl) (by kernel_rfl) (by kernel_rfl) h.tail
 intro g xs hg i v hv
 match g,hg with
 | 0,hg =>
  cases hg
  have hi:i < Go.Ab.tab0.length:=by have:=(List.getElem?_eq_some_iff.1 hv).1; simpa using this
  have:=h0.cell dr_g0 i hi
  rw [this]
  rw [List.getElem?_map] at hv
  simpa [List.getD,hi] using hv
 | 1,hg =>
  cases hg
  have hi:i < Go.Ab.tab1.length:=by have:=(List.getElem?_eq_some_iff.1 hv).1; simpa using this
  have:=h1.cell dr_g1 i hi
  rw [this]
  rw [List.getElem?_map] at hv
  simpa [List.getD,hi] using hv
 | n+2,hg=>cases hg
end Go.Ab
