/- Rules on plain values. No conditions. -/
import Derived.Test.YtcbhkobklhkiiaaDoorEng4
import Derived.OrdersIn
import Derived.Still
set_option linter.all false
namespace Go.Ab
open Go.RowKit
section
variable {P:Program} {nf:Bool} {C:FuncId→List AV→Option Xj} {σ σ':Sto} {s s':Slots} {fr:Nat} {o:Oper} {res:Res}
theorem Qfz (he:evalOp P nf C σ fr s o=some (.val res)) (hk:∀k∈res.rd,σ' k=σ k):evalOp P nf C σ' fr s o=some (.val res):=by
 obtain ⟨dst,op,type,pos,after,guard⟩:=o
 cases op
 case call c =>
  obtain ⟨cal,args,ts⟩:=c
  cases cal with
  | value g =>
   unfold evalOp at he ⊢
   simp only at he ⊢
   split at he
   ·exact Qr0 he hk
   ·cases he
  | invoke g m=>unfold evalOp at he; cases he
  | builtin b =>
   unfold evalOp at he ⊢
   simp only at he ⊢
   generalize args.toList=as at *
   generalize ts.toList=tl at *
   cases b <;> first | exact he | exact Qp9 he hk | exact Quk he hk
 case load t x =>
  unfold evalOp at he ⊢
  simp only at he ⊢
  split at he
  ·exact he
  ·rename_i T ob ii c hT hx
   have key:σ' ob=σ ob:=by
    split at he
    ·split at he
     ·simp only [Option.map_eq_some_iff] at he
      obtain ⟨z,_,hz⟩:=he
      cases hz; exact hk ob (by simp)
     ·cases he
    ·cases he
   rw [key]; exact he
  ·cases he
 case store t x y =>
  unfold evalOp at he ⊢
  simp only at he ⊢
  split at he
  ·rename_i T ob ii c v0 hT hx hy
   split at he
   ·rename_i bx nr fl w xs hσ
    split at he
    ·rename_i x0 hx0
     split at he
     ·rename_i hok
      split at he
      ·rename_i v ids hsn
       split at he
       ·rename_i x' es hput hf
        split at he
        ·cases he
        ·rename_i hcon
         cases he
         rw [hk ob (by simp),hσ]
         simp only [hx0,hok,if_true]
         have hs':(if bx || nf || v0.nr then some (v0,[]) else Qs σ' Qm v0)=some (v,ids):=by
          split at hsn
          ·rename_i hc; rw [if_pos hc]; exact hsn
          ·rename_i hc; rw [if_neg hc]; exact Qal _ _ _ _ hsn (fun k hk'=>hk k (by simp [hk']))
         rw [hs']
         simp only [hput,Qh4 hf (fun k hk'=>hk k (by simp [hk']))]
         rw [if_neg hcon]
       ·cases he
      ·cases he
     ·cases he
    ·cases he
   ·cases he
  ·cases he
 case buildSlice t n ps =>
  unfold evalOp at he ⊢
  simp only at he ⊢
  split at he
  ·rename_i T hT
   split at he
   ·rename_i e hkd
    split at he
    ·rename_i E parts0 hE hps
     split at he
     ·rename_i hn0; rw [if_pos hn0]; exact he
     ·rename_i hn0
      rw [if_neg hn0]
      split at he
      ·rename_i z parts ids hz hsn
       split at he
       ·rename_i hc
        split at he
        ·rename_i xs es hfill hf
         cases he
         have hs':(if nf then some (parts0,[]) else Z7 σ' parts0)=some (parts,ids):=by
          split at hsn
          ·rename_i hc; rw [if_pos hc]; exact hsn
          ·rename_i hc; rw [if_neg hc]; exact Qh8 _ _ _ hsn hk
         rw [hs']
         simp only [hz,Qh4 hf hk,hfill,hc,if_true]
        ·cases he
       ·cases he
      ·cases he
    ·cases he
   ·cases he
  ·cases he
 case slice t x lo hi mx =>
  unfold evalOp at he ⊢
  simp only at he ⊢
  split at he
  ·cases he
  ·rename_i hm
   split at he
   ·rename_i T a l h m hT hx h1 h2 h3
    split at he
    ·rename_i e hkd
     split at he
     ·rename_i E hE
      simp only [Option.map_eq_some_iff] at he
      obtain ⟨r,hr,hz⟩:=he
      cases hz
      rw [if_neg hm,Qqi hr hk]
      rfl
     ·cases he
    ·cases he
   ·cases he
 case indexAddr t x y =>
  unfold evalOp at he ⊢
  simp only at he ⊢
  split at he
  ·rename_i T a b hT hx hy
   split at he
   ·rename_i e j h1 h2
    split at he
    ·rename_i E hE
     split at he
     ·exact he
     ·rename_i ob ii n
      have key:σ' ob=σ ob:=by
       split at he
       ·split at he
        ·cases he; exact hk ob (by simp)
        ·cases he
       ·cases he
      rw [key]; exact he
     ·cases he
    ·cases he
   ·exact he
   ·cases he
  ·cases he
 case makeMap t r=>cases r <;> exact he
 case lookup t x y c =>
  unfold evalOp Qhi at he ⊢
  simp only at he ⊢
  split at he
  ·rename_i T ob k hT hx hy
   have key:σ' ob=σ ob:=by
    split at he
    ·split at he
     ·split at he
      ·cases he; exact hk ob (by simp)
      ·cases he
     ·split at he
      ·cases he; exact hk ob (by simp)
      ·cases he
     ·cases he
    ·cases he
   rw [key]; exact he
  ·cases he
 case mapUpdate t m x y =>
  unfold evalOp Qe5 at he ⊢
  simp only at he ⊢
  split at he
  ·rename_i T ob k v hT hm hx hy
   have key:σ' ob=σ ob:=by
    split at he
    ·split at he
     ·cases he; exact hk ob (by simp)
     ·cases he; exact hk ob (by simp)
     ·cases he
    ·cases he
   rw [key]; exact he
  ·cases he
 case insert t m x y =>
  unfold evalOp Qe5 at he ⊢
  simp only at he ⊢
  split at he
  ·rename_i T ob k v hT hm hx hy
   have key:σ' ob=σ ob:=by
    split at he
    ·split at he
     ·cases he; exact hk ob (by simp)
     ·cases he; exact hk ob (by simp)
     ·cases he
    ·cases he
   rw [key]; exact he
  ·cases he
 case panic x =>
  unfold evalOp at he
  simp only at he
  split at he
  ·split at he <;> cases he
  ·cases he
 all_goals first
  | exact he
  | (unfold evalOp at he ⊢; exact he)
theorem Qxm {o:Oper} (he:Zq P nf C σ fr s o=some (.val res)) (hs:∀x∈o.op.operands,evo s' x=evo s x) (hk:∀k∈res.rd,σ' k=σ k):Zq P nf C σ' fr s' o=some (.val res):=by
 unfold Zq at he ⊢
 rw [Qtv hs]
 split at he
 ·rename_i hm
  rw [if_pos hm]
  exact Qfz he hk
 ·rename_i hm
  rw [if_neg hm]
  unfold Z3 at he
  split at he
  ·rename_i r h1
   cases he
   rw [Qfz h1 hk]
   rfl
  ·cases he
end
end Go.Ab
namespace Go.Ab
open Go.RowKit
structure Foot where
 v:Option AV
 eff:List (Nat × AObj)
 fr:Nat
 fr':Nat
 rd:List Nat
 deriving Inhabited
def InR (lo hi id:Nat):Prop:=(lo≤id∧id < hi)∨∃k i,lo≤k∧k < hi∧id=fid k i
theorem InR.mono {lo hi lo' hi' k:Nat} (h:InR lo hi k) (h1:lo'≤lo) (h2:hi≤hi'):InR lo' hi' k:=by
 rcases h with h | ⟨j,i,h3,h4,e⟩
 ·exact .inl (by omega)
 ·exact .inr ⟨j,i,by omega,by omega,e⟩
theorem InR.disj {lo hi lo' hi' k:Nat} (h:InR lo hi k) (h':InR lo' hi' k) (hd:hi≤lo'∨hi'≤lo) (hb:hi≤BIG) (hb':hi'≤BIG):False:=by
 rcases h with h | ⟨j,i,h3,h4,rfl⟩
 ·rcases h' with h' | ⟨j,i,h3,h4,rfl⟩
  ·omega
  ·have:=Zo j i; omega
 ·rcases h' with h' | ⟨j',i',h3',h4',e⟩
  ·have:=Zo j i; omega
  ·have:=(Yt e).1; omega
theorem InR.inB {lo hi k:Nat} (h:InR lo hi k):InB hi k:=by
 rcases h with h | ⟨j,i,h3,h4,e⟩
 ·exact .inl h.2
 ·exact .inr ⟨j,i,h4,e⟩
theorem InR.notB {lo hi k:Nat} (h:InR lo hi k) (hb:hi≤BIG):¬ InB lo k:=by
 rintro (c | ⟨j',i',h3',e⟩)
 ·rcases h with h | ⟨j,i,h3,h4,rfl⟩
  ·omega
  ·have:=Zo j i; omega
 ·subst e
  rcases h with h | ⟨j,i,h3,h4,e⟩
  ·have:=Zo j' i'; omega
  ·have:=(Yt e).1; omega
def Qam (s:Slots) (dst:Option Nat) (v:Option AV):Slots:=fun k=>if dst=some k then v else s k
def Q5f (P:Program) (o:Oper) (s:Slots) (σ:Sto) (F:Foot):Prop :=
 ∀B W0 D M ι a W n Q r next,Rel P B W0 D M ι σ W→Qi M ι s a.tmps→(∀k,InR F.fr F.fr' k→ι k=none) →
  (∀v W' M' ι',CM.Grow B M M'→ι.le ι'→(∀k,¬ InR F.fr F.fr' k→ι' k=ι k)→Rel P B W0 D M' ι' (σ.puts F.eff) W'→(∀x,F.v=some x→Qb M' ι' v x)→next (a.put o.dst v) W') →
  o.wpIn (FW r) n P a W next Q
def Yl (P:Program) (ops:Array Oper) (o:Oper) (F:Foot) (s:Slots) (σ:Sto):Prop :=
 (X0 ops s o=some true∧Q5f P o s σ F)∨(X0 ops s o=some false∧F.v=(some (.tup []))∧F.eff=[])
def YlL (P:Program) (ops:Array Oper) (o:Oper) (F:Foot) (s:Slots) (σ:Sto):Prop :=
 ∀s' σ',(∀t∈o.looksAt ops,s' t=s t)→(∀k∈F.rd,σ' k=σ k)→Yl P ops o F s' σ'
def opA (P:Program) (ops:Array Oper) (Ft:Nat → Foot) (i:Nat) (K:Slots→Sto→Prop) (s:Slots) (σ:Sto):Prop :=
 match ops[i]? with
 | none=>K s σ
 | some o=>YlL P ops o (Ft i) s σ∧K (Qam s o.dst (Ft i).v) (σ.puts (Ft i).eff)
def Qmd (P:Program) (ops:Array Oper) (Ft:Nat → Foot) (Q:Slots→Sto→Prop):Nat → Array Bool→Slots→Sto→Prop
 | 0,listed,s,σ=>Region.ready .any ops listed=[]∧Q s σ
 | fuel+1,listed,s,σ=>(Region.ready .any ops listed=[]→Q s σ)∧∀i∈Region.ready .any ops listed,opA P ops Ft i (Qmd P ops Ft Q fuel (listed.setIfInBounds i true)) s σ
structure Qbz (F G:Foot):Prop where
 a:∀e∈F.eff,e.1 ∉ G.rd
 b:∀e∈G.eff,e.1 ∉ F.rd
 c:∀e∈F.eff,∀e'∈G.eff,e.1≠e'.1
section
variable {P:Program} {ops:Array Oper} {Ft:Nat → Foot} {Q:Slots→Sto→Prop} {s:Slots} {σ:Sto}
theorem Q1b {i:Nat} {K K':Slots→Sto→Prop} (h:∀s σ,K s σ→K' s σ) (hh:opA P ops Ft i K s σ):opA P ops Ft i K' s σ:=by
 unfold opA at *
 split
 ·rename_i ho; simp only [ho] at hh; exact h _ _ hh
 ·rename_i o ho; simp only [ho] at hh; exact ⟨hh.1,h _ _ hh.2⟩
theorem Qey {es:List (Nat × AObj)} {k:Nat} (h:∀e∈es,e.1≠k):σ.puts es k=σ k:=by
 rcases σ.puts_at es k with ⟨h1,_⟩ | ⟨y,_,h2⟩
 ·exact h1
 ·exact absurd rfl (h _ h2)
theorem Qyh {e1 e2:List (Nat × AObj)} (h:∀e∈e1,∀e'∈e2,e.1≠e'.1):(σ.puts e1).puts e2=(σ.puts e2).puts e1:=by
 funext k
 by_cases hk:∃e∈e1,e.1=k
 ·obtain ⟨e,he,rfl⟩:=hk
  rw [Qey (fun e' he'=>Ne.symm (h e he e' he'))]
  exact Qgc e1 _ (.inr ⟨e,he,rfl⟩)
 ·have hn:∀e∈e1,e.1≠k:=fun e he hek=>hk ⟨e,he,hek⟩
  rw [Qey (σ:=σ.puts e2) hn]
  exact Qgc e2 _ (.inl (Qey hn))
theorem Qys {d d':Option Nat} {v v':Option AV} (h:∀t,d=some t→d'≠some t):Qam (Qam s d v) d' v'=Qam (Qam s d' v') d v:=by
 funext k
 simp only [Qam]
 by_cases e:d=some k
 ·rw [if_neg (h k e),if_pos e,if_pos e]
 ·rw [if_neg e,if_neg e]
theorem Qtl {d:Option Nat} {v:Option AV} {t:Nat} (h:∀k,d=some k→k≠t):Qam s d v t=s t:=by
 simp only [Qam]
 rw [if_neg (fun e=>h t e rfl)]
theorem Q29 {i j:Nat} {oi oj:Oper} (hj:ops[j]?=some oj) (hap:oi.apart ops oj=true) (hc:Qbz (Ft i) (Ft j)) {K:Slots→Sto→Prop}
  (hy:YlL P ops oi (Ft i) s σ) (h:opA P ops Ft j K (Qam s oi.dst (Ft i).v) (σ.puts (Ft i).eff)) :
  opA P ops Ft j (fun s' σ'=>YlL P ops oi (Ft i) s' σ'∧K (Qam s' oi.dst (Ft i).v) (σ'.puts (Ft i).eff)) s σ:=by
 obtain ⟨h1,h2,h3⟩:=Oper.apart_spec hap
 unfold opA at *
 simp only [hj] at *
 obtain ⟨ha,hK⟩:=h
 refine ⟨fun s' σ' hs hσ=>ha s' σ' (fun t ht=>?_) (fun k hk=>?_),fun s' σ' hs hσ=>hy s' σ' (fun t ht=>?_) (fun k hk=>?_),?_⟩
 ·rw [Qtl (fun k hk e=>h1 k hk (e ▸ ht))]; exact hs t ht
 ·rw [Qey (fun e he hek=>hc.a e he (hek ▸ hk))]; exact hσ k hk
 ·rw [hs t ht,Qtl (fun k hk e=>h3 k hk (e ▸ ht))]
 ·rw [hσ k hk,Qey (fun e he hek=>hc.b e he (hek ▸ hk))]
 ·rw [Qys (fun t ht e=>h2 t e ht),Qyh (fun e he e' he'=>Ne.symm (hc.c e' he' e he))]; exact hK
inductive K0 (ops:Array Oper) (i:Nat):Nat → Prop
 | one {j:Nat} {oj:Oper} {e:Edge} (hj:ops[j]?=some oj) (he:e∈oj.after) (hb:Region.binds .any e=true) (h:e.on=i):K0 ops i j
 | more {j:Nat} {oj:Oper} {e:Edge} (hj:ops[j]?=some oj) (he:e∈oj.after) (hb:Region.binds .any e=true) (h:K0 ops i e.on):K0 ops i j
def Qfi (ops:Array Oper) (listed:Array Bool):Prop:=∀(k:Nat) (ok:Oper),ops[k]?=some ok→listed.getD k false=true→∀e∈ok.after,Region.binds .any e=true→listed.getD e.on false=true
theorem Qfi.back {listed:Array Bool} (hc:Qfi ops listed) {i j:Nat} (h:K0 ops i j):listed.getD j false=true→listed.getD i false=true:=by
 induction h with
 | one hj he hb h=>intro hl; rw [←h]; exact hc _ _ hj hl _ he hb
 | more hj he hb h ih=>intro hl; exact ih (hc _ _ hj hl _ he hb)
theorem Qts {listed:Array Bool} {i:Nat} (h0:listed.getD i true=false) (h1:listed.getD i false=true):False:=by
 rcases Nat.lt_or_ge i listed.size with h' | h'
 ·simp [h'] at h0 h1; rw [h0] at h1; cases h1
 ·simp [Array.getElem?_eq_none h'] at h0
theorem Qxe {listed:Array Bool} (hc:Qfi ops listed) {i j:Nat} (hj:j∈Region.ready .any ops listed) (hi:listed.getD i true=false):¬ K0 ops i j:=by
 obtain ⟨_,oj,hoj,hall⟩:=mem_ready.1 hj
 intro h
 cases h with
 | one hj' he hb h=>rw [hoj] at hj'; cases hj'; exact Qts hi (by rw [←h]; exact hall _ he hb)
 | more hj' he hb h=>rw [hoj] at hj'; cases hj'; exact Qts hi (hc.back h (hall _ he hb))
theorem Qfi.add {listed:Array Bool} (hc:Qfi ops listed) {j:Nat} (hj:j∈Region.ready .any ops listed):Qfi ops (listed.setIfInBounds j true):=by
 obtain ⟨_,oj,hoj,hall⟩:=mem_ready.1 hj
 intro k ok hk hl e he hb
 by_cases ekj:j=k
 ·subst ekj; rw [hoj] at hk; cases hk; exact getD_set_true (hall e he hb)
 ·rw [getD_set_ne false ekj] at hl; exact getD_set_true (hc k ok hk hl e he hb)
theorem Qt4 {i:Nat} {oi:Oper} (hi:ops[i]?=some oi):∀(fuel:Nat) (listed:Array Bool) (s:Slots) (σ:Sto),
  Qfi ops listed→(∀j oj,ops[j]?=some oj→j≠i→listed.getD j true=false→¬ K0 ops i j→oi.apart ops oj=true∧Qbz (Ft i) (Ft j)) →
  i∈Region.ready .any ops listed→YlL P ops oi (Ft i) s σ →
  Qmd P ops Ft Q fuel (listed.setIfInBounds i true) (Qam s oi.dst (Ft i).v) (σ.puts (Ft i).eff)→Qmd P ops Ft Q (fuel+1) listed s σ:=by
 have here:∀(K:Slots→Sto→Prop) s σ,YlL P ops oi (Ft i) s σ→K (Qam s oi.dst (Ft i).v) (σ.puts (Ft i).eff)→opA P ops Ft i K s σ:=fun K s σ h1 h2=>by
  unfold opA; simp only [hi]; exact ⟨h1,h2⟩
 intro fuel
 induction fuel with
 | zero =>
  intro listed s σ _ _ hr hy H
  refine ⟨fun h=>(by rw [h] at hr; cases hr),fun j hj=>?_⟩
  by_cases hji:j=i
  ·subst hji; exact here _ _ _ hy H
  ·have:=ready_mono hj hji
   rw [H.1] at this
   cases this
 | succ fuel ih =>
  intro listed s σ hcl hfree hr hy H
  refine ⟨fun h=>(by rw [h] at hr; cases hr),fun j hj=>?_⟩
  by_cases hji:j=i
  ·subst hji; exact here _ _ _ hy H
  ·have h1:=H.2 j (ready_mono hj hji)
   obtain ⟨hjun,oj,hoj,hall⟩:=mem_ready.1 hj
   have hnot:¬ K0 ops i j:=Qxe hcl hj (mem_ready.1 hr).1
   obtain ⟨hap,hc⟩:=hfree j oj hoj hji hjun hnot
   have h2:=Q29 hoj hap hc hy h1
   have hfree':∀k ok,ops[k]?=some ok→k≠i→(listed.setIfInBounds j true).getD k true=false →
     ¬ K0 ops i k→oi.apart ops ok=true∧Qbz (Ft i) (Ft k):=fun k ok hk hki hun hno=>by
    refine hfree k ok hk hki ?_ hno
    by_cases hjk:j=k
    ·subst hjk; exact hjun
    ·rw [getD_set_ne true hjk] at hun; exact hun
   refine Q1b (fun s' σ' h3=>ih (listed.setIfInBounds j true) s' σ' (hcl.add hj) hfree' (ready_mono hr (Ne.symm hji)) h3.1 ?_) h2
   rw [Array.setIfInBounds_comm _ _ hji]
   exact h3.2
def Q0z (P:Program) (ops:Array Oper) (Ft:Nat → Foot) (Q:Slots→Sto→Prop):List Oper→Nat → Slots→Sto→Prop
 | [],_,s,σ=>Q s σ
 | o::l,k,s,σ=>YlL P ops o (Ft k) s σ∧Q0z P ops Ft Q l (k+1) (Qam s o.dst (Ft k).v) (σ.puts (Ft k).eff)
theorem Qoo (hcomp:∀i j oj,i < j→ops[j]?=some oj→¬ K0 ops i j→Qbz (Ft i) (Ft j)) :
  ∀(l:List Oper) (k:Nat) (listed:Array Bool) (s:Slots) (σ:Sto),Qfi ops listed→(∀j,l[j]?=ops[k+j]?)→(∀j,listed.getD j true=false→k≤j)→Region.lexFrom .any ops l.length k listed=true→Q0z P ops Ft Q l k s σ→Qmd P ops Ft Q l.length listed s σ
 | [],_,_,_,_,_,_,_,hB,h=>⟨by simpa [Region.lexFrom] using hB,h⟩
 | o::l,k,listed,s,σ,hcl,hl,hpre,hB,h=>by
  have h0:ops[k]?=some o:=by simpa using (hl 0).symm
  simp only [List.length_cons,Region.lexFrom,Bool.and_eq_true] at hB
  obtain ⟨⟨hr,hf⟩,hB'⟩:=hB
  refine Qt4 h0 l.length listed s σ hcl (fun j oj hj hne hun hno=>⟨Region.free_spec h0 hf j oj hj hne hun (fun e he hb hq=>hno (.one hj he hb hq)),hcomp k j oj ?_ hj hno⟩) (by simpa using hr) h.1
   (Qoo hcomp l (k+1) _ _ _ (hcl.add (by simpa using hr)) (fun j=>by have:=hl (j+1); simpa [Nat.add_assoc,Nat.add_comm 1 j] using this) (fun j hj=>?_) hB' h.2)
  ·have:=hpre j hun; omega
  ·by_cases e:k=j
   ·subst e
    rcases Nat.lt_or_ge k listed.size with h' | h'
    ·simp [h'] at hj
    ·simp [Array.getElem?_eq_none h'] at hj
   ·rw [getD_set_ne true e] at hj
    have:=hpre j hj; omega
end
section
variable {P:Program} {ops:Array Oper} {Ft:Nat → Foot} {s s':Slots} {σ:Sto} {B:Nat} {W0 W:World} {D:List Nat} {M:CM} {ι:Inj} {a:Act} {Q:Exit→Act→World→Prop} {QA:Slots→Sto→Prop}
theorem Qlg {dst:Option Tmp} {v:Option AV} {u:Value} (h:Qi M ι s a.tmps) (hd:∀d,dst=some d→d < a.tmps.size) (hv:∀x,v=some x→Qb M ι u x):Qi M ι (Qam s dst v) (a.put dst u).tmps:=by
 intro t y ht
 simp only [Qam] at ht
 cases dst with
 | none=>simp at ht; exact h t y ht
 | some d =>
  have hset:(a.put (some d) u).tmps.getD t undef=if d=t then u else a.tmps.getD t undef:=by
   simp only [Act.put,Array.getD_eq_getD_getElem?]
   by_cases e:d=t
   ·subst e; simp [hd d rfl]
   ·simp [e,Array.getElem?_setIfInBounds_ne e]
  rw [hset]
  by_cases e:d=t
  ·subst e; rw [if_pos rfl] at ht; rw [if_pos rfl]; exact hv y ht
  ·rw [if_neg (by simpa using e)] at ht; rw [if_neg e]; exact h t y ht
theorem Qs5 {r:Option Nat} {n:Nat} {nt lo hi:Nat} (hdst:∀(i:Nat) (o:Oper) (d:Tmp),ops[i]?=some o→o.dst=some d→d < nt) (hbig:hi≤BIG) (htab:∀i,lo≤(Ft i).fr∧(Ft i).fr≤(Ft i).fr'∧(Ft i).fr'≤hi) (hdis:∀i j,i≠j→(Ft i).fr'≤(Ft j).fr∨(Ft j).fr'≤(Ft i).fr) :
  ∀(fuel:Nat) (listed:Array Bool) (s:Slots) (σ:Sto) (M:CM) (ι:Inj) (a:Act) (W:World),Qmd P ops Ft QA fuel listed s σ →
  Rel P B W0 D M ι σ W→Qi M ι s a.tmps→a.tmps.size=nt→(∀i,listed.getD i true=false→∀k,InR (Ft i).fr (Ft i).fr' k→ι k=none) →
  (∀s' σ' M' ι' a' W',QA s' σ'→CM.Grow B M M'→ι.le ι'→(∀k,¬ InR lo hi k→ι' k=ι k)→Rel P B W0 D M' ι' σ' W'→Qi M' ι' s' a'.tmps→a'.tmps.size=nt→a'.defers=a.defers→Q .normal a' W') →
  wpAnyIn (FW r) n P .any ops Q fuel listed a W:=by
 intro fuel
 induction fuel with
 | zero =>
  intro listed s σ M ι a W h hrel hs hnt hfree hQ
  exact ⟨h.1,hQ s σ M ι a W h.2 (.refl _ _) (Inj.le_refl _) (fun _ _=>rfl) hrel hs hnt rfl⟩
 | succ fuel ih =>
  intro listed s σ M ι a W h hrel hs hnt hfree hQ
  refine ⟨fun h0=>hQ s σ M ι a W (h.1 h0) (.refl _ _) (Inj.le_refl _) (fun _ _=>rfl) hrel hs hnt rfl,fun i hi'=>?_⟩
  have h1:=h.2 i hi'
  obtain ⟨hun,o,ho,_⟩:=mem_ready.1 hi'
  unfold opA at h1
  simp only [ho] at h1
  obtain ⟨hy,hK⟩:=h1
  unfold wpOpIn
  simp only [ho]
  have nextListed:∀j,(listed.setIfInBounds i true).getD j true=false→listed.getD j true=false∧j≠i:=fun j hj=>by
   by_cases e:i=j
   ·subst e
    rcases Nat.lt_or_ge i listed.size with h' | h'
    ·simp [h'] at hj
    ·simp [Array.getElem?_eq_none h'] at hj
   ·rw [getD_set_ne true e] at hj; exact ⟨hj,Ne.symm e⟩
  rcases hy s σ (fun _ _=>rfl) (fun _ _=>rfl) with ⟨hw,hdo⟩ | ⟨hw,hv,heff⟩
  ·rw [if_pos (Qc5 hs hw)]
   refine hdo B W0 D M ι a W n Q r _ hrel hs (hfree i hun) (fun v W' M' ι' g1 g2 g3 g4 g5=>?_)
   have hs':=Qlg (dst:=o.dst) (u:=v) (hs.mono g1.le g2) (fun d hd=>by rw [hnt]; exact hdst i o d ho hd) g5
   refine ih _ _ _ M' ι' _ W' hK g4 hs' (by cases o.dst <;> simp [Act.put,hnt]) (fun j hj k hk1=>?_) (fun s2 σ2 M2 ι2 a2 W2 k1 k2 k3 k4 k5 k6 k7 k8=>?_)
   ·obtain ⟨hj1,hj2⟩:=nextListed j hj
    rw [g3 k (fun hc=>hc.disj hk1 (hdis i j (Ne.symm hj2)) (Nat.le_trans (htab i).2.2 hbig) (Nat.le_trans (htab j).2.2 hbig))]; exact hfree j hj1 k hk1
   ·refine hQ s2 σ2 M2 ι2 a2 W2 k1 (g1.trans k2) (Inj.le_trans g2 k3) (fun k hk=>?_) k5 k6 k7 (by rw [k8]; cases o.dst <;> rfl)
    rw [k4 k hk,g3 k (fun hc=>hk (hc.mono (htab i).1 (htab i).2.2))]
  ·rw [if_neg (by rw [Qc5 hs hw]; simp)]
   refine ⟨fun _ _=>trivial,?_⟩
   have hs':=Qlg (dst:=o.dst) (u:=undef) (v:=(Ft i).v) hs (fun d hd=>by rw [hnt]; exact hdst i o d ho hd) (fun x hx=>by rw [hv] at hx; cases hx; exact Qrg)
   rw [heff] at hK
   refine ih _ _ _ M ι _ W hK hrel hs' (by cases o.dst <;> simp [Act.put,hnt]) (fun j hj=>hfree j (nextListed j hj).1) (fun s2 σ2 M2 ι2 a2 W2 k1 k2 k3 k4 k5 k6 k7 k8=>?_)
   exact hQ s2 σ2 M2 ι2 a2 W2 k1 k2 k3 k4 k5 k6 k7 (by rw [k8]; cases o.dst <;> rfl)
end
end Go.Ab
namespace Go.Ab
open Go.RowKit
def Qdb (l:List Nat) (k:Nat):Bool:=l.any fun x=>Nat.beq x k
def Qm4 (F G:Foot):Bool :=
 F.eff.all (fun e=>!Qdb G.rd e.1) && G.eff.all (fun e=>!Qdb F.rd e.1) && F.eff.all fun e=>G.eff.all fun e'=>!Nat.beq e.1 e'.1
theorem Qfh {l:List Nat} {k:Nat} (h:Qdb l k=false):k ∉ l:=by
 intro hk
 simp only [Qdb,List.any_eq_false] at h
 exact absurd (Nat.beq_refl k) (by simpa using h k hk)
theorem Qsr {F G:Foot} (h:Qm4 F G=true):Qbz F G:=by
 simp only [Qm4,Bool.and_eq_true,List.all_eq_true,Bool.not_eq_true'] at h
 obtain ⟨⟨h1,h2⟩,h3⟩:=h
 exact ⟨fun e he=>Qfh (h1 e he),fun e he=>Qfh (h2 e he),fun e he e' he' hee=>by
  have:=h3 e he e' he'
  rw [hee,Nat.beq_refl] at this
  cases this⟩
theorem Qqe {F G:Foot} (h1:F.eff=[]) (h2:F.rd=[]):Qbz F G:=⟨fun e he=>by rw [h1] at he; simp at he,fun e _=>by rw [h2]; simp,fun e he=>by rw [h1] at he; simp at he⟩
def Qca:Nat → List Foot→Nat → Prop
 | lo,[],hi=>lo=hi
 | lo,F::fs,hi=>F.fr=lo∧F.fr≤F.fr'∧Qca F.fr' fs hi
theorem Qca.le:∀{fs:List Foot} {lo hi:Nat},Qca lo fs hi→lo≤hi
 | [],lo,hi,h=>Nat.le_of_eq h
 | F::fs,lo,hi,h=>by have:=Qca.le h.2.2; have:=h.1; have:=h.2.1; omega
theorem Qca.at : ∀{fs:List Foot} {lo hi:Nat},Qca lo fs hi→∀(i:Nat) (F:Foot),fs[i]?=some F→lo≤F.fr∧F.fr≤F.fr'∧F.fr'≤hi
 | [],_,_,_,i,F,h=>by simp at h
 | F0::fs,lo,hi,h,i,F,hF=>by
  have hle:=Qca.le h.2.2
  cases i with
  | zero=>simp at hF; subst hF; exact ⟨Nat.le_of_eq h.1.symm,h.2.1,hle⟩
  | succ i =>
   obtain ⟨h1,h2,h3⟩:=Qca.at h.2.2 i F (by simpa using hF)
   have:=h.1; have:=h.2.1
   exact ⟨by omega,h2,h3⟩
theorem Qca.lt:∀{fs:List Foot} {lo hi:Nat},Qca lo fs hi→∀(i j:Nat) (F G:Foot),i < j→fs[i]?=some F→fs[j]?=some G→F.fr'≤G.fr
 | [],_,_,_,i,j,F,G,_,h,_=>by simp at h
 | F0::fs,lo,hi,h,i,j,F,G,hij,hF,hG=>by
  cases j with
  | zero=>omega
  | succ j =>
   cases i with
   | zero=>simp at hF; subst hF; exact (Qca.at h.2.2 j G (by simpa using hG)).1
   | succ i=>exact Qca.lt h.2.2 i j F G (by omega) (by simpa using hF) (by simpa using hG)
section
variable {P:Program} {nf:Bool} {C:FuncId→List AV→Option Xj} {ops:Array Oper} {st st':St} {rd:Option Nat} {base:Nat}
theorem Q2x {s s':List (Nat × AV)} {nt:Nat} {dst:Option Tmp} {v:Option AV} (h:J4 s nt dst v=some s'):lk s'=Qam (lk s) dst v:=by
 funext t
 unfold J4 at h
 cases dst with
 | none=>cases h; simp [Qam]
 | some d =>
  simp only at h
  split at h
  ·cases v with
   | none=>cases h; rw [Qmr]; simp [Qam]
   | some x=>cases h; rw [Qgx]; simp [Qam]
  ·cases h
theorem Q2j {s s':List (Nat × AV)} {nt:Nat} {dst:Option Tmp} {v:Option AV} (h:J4 s nt dst v=some s'):∀d,dst=some d→d < nt:=by
 intro d hd
 subst hd
 unfold J4 at h
 simp only at h
 split at h
 ·rename_i hlt; simpa [Nat.blt,Nat.lt_iff_add_one_le] using hlt
 ·cases h
theorem Qap {o:Oper} {s s':Slots} (h:∀t∈o.looksAt ops,s' t=s t):X0 ops s' o=X0 ops s o:=by
 unfold X0
 cases hg:o.guard with
 | none=>rfl
 | some gw =>
  obtain ⟨j,want⟩:=gw
  simp only
  cases hj:ops[j]? with
  | none=>rfl
  | some oj =>
   simp only
   cases hd:oj.dst with
   | none=>rfl
   | some d =>
    simp only
    rw [h d (by simp [Oper.looksAt,hg,hj,hd])]
theorem Ql2 {o:Oper} {s s':Slots} (h:∀t∈o.looksAt ops,s' t=s t):∀x∈o.op.operands,evo s' x=evo s x:=by
 intro x hx
 cases x with
 | tmp t=>exact h t (List.mem_append_left _ (List.mem_filterMap.2 ⟨.tmp t,by simpa using hx,rfl⟩))
 | _=>rfl
theorem ylL_ev (hC:Qj2 P C) {o:Oper} {s:Slots} {σ:Sto} {fr:Nat} {res:Res} (hw:X0 ops s o=some true) (he:Zq P nf C σ fr s o=some (.val res)):YlL P ops o ⟨res.v,res.eff,fr,res.fr,res.rd⟩ s σ:=by
 intro s' σ' hs hσ
 have he':=Qxm he (Ql2 hs) hσ
 refine .inl ⟨by rw [Qap hs]; exact hw,?_⟩
 intro B W0 D M ι a W n Q r next hrel hsl hfree hpost
 refine Q0f (fr:=fr) hC hrel hsl he' (fun res' hr k hk1 hk2=>?_) ⟨fun res' hr v W' M' ι' g1 g2 g3 g4 g5=>?_,fun pv hpv=>by cases hpv⟩
 ·cases hr; exact hfree k (.inl ⟨hk1,hk2⟩)
 ·cases hr; exact hpost v W' M' ι' g1 g2 (fun k hk=>g3 k (Nat.lt_or_ge k fr |>.imp_right fun h1=>Nat.le_of_not_lt fun h2=>hk (.inl ⟨h1,h2⟩))) g4 g5
def Q0l (rd:Option Nat) (objs:List AObj):Bool :=
 match rd with
 | none=>true
 | some l=>match objs[l]? with
  | some (.loop _ _ _ _ _ s _)=>match s with
   | .exhausted=>false
   | _=>true
  | _=>false
end
end Go.Ab
namespace Go.Ab
open Go.RowKit
def WP (P:Program) (rd:Option Nat) (base:Nat) (c:Code) (st:St) (Φ:AOut→Prop):Prop:=∃out,Xs P rd base c st out∧Φ out
@[reducible] def Qr6 (K:St→Prop) (Φ:AOut→Prop):AOut→Prop
 | .go .normal st=>K st
 | out=>Φ out
@[reducible] def Qtp (id:Nat) (Φ:AOut→Prop) (out:AOut):Prop:=Φ (out.inBlock id)
section
variable {P:Program} {rd:Option Nat} {base:Nat} {c x y:Code} {st st':St} {Φ Ψ:AOut→Prop}
theorem WP.mono (h:WP P rd base c st Φ) (hm:∀out,Φ out→Ψ out):WP P rd base c st Ψ:=let ⟨o,h1,h2⟩:=h; ⟨o,h1,hm o h2⟩
theorem V9 (h:Φ (.go .normal st)):WP P rd base .skip st Φ:=⟨_,Qzm,h⟩
theorem Q0i {l:Nat} (h:Φ (.go .normal st)):WP P rd base (.label l) st Φ:=⟨_,Qw0,h⟩
theorem Qeu {id:Nat} (h:Φ (.go (.exit id) st)):WP P rd base (.exit id) st Φ:=⟨_,Qx7,h⟩
theorem Qd2 (h:Φ (.go .ret st)):WP P rd base .ret st Φ:=⟨_,Qz2,h⟩
theorem Q1 (h:WP P rd base x st (Qr6 (fun st1=>WP P rd base y st1 Φ) Φ)):WP P rd base (.seq x y) st Φ:=by
 obtain ⟨o,h1,h2⟩:=h
 cases o with
 | pan v=>exact ⟨_,Qg8 h1 rfl,h2⟩
 | go e st1 =>
  cases e with
  | normal=>obtain ⟨o2,h3,h4⟩:=h2; exact ⟨o2,exec_seq h1 h3,h4⟩
  | exit id=>exact ⟨_,Qg8 h1 rfl,h2⟩
  | ret=>exact ⟨_,Qg8 h1 rfl,h2⟩
theorem Qqh {op:Operand} {b:Bool} (he:evo (lk st.slots) op=some (.bool b)) (h1:b=true→WP P rd base x st Φ) (h2:b=false→WP P rd base y st Φ):WP P rd base (.cond op x y) st Φ:=by
 cases b with
 | true=>obtain ⟨o,k1,k2⟩:=h1 rfl; exact ⟨o,exec_cond he (by simpa using k1),k2⟩
 | false=>obtain ⟨o,k1,k2⟩:=h2 rfl; exact ⟨o,exec_cond he (by simpa using k1),k2⟩
theorem Jx {id:Nat} (h:WP P rd base c st (Qtp id Φ)):WP P rd base (.block id c) st Φ:=let ⟨o,h1,h2⟩:=h; ⟨_,exec_block h1,h2⟩
theorem Q1o (h:WP P rd base c st Φ):WP P rd base (.scope c) st Φ:=let ⟨o,h1,h2⟩:=h; ⟨_,exec_scope h1,h2⟩
def LWP (P:Program) (rd:Option Nat) (base:Nat) (c:Code) (st:St) (Φ:AOut→Prop):Prop:=∃out,Qjo P rd base c st out∧Φ out
theorem Qhb (h:WP P rd base c st (Qr6 (fun st1=>LWP P rd base c st1 Φ) Φ)):LWP P rd base c st Φ:=by
 obtain ⟨o,h1,h2⟩:=h
 cases o with
 | pan v=>exact ⟨_,Qli h1 rfl,h2⟩
 | go e st1 =>
  cases e with
  | normal=>obtain ⟨o2,h3,h4⟩:=h2; exact ⟨o2,loopX_next h1 h3,h4⟩
  | exit id=>exact ⟨_,Qli h1 rfl,h2⟩
  | ret=>exact ⟨_,Qli h1 rfl,h2⟩
theorem Qv4 (h:LWP P rd base c st Φ):WP P rd base (.loop c) st Φ:=let ⟨o,h1,h2⟩:=h; ⟨o,exec_loop h1,h2⟩
theorem Q3g {f:FuncId} {fn:Func} {c:Code} {args:List AV} {R:Xj→Prop} (hf:P.funcs[f]?=some fn) (hb:fn.body=some c) (hn:(fn.name == "runtime.NumGoroutine")=false) (hle:args.length≤fn.ntmps)
  (h:WP P none 0 c (st0 fn.ntmps args) (fun out=>match out with
   | .go e st'=>e.ends=true∧∃x,resultA P fn st'=some x∧∃co,Qje st' x=some co∧R co
   | .pan v=>R (.pan v))):∃co,Qx P f args co∧R co:=by
 obtain ⟨out,h1,h2⟩:=h
 cases out with
 | pan v=>exact ⟨_,Qpr hf hb hle h1,h2⟩
 | go e st'=>obtain ⟨h3,x,h4,co,h5,h6⟩:=h2; exact ⟨co,callOk_exec hf hb hle h1 h3 h4 h5,h6⟩
end
end Go.Ab
namespace Go.Ab
open Go.RowKit
abbrev Sk:=List Nat × List Nat
def Foot.sk (F:Foot):Sk:=(F.eff.map (·.1),F.rd)
def Qls (c id:Nat):Prop:=id=c∨c < BIG∧∃i,id=fid c i
structure Cov (F:Foot) (s:Sk):Prop where
 eff:∀e∈F.eff,∃c∈s.1,Qls c e.1
 rd:∀e∈F.rd,∃c∈s.2,Qls c e
theorem Qlc (F:Foot):Cov F F.sk:=⟨fun e he=>⟨e.1,List.mem_map_of_mem he,.inl rfl⟩,fun e he=>⟨e,he,.inl rfl⟩⟩
theorem Que {F:Foot} {s:Sk} (h:F.sk=s):Cov F s:=h ▸ Qlc F
def Qt0:List Foot→List Sk→Prop
 | [],[]=>True
 | F::fs,s::ss=>Cov F s∧Qt0 fs ss
 | _,_=>False
theorem Qls.eq {c c' id:Nat} (h:Qls c id) (h':Qls c' id) (hb:c < BIG) (hb':c' < BIG):c=c':=by
 rcases h with rfl | ⟨_,i,rfl⟩
 ·rcases h' with e | ⟨_,i,rfl⟩
  ·exact e
  ·have:=Zo c' i; omega
 ·rcases h' with e | ⟨_,j,e⟩
  ·have:=Zo c i; omega
  ·exact (Yt e).1
structure Qka (P:Program) (ops:Array Oper) (st:St) (o:Oper) (F:Foot) (st1:St):Prop where
 yl:YlL P ops o F (lk st.slots) (sto st.objs)
 fr:F.fr=st.objs.length
 fr':F.fr'=st1.objs.length
 eff:sto st1.objs=(sto st.objs).puts F.eff
 len:st.objs.length≤st1.objs.length
 big:st.objs.length≤BIG→st1.objs.length≤BIG
 stay:F.eff=[]→st1.objs=st.objs
 dst:J4 st.slots st.nt o.dst F.v=some st1.slots
 nt:st1.nt=st.nt
def Qwi (P:Program) (ops:Array Oper):List Oper→St→List Foot→St→Prop
 | [],st,fs,st'=>fs=[]∧st'=st
 | o::l,st,fs,st'=>∃F fs0 st1,fs=F::fs0∧Qka P ops st o F st1∧Qwi P ops l st1 fs0 st'
section
variable {P:Program} {rd:Option Nat} {base:Nat} {ops:Array Oper} {st st1 st':St} {o:Oper} {F:Foot} {out:AOut} {Φ:AOut→Prop}
theorem Qnn (yl:YlL P ops o F (lk st.slots) (sto st.objs)) (fr:F.fr=st.objs.length) (fr':F.fr'=st1.objs.length) (ha:Zz st.objs F.eff=some st1.objs) (dst:J4 st.slots st.nt o.dst F.v=some st1.slots) (nt:st1.nt=st.nt):Qka P ops st o F st1:=by
 obtain ⟨h1,h2,h3⟩:=Jf _ _ _ ha
 exact ⟨yl,fr,fr',h1,h2,h3,fun e=>by rw [e] at ha; exact (Option.some.inj ha).symm,dst,nt⟩
theorem Qj5 {nf:Bool} {C:FuncId→List AV→Option Xj} (hC:Qj2 P C) {res:Res} {objs:List AObj} {slots:List (Nat × AV)} (hw:X0 ops (lk st.slots) o=some true)
  (he:Zq P nf C (sto st.objs) st.objs.length (lk st.slots) o=some (.val res)) (ha:Zz st.objs res.eff=some objs) (hp:J4 st.slots st.nt o.dst res.v=some slots) (hl:objs.length=res.fr) :
  Qka P ops st o ⟨res.v,res.eff,st.objs.length,res.fr,res.rd⟩ ⟨slots,objs,st.nt⟩:=by
 obtain ⟨h1,h2,h3⟩:=Jf _ _ _ ha
 exact ⟨ylL_ev hC hw he,rfl,hl.symm,h1,h2,h3,fun e=>by have e:res.eff=[]:=e; rw [e] at ha; cases ha; rfl,hp,rfl⟩
theorem Qxb {slots:List (Nat × AV)} (hw:X0 ops (lk st.slots) o=some false) (hp:J4 st.slots st.nt o.dst (some (.tup []))=some slots) :
  Qka P ops st o ⟨(some (.tup [])),[],st.objs.length,st.objs.length,[]⟩ ⟨slots,st.objs,st.nt⟩ :=
 ⟨fun s' σ' hs hσ=>.inr ⟨by rw [Qap hs]; exact hw,rfl,rfl⟩,rfl,rfl,rfl,Nat.le_refl _,fun h=>h,fun _=>rfl,hp,rfl⟩
theorem Qrd:∀(l:List Oper) (st:St) (fs:List Foot) (st':St),Qwi P ops l st fs st' →
  fs.length=l.length∧Qca st.objs.length fs st'.objs.length∧st'.nt=st.nt∧(∀(i:Nat) (o:Oper) (d:Tmp),l[i]?=some o→o.dst=some d→d < st.nt)∧(st.objs.length≤BIG→st'.objs.length≤BIG) ∧
  ∀(Ft:Nat → Foot) (k:Nat),(∀j,j < l.length→fs[j]?=some (Ft (k+j)))→Q0z P ops Ft (fun s σ=>s=lk st'.slots∧σ=sto st'.objs) l k (lk st.slots) (sto st.objs)
 | [],st,fs,st',h=>by
  obtain ⟨rfl,rfl⟩:=h
  exact ⟨rfl,rfl,rfl,fun i o d h=>by simp at h,fun h=>h,fun Ft k _=>⟨rfl,rfl⟩⟩
 | o::l,st,fs,st',h=>by
  obtain ⟨F,fs0,st1,rfl,hF,hl⟩:=h
  obtain ⟨r1,r2,r3,r4,rb,r5⟩:=Qrd l st1 fs0 st' hl
  have p1:=hF.eff
  have p2:=hF.len
  refine ⟨by simp [r1],⟨hF.fr,by rw [hF.fr,hF.fr']; exact p2,by rw [hF.fr']; exact r2⟩,by rw [r3,hF.nt],fun i o' d hi hd=>?_,fun h=>rb (hF.big h),fun Ft k hk=>?_⟩
  ·cases i with
   | zero=>simp at hi; subst hi; exact Q2j hF.dst d hd
   | succ i=>rw [←hF.nt]; exact r4 i o' d (by simpa using hi) hd
  ·have hFk:Ft k=F:=by
    have:=hk 0 (by simp); simpa using this.symm
   refine ⟨by rw [hFk]; exact hF.yl,?_⟩
   rw [hFk]
   have:=r5 Ft (k+1) (fun j hj=>by have:=hk (j+1) (by simpa using hj); simpa [Nat.add_assoc,Nat.add_comm 1 j] using this)
   rw [Q2x hF.dst,p1] at this
   exact this
def Qmm (F G:Sk):Bool :=
 F.1.all (fun e=>!Qdb G.2 e) && G.1.all (fun e=>!Qdb F.2 e) && F.1.all fun e=>G.1.all fun e'=>!Nat.beq e e'
def Qcw (F:Sk):Nat → List Nat → List Oper→List Sk→Bool
 | j,B,o::l,G::fs=>if o.after.any (fun e=>Region.binds .any e && Qdb B e.on) then Qcw F (j+1) (j::B) l fs else Qmm F G && Qcw F (j+1) B l fs
 | _,_,_,_=>true
def Qke:Nat → List Oper→List Sk→Bool
 | i,o::l,F::fs=>(F.1.isEmpty && F.2.isEmpty || Qcw F (i+1) [i] l fs) && Qke (i+1) l fs
 | _,_,_=>true
def Qkp (s:Sk):Bool:=(s.1.all fun c=>Nat.blt c BIG) && s.2.all fun c=>Nat.blt c BIG
def Qgo (l:List Oper) (ss:List Sk):Bool:=ss.all Qkp && Qke 0 l ss
theorem Qss {F G:Foot} {s u:Sk} (hF:Cov F s) (hG:Cov G u) (ls:Qkp s=true) (lu:Qkp u=true) (h:Qmm s u=true):Qm4 F G=true:=by
 simp only [Qkp,Bool.and_eq_true,List.all_eq_true] at ls lu
 simp only [Qmm,Bool.and_eq_true,List.all_eq_true,Bool.not_eq_true'] at h
 obtain ⟨⟨h1,h2⟩,h3⟩:=h
 have no:∀{l:List Nat} {k:Nat},k ∉ l→Qdb l k=false:=fun {l k} hk=>by
  simp only [Qdb,List.any_eq_false]
  intro x hx e
  exact hk (Nat.eq_of_beq_eq_true e ▸ hx)
 simp only [Qm4,Bool.and_eq_true,List.all_eq_true,Bool.not_eq_true']
 refine ⟨⟨fun e he=>no fun hm=>?_,fun e he=>no fun hm=>?_⟩,fun e he e' he'=>?_⟩
 ·obtain ⟨c,hc,q⟩:=hF.eff e he
  obtain ⟨c',hc',q'⟩:=hG.rd _ hm
  have:=q.eq q' (Xn (ls.1 c hc)) (Xn (lu.2 c' hc'))
  subst this
  exact Qfh (h1 c hc) hc'
 ·obtain ⟨c,hc,q⟩:=hG.eff e he
  obtain ⟨c',hc',q'⟩:=hF.rd _ hm
  have:=q.eq q' (Xn (lu.1 c hc)) (Xn (ls.2 c' hc'))
  subst this
  exact Qfh (h2 c hc) hc'
 ·obtain ⟨c,hc,q⟩:=hF.eff e he
  obtain ⟨c',hc',q'⟩:=hG.eff e' he'
  rw [Bool.eq_false_iff]
  intro ee
  have ee:=Nat.eq_of_beq_eq_true ee
  rw [←ee] at q'
  have:=q.eq q' (Xn (ls.1 c hc)) (Xn (lu.1 c' hc'))
  subst this
  have:=h3 c hc c hc'
  rw [Nat.beq_refl] at this
  cases this
theorem Q0m {l:List Nat} {k:Nat} (h:Qdb l k=true):k∈l:=by
 simp only [Qdb,List.any_eq_true] at h
 obtain ⟨x,hx,e⟩:=h
 rw [←Nat.eq_of_beq_eq_true e]; exact hx
theorem Qc8 {i:Nat} {F:Foot} {s:Sk} (hF:Cov F s) (ls:Qkp s=true):∀(l:List Oper) (fs:List Foot) (ss:List Sk) (k:Nat) (B:List Nat),Qt0 fs ss→ss.all Qkp=true→Qcw s k B l ss=true→(∀q,l[q]?=ops[k+q]?)→(∀b∈B,b=i∨K0 ops i b) →
  ∀(j:Nat) (G:Foot) (oj:Oper),fs[j]?=some G→l[j]?=some oj→¬ K0 ops i (k+j)→Qbz F G
 | [],fs,ss,_,_,_,_,_,_,_,j,G,oj,_,h,_=>by simp at h
 | o::l,[],ss,_,_,_,_,_,_,_,j,G,oj,h,_,_=>by simp at h
 | o::l,G0::fs,[],_,_,h,_,_,_,_,_,_,_,_,_,_=>h.elim
 | o::l,G0::fs,u::ss,k,B,h,hl,hc,hops,hB,j,G,oj,hG,hj,hn=>by
  simp only [List.all_cons,Bool.and_eq_true] at hl
  simp only [Qcw] at hc
  have hops':∀q,l[q]?=ops[k+1+q]?:=fun q=>by have:=hops (q+1); simpa [Nat.add_assoc,Nat.add_comm 1 q] using this
  split at hc
  ·rename_i ha
   have hk:K0 ops i k:=by
    obtain ⟨e,he,hb⟩:=Array.any_eq_true'.1 ha
    simp only [Bool.and_eq_true] at hb
    have h0:ops[k]?=some o:=by simpa using (hops 0).symm
    rcases hB _ (Q0m hb.2) with q | q
    ·exact .one h0 he hb.1 q
    ·exact .more h0 he hb.1 q
   cases j with
   | zero=>exact absurd hk (by simpa using hn)
   | succ j=>exact Qc8 hF ls l fs ss (k+1) (k::B) h.2 hl.2 hc hops' (fun b hb=>(List.mem_cons.1 hb).elim (fun q=>.inr (q ▸ hk)) (hB b)) j G oj (by simpa using hG) (by simpa using hj) (by rw [show k+1+j=k+(j+1) by omega]; exact hn)
  ·simp only [Bool.and_eq_true] at hc
   cases j with
   | zero=>simp at hG; subst hG; exact Qsr (Qss hF h.1 ls hl.1 hc.1)
   | succ j=>exact Qc8 hF ls l fs ss (k+1) B h.2 hl.2 hc.2 hops' hB j G oj (by simpa using hG) (by simpa using hj) (by rw [show k+1+j=k+(j+1) by omega]; exact hn)
theorem Qks:∀(k:Nat) (l:List Oper) (fs:List Foot) (ss:List Sk),Qt0 fs ss→ss.all Qkp=true→Qke k l ss=true→(∀q,l[q]?=ops[k+q]?) →
  ∀(i j:Nat) (F G:Foot) (oj:Oper),i < j→fs[i]?=some F→fs[j]?=some G→l[j]?=some oj→¬ K0 ops (k+i) (k+j)→Qbz F G
 | _,[],fs,ss,_,_,_,_,i,j,F,G,oj,_,_,_,h,_=>by simp at h
 | _,o::l,[],ss,_,_,_,_,i,j,F,G,oj,_,h,_,_,_=>by simp at h
 | _,o::l,F0::fs,[],h,_,_,_,_,_,_,_,_,_,_,_,_,_=>h.elim
 | k,o::l,F0::fs,s::ss,h,hl,hc,hops,i,j,F,G,oj,hij,hF,hG,hj,hn=>by
  simp only [List.all_cons,Bool.and_eq_true] at hl
  simp only [Qke,Bool.and_eq_true,Bool.or_eq_true,List.isEmpty_iff] at hc
  have hops':∀q,l[q]?=ops[k+1+q]?:=fun q=>by have:=hops (q+1); simpa [Nat.add_assoc,Nat.add_comm 1 q] using this
  cases j with
  | zero=>omega
  | succ j =>
   cases i with
   | zero =>
    simp at hF; subst hF
    rcases hc.1 with x | x
    ·refine Qqe ?_ ?_
     ·cases he:F0.eff with
      | nil=>rfl
      | cons e es=>obtain ⟨c,hcm,_⟩:=h.1.eff e (by rw [he]; simp); rw [x.1] at hcm; cases hcm
     ·cases he:F0.rd with
      | nil=>rfl
      | cons e es=>obtain ⟨c,hcm,_⟩:=h.1.rd e (by rw [he]; simp); rw [x.2] at hcm; cases hcm
    ·exact Qc8 h.1 hl.1 l fs ss (k+1) [k] h.2 hl.2 x hops' (fun b hb=>.inl (by simpa using hb)) j G oj (by simpa using hG) (by simpa using hj) (by rw [show k+1+j=k+(j+1) by omega]; simpa using hn)
   | succ i=>exact Qks (k+1) l fs ss h.2 hl.2 hc.2 hops' i j F G oj (by omega) (by simpa using hF) (by simpa using hG) (by simpa using hj) (by rw [show k+1+i=k+(i+1) by omega,show k+1+j=k+(j+1) by omega]; exact hn)
theorem Qwx {id:Nat} {fs:List Foot} (hm:(P.follows .mixedOrders || !Region.departs ops)=true) (hB:Region.lexB .any ops=true) {ss:List Sk} (hrun:Qwi P ops ops.toList st fs st') (hcov:Qt0 fs ss) (hcomp:Qgo ops.toList ss=true) :
  Xs P rd base (.region id ops true) st (.go .normal st'):=by
 intro B W0 D0 dl M ι a W n Q r hs hr hp
 simp only [Qgo,Bool.and_eq_true] at hcomp
 have hcomp:=Qks (ops:=ops) 0 ops.toList _ _ hcov hcomp.1 hcomp.2 (fun q=>by simp)
 obtain ⟨r1,r2,r3,r4,rb,r5⟩:=Qrd _ _ _ _ hrun
 have hbig:=rb hs.big
 have hdef:∀i,i < ops.size→fs[i]?=some (fs.getD i ⟨none,[],st'.objs.length,st'.objs.length,[]⟩):=fun i hi=>by
  rw [List.getD_eq_getElem?_getD,List.getElem?_eq_getElem (by simp [r1]; exact hi)]; rfl
 have hout:∀i,ops.size≤i→fs.getD i ⟨none,[],st'.objs.length,st'.objs.length,[]⟩=⟨none,[],st'.objs.length,st'.objs.length,[]⟩:=fun i hi=>by
  rw [List.getD_eq_getElem?_getD,List.getElem?_eq_none (by simp [r1]; exact hi)]; rfl
 have hrunA:=r5 (fun i=>fs.getD i ⟨none,[],st'.objs.length,st'.objs.length,[]⟩) 0 (fun j hj=>by simpa using hdef j (by simpa using hj))
 simp only [Region.lexB,Bool.and_eq_true] at hB
 have hA:=Qoo (P:=P) (ops:=ops) (Ft:=fun i=>fs.getD i ⟨none,[],st'.objs.length,st'.objs.length,[]⟩) (Q:=fun s σ=>s=lk st'.slots∧σ=sto st'.objs) (fun i j oj hij hj hno=>?_) ops.toList 0 (Array.replicate ops.size false) (lk st.slots) (sto st.objs) (fun k ok hk hl=>by simp [Array.getD] at hl) (by simp) (fun _ _=>Nat.zero_le _) (by simpa using hB.2) hrunA
 ·refine wpIn_region_draw (fun t=>?_)
  have hsch:Region.schedule (P.follows .mixedOrders) ops t=Region.linearise .any ops t:=by
   unfold Region.schedule; rw [if_pos hm]
  rw [hsch]
  refine wpAnyIn_sound ops.size t _ a _ ?_
  have hsz:ops.toList.length=ops.size:=by simp
  rw [hsz] at hA
  refine Qs5 (B:=B) (W0:=W0) (D:=dl++D0) (nt:=st.nt) (lo:=st.objs.length) (hi:=st'.objs.length) (fun i o d hi hd=>r4 i o d (by simpa using hi) hd) hbig (fun i=>?_) (fun i j hij=>?_) ops.size _ _ _ M ι a _ hA hs.rel.drew hs.slots hs.nt (fun i _ k hk=>?_) ?_
  ·rcases Nat.lt_or_ge i ops.size with hi | hi
   ·exact r2.at i _ (hdef i hi)
   ·rw [hout i hi]; exact ⟨r2.le,Nat.le_refl _,Nat.le_refl _⟩
  ·rcases Nat.lt_or_ge i ops.size with hi | hi
   ·rcases Nat.lt_or_ge j ops.size with hj | hj
    ·rcases Nat.lt_or_gt_of_ne hij with e | e
     ·exact .inl (r2.lt i j _ _ e (hdef i hi) (hdef j hj))
     ·exact .inr (r2.lt j i _ _ e (hdef j hj) (hdef i hi))
    ·left; rw [hout j hj]; exact (r2.at i _ (hdef i hi)).2.2
   ·rcases Nat.lt_or_ge j ops.size with hj | hj
    ·right; rw [hout i hi]; exact (r2.at j _ (hdef j hj)).2.2
    ·left; rw [hout i hi,hout j hj]; exact Nat.le_refl _
  ·have hup:(fs.getD i ⟨none,[],st'.objs.length,st'.objs.length,[]⟩).fr'≤st'.objs.length:=by
    rcases Nat.lt_or_ge i ops.size with hi | hi
    ·exact (r2.at i _ (hdef i hi)).2.2
    ·rw [hout i hi]; exact Nat.le_refl _
   have hlo:st.objs.length≤(fs.getD i ⟨none,[],st'.objs.length,st'.objs.length,[]⟩).fr:=by
    rcases Nat.lt_or_ge i ops.size with hi | hi
    ·exact (r2.at i _ (hdef i hi)).1
    ·rw [hout i hi]; exact r2.le
   exact hs.new k ((hk.mono hlo hup).notB hbig)
  ·intro s' σ' M' ι' a' W' hq g1 g2 g3 g4 g5 g6 g7
   obtain ⟨rfl,rfl⟩:=hq
   exact hp.go .normal st' rfl dl M' ι' a' W' g1 (g2.leB base) (List.suffix_refl _) ⟨g4,g5,by rw [g6,r3],⟨by rw [g7]; exact hs.df.defs,hs.df.old,hs.df.nd⟩,fun k hk=>by rw [g3 k (fun c=>hk c.inB)]; exact hs.new k (fun c=>hk (c.mono r2.le)),hbig⟩
 ·have hj':j < ops.size:=(Array.getElem?_eq_some_iff.1 hj).1
  exact hcomp i j _ _ oj hij (hdef i (by omega)) (hdef j hj') (by simpa using hj) (by simpa using hno)
theorem Qut (hw:X0 ops (lk st.slots) o=some true) (h:Qka P ops st o F st1):OpX P rd base o st (.go .normal st1):=by
 intro B W0 D0 dl M ι a W n Q r hs hr hp
 have hy:=h.yl (lk st.slots) (sto st.objs) (fun _ _=>rfl) (fun _ _=>rfl)
 rcases hy with ⟨_,hd⟩ | ⟨hw',_⟩
 ·have happ:=h.eff
  have hle:=h.len
  have hbig:=h.big hs.big
  refine hd B W0 (dl++D0) M ι a W n Q r (Q .normal) hs.rel hs.slots (fun k hk=>hs.new k (by rw [←h.fr]; exact hk.notB (by rw [h.fr']; exact hbig))) (fun v W' M' ι' g1 g2 g3 g4 g5=>?_)
  obtain ⟨k1,k2,k3⟩:=Qfd (u:=v) (hs.slots.mono g1.le g2) hs.nt h.dst g5
  refine hp.go .normal _ rfl dl M' ι' _ W' g1 (g2.leB base) (List.suffix_refl _) ⟨?_,k1,by rw [k2,h.nt],hs.df.put,?_,hbig⟩
  ·rw [happ]; exact g4
  ·intro k hk
   rw [g3 k (fun c=>hk (by have:=c.inB; rwa [h.fr'] at this))]; exact hs.new k (fun c=>hk (c.mono hle))
 ·rw [hw] at hw'; cases hw'
theorem Qyw {i:Nat} {l:List Nat} (ho:ops[i]?=some o) (h:Qka P ops st o F st1) (h2:Qjq P rd base ops l st1 out):Qjq P rd base ops (i::l) st out:=by
 have hy:=h.yl (lk st.slots) (sto st.objs) (fun _ _=>rfl) (fun _ _=>rfl)
 rcases hy with ⟨hw,_⟩ | ⟨hw,hv,he⟩
 ·exact Qlk ho hw (Qut hw h) h2
 ·obtain ⟨slots,objs,nt⟩:=st1
  have e1:=h.stay he; simp only at e1; subst e1
  have e2:=h.dst; rw [hv] at e2
  have e3:=h.nt; simp only at e3; subst e3
  exact Qzd ho hw e2 h2
def Qib (n i:Nat):List Nat := List.range' i (n - i)
def RW (P:Program) (rd:Option Nat) (base:Nat) (ops:Array Oper) (d:Option (List Sk)) (i:Nat) (st:St) (Φ:AOut→Prop):Prop :=
 match d with
 | none=>∃out,Qjq P rd base ops (Qib ops.size i) st out∧Φ out
 | some acc=>∃fs ss st',Qwi P ops (ops.toList.drop i) st fs st'∧Qt0 fs ss∧Qgo ops.toList (acc++ss)=true∧Φ (.go .normal st')
def Qw (d:Option (List Sk)) (s:List Sk):Option (List Sk) :=
 match d with
 | none=>none
 | some acc=>some (acc++s)
theorem Qjz {n i:Nat} (h:i < n):Qib n i=i::Qib n (i+1):=by
 unfold Qib
 rw [show n - i=(n - (i+1))+1 by omega,List.range'_succ]
theorem Quf (d:Option (List Sk)) (a b:List Sk):Qw (Qw d a) b=Qw d (a++b):=by
 cases d <;> simp [Qw]
def Q2e (P:Program) (ops:Array Oper) (i:Nat) (st:St) (s:Sk) (st1:St):Prop:=∃o F,ops[i]?=some o∧Qka P ops st o F st1∧Cov F s
theorem Qb1 {d:Option (List Sk)} {i:Nat} {s:Sk} (h:Q2e P ops i st s st1) (k:RW P rd base ops (Qw d [s]) (i+1) st1 Φ):RW P rd base ops d i st Φ:=by
 obtain ⟨o,F,ho,hF,hcv⟩:=h
 have hi:i < ops.size:=(Array.getElem?_eq_some_iff.1 ho).1
 cases d with
 | none =>
  obtain ⟨out,h1,h2⟩:=k
  refine ⟨out,?_,h2⟩
  rw [Qjz hi]
  exact Qyw ho hF h1
 | some acc =>
  obtain ⟨fs,ss,st',h1,hc,h2,h3⟩:=k
  refine ⟨F::fs,s::ss,st',?_,⟨hcv,hc⟩,by simpa using h2,h3⟩
  have:ops.toList.drop i=o::ops.toList.drop (i+1):=by
   rw [List.drop_eq_getElem_cons (by simpa using hi)]
   congr 1
   have:=(Array.getElem?_eq_some_iff.1 ho).2
   simpa using this
  rw [this]
  exact ⟨F,fs,st1,rfl,hF,h1⟩
def noC:FuncId→List AV→Option Xj:=fun _ _=>none
theorem noC_sound:Qj2 P noC:=fun _ _ _ h=>by cases h
noncomputable def Qfj (P:Program) (nf:Bool) (ops:Array Oper):Nat → Nat → St→Option (List Sk × St)
 | 0,_,st=>some ([],st)
 | k+1,i,st=>match ops[i]? with
  | some o=>match X0 ops (lk st.slots) o with
   | some true=>match Zq P nf noC (sto st.objs) st.objs.length (lk st.slots) o with
    | some (.val ⟨v,eff,fr,rd⟩)=>match Zz st.objs eff,J4 st.slots st.nt o.dst v with
     | some objs,some slots=>if Nat.beq objs.length fr then (match Qfj P nf ops k (i+1) ⟨slots,objs,st.nt⟩ with
       | some (s,st')=>some ((eff.map (·.1),rd)::s,st')
       | none=>none) else none
     | _,_=>none
    | _=>none
   | some false=>match J4 st.slots st.nt o.dst (some (.tup [])) with
    | some slots=>(match Qfj P nf ops k (i+1) ⟨slots,st.objs,st.nt⟩ with
      | some (s,st')=>some (([],[])::s,st')
      | none=>none)
    | none=>none
   | none=>none
  | none=>none
theorem Qsu {nf:Bool}:∀(k i:Nat) (st:St) (d:Option (List Sk)) (s:List Sk),Qfj P nf ops k i st=some (s,st1)→RW P rd base ops (Qw d s) (i+k) st1 Φ→RW P rd base ops d i st Φ
 | 0,i,st,d,s,h,hk=>by
  simp only [Qfj,Option.some.injEq,Prod.mk.injEq] at h
  obtain ⟨rfl,rfl⟩:=h
  cases d <;> simpa [Qw] using hk
 | k+1,i,st,d,s,h,hk=>by
  simp only [Qfj] at h
  split at h
  ·rename_i o ho
   split at h
   ·rename_i hw
    split at h
    ·rename_i v eff fr rds he
     split at h
     ·rename_i objs slots ha hp
      split at h
      ·rename_i hl
       split at h
       ·rename_i s0 st2 hr
        cases h
        refine Qb1 ⟨o,_,ho,Qj5 noC_sound hw he ha hp (Nat.eq_of_beq_eq_true hl),Qlc _⟩ (Qsu k (i+1) _ _ s0 hr ?_)
        rw [Quf,show i+1+k=i+(k+1) by omega]
        exact hk
       ·cases h
      ·cases h
     ·cases h
    ·cases h
   ·rename_i hw
    split at h
    ·rename_i slots hp
     split at h
     ·rename_i s0 st2 hr
      cases h
      refine Qb1 ⟨o,_,ho,Qxb hw hp,Qlc _⟩ (Qsu k (i+1) _ _ s0 hr ?_)
      rw [Quf,show i+1+k=i+(k+1) by omega]
      exact hk
     ·cases h
    ·cases h
   ·cases h
  ·cases h
noncomputable def Qc3 (P:Program) (nf:Bool) (ops:Array Oper) (k i:Nat) (st:St):Option St:=(Qfj P nf ops k i st).map (·.2)
noncomputable def Qow (P:Program) (nf:Bool) (ops:Array Oper) (k i:Nat) (st:St):List Sk:=((Qfj P nf ops k i st).map (·.1)).getD []
theorem sg (nf:Bool) (k j:Nat) {i:Nat} {d:Option (List Sk)} {S:St} (h:Qc3 P nf ops k i st=some S) (hj:i+k=j) (hk:RW P rd base ops (Qw d (Qow P nf ops k i st)) j S Φ):RW P rd base ops d i st Φ:=by
 subst hj
 unfold Qc3 at h
 unfold Qow at hk
 cases hr:Qfj P nf ops k i st with
 | none=>rw [hr] at h; cases h
 | some x =>
  obtain ⟨s,st2⟩:=x
  rw [hr] at h hk
  simp only [Option.map_some,Option.some.injEq] at h
  subst h
  exact Qsu k i st d s hr hk
theorem Jk {id:Nat} (h:RW P rd base ops none 0 st Φ):WP P rd base (.region id ops false) st Φ:=by
 obtain ⟨out,h1,h2⟩:=h
 refine ⟨out,Qux ?_,h2⟩
 have:List.range ops.size=Qib ops.size 0:=by simp [Qib,List.range_eq_range']
 rw [this]; exact h1
theorem Q25 {id:Nat} (hm:(P.follows .mixedOrders || !Region.departs ops)=true) (hB:Region.lexB .any ops=true) (h:RW P rd base ops (some []) 0 st Φ):WP P rd base (.region id ops true) st Φ:=by
 obtain ⟨fs,ss,st',h1,hc,h2,h3⟩:=h
 exact ⟨_,Qwx hm hB (by simpa using h1) hc (by simpa using h2),h3⟩
theorem Xp {i:Nat} (hi:i=ops.size) (h:Φ (.go .normal st)):RW P rd base ops none i st Φ:=by
 subst hi
 refine ⟨.go .normal st,?_,h⟩
 have:Qib ops.size ops.size=[]:=by simp [Qib]
 rw [this]; exact Q08
theorem Qud {i:Nat} {acc:List Sk} (hi:i=ops.size) (hc:Qgo ops.toList acc=true) (h:Φ (.go .normal st)):RW P rd base ops (some acc) i st Φ:=by
 subst hi
 exact ⟨[],[],st,by rw [List.drop_of_length_le (by simp)]; exact ⟨rfl,rfl⟩,trivial,by simpa using hc,h⟩
end
end Go.Ab
namespace Go.Ab
structure LexI where
 dst:Option Tmp
 look:List Tmp
 aft:List Nat
def natIn (k:Nat):List Nat → Bool
 | []=>false
 | x::l=>Nat.beq k x || natIn k l
theorem Qlh {k:Nat}:∀{l:List Nat},natIn k l=true↔k∈l
 | []=>by simp [natIn]
 | x::l=>by
  simp only [natIn,Bool.or_eq_true,Qlh (l:=l),List.mem_cons]
  exact or_congr ⟨Nat.eq_of_beq_eq_true,fun h=>by subst h; exact Nat.beq_refl k⟩ Iff.rfl
def Qsf (d:Option Tmp) (l:List Nat):Bool:=match d with | some d=>natIn d l | none=>false
def Q2c (d e:Option Tmp):Bool:=match d,e with | some d,some e=>Nat.beq d e | _,_=>false
def Qb3 (ops:Array Oper) (o:Oper):LexI :=
 ⟨o.dst,o.looksAt ops,(o.after.toList.filter fun e=>Region.binds .any e).map (·.on)⟩
def Qmp (x y:LexI):Bool:=!Qsf x.dst y.look && !Q2c x.dst y.dst && !Qsf y.dst x.look
def Qmz:Nat → List LexI→Bool
 | _,[]=>true
 | k,x::r=>(x.aft.all fun a=>Nat.blt a k) && (r.all fun y=>natIn k y.aft || Qmp x y) && Qmz (k+1) r
def Qwq (ops:Array Oper):Bool:=Region.noSelect ops && Qmz 0 (ops.toList.map (Qb3 ops))
theorem Qrx {ops:Array Oper} {x y:Oper} (h:Qmp (Qb3 ops x) (Qb3 ops y)=true):x.apart ops y=true:=by
 simp only [Qmp,Qb3,Bool.and_eq_true,Bool.not_eq_true'] at h
 obtain ⟨⟨h1,h2⟩,h3⟩:=h
 unfold Oper.apart
 have no:∀{k:Nat} {l:List Nat},natIn k l=false→l.contains k=false:=fun {k l} hk=>by
  rw [Bool.eq_false_iff] at hk ⊢
  intro hc
  exact hk (Qlh.2 (by simpa using hc))
 have hx:∀d,x.dst=some d→(y.looksAt ops).contains d=false∧(y.dst != some d)=true:=fun d hd=>by
  rw [hd] at h1 h2
  refine ⟨no (by simpa [Qsf] using h1),?_⟩
  cases hy:y.dst with
  | none=>rfl
  | some e =>
   rw [hy] at h2
   simp only [Q2c] at h2
   rw [bne_iff_ne]
   intro he
   cases he
   rw [Nat.beq_refl] at h2; cases h2
 have hy:∀d,y.dst=some d→(x.looksAt ops).contains d=false:=fun d hd=>by
  rw [hd] at h3
  exact no (by simpa [Qsf] using h3)
 cases hxd:x.dst with
 | none =>
  cases hyd:y.dst with
  | none=>rfl
  | some e=>simp only [hy e hyd,Bool.not_false,Bool.and_true]
 | some d =>
  obtain ⟨a,b⟩:=hx d hxd
  cases hyd:y.dst with
  | none=>simp only [a]; rfl
  | some e=>rw [hyd] at b; simp only [a,b,hy e hyd,Bool.not_false,Bool.and_true]
theorem Qsh {ops:Array Oper}:∀(l:List LexI) (k:Nat),Qmz k l=true→∀(i:Nat) (x:LexI),l[i]?=some x →
  (∀a∈x.aft,a < k+i)∧∀(j:Nat) (y:LexI),i < j→l[j]?=some y→k+i∈y.aft∨Qmp x y=true
 | [],_,_,i,x,hx=>by simp at hx
 | z::r,k,h,0,x,hx=>by
  simp only [Qmz,Bool.and_eq_true,List.all_eq_true] at h
  cases hx
  refine ⟨fun a ha=>by simpa using h.1.1 a ha,fun j y hj hy=>?_⟩
  cases j with
  | zero=>omega
  | succ j =>
   have hm:y∈r:=List.mem_of_getElem? (by simpa using hy)
   have:=h.1.2 y hm
   simp only [Bool.or_eq_true,Qlh] at this
   simpa using this
 | z::r,k,h,i+1,x,hx=>by
  simp only [Qmz,Bool.and_eq_true] at h
  obtain ⟨h1,h2⟩:=Qsh (ops:=ops) r (k+1) h.2 i x (by simpa using hx)
  refine ⟨fun a ha=>by have:=h1 a ha; omega,fun j y hj hy=>?_⟩
  cases j with
  | zero=>omega
  | succ j =>
   have:=h2 j y (by omega) (by simpa using hy)
   rw [show k+1+i=k+(i+1) by omega] at this
   exact this
def Kw (n k:Nat):Array Bool:=((List.range n).map fun i=>decide (i < k)).toArray
theorem Qd0 {n k i:Nat} {b:Bool}:(Kw n k).getD i b=if i < n then decide (i < k) else b:=by
 unfold Kw
 by_cases h:i < n
 ·simp [h]
 ·simp [h]
theorem Qru {n:Nat}:Kw n 0=Array.replicate n false:=by
 apply Array.ext
 ·simp [Kw]
 ·intro i h1 h2
  simp [Kw]
theorem Qrz {n k:Nat}:(Kw n k).setIfInBounds k true=Kw n (k+1):=by
 apply Array.ext
 ·simp [Kw]
 ·intro i h1 h2
  rw [Array.getElem_setIfInBounds (by simpa using h1)]
  simp only [Kw,List.getElem_toArray,List.getElem_map,List.getElem_range]
  by_cases hik:k=i
  ·subst hik; simp
  ·simp only [hik,if_false]
   congr 1
   exact propext ⟨fun h=>by omega,fun h=>by omega⟩
theorem Qyr {ops:Array Oper} (h:Qmz 0 (ops.toList.map (Qb3 ops))=true):∀(fuel k:Nat),k+fuel=ops.size→Region.lexFrom .any ops fuel k (Kw ops.size k)=true:=by
 have at':∀(i:Nat) (o:Oper),ops[i]?=some o→(ops.toList.map (Qb3 ops))[i]?=some (Qb3 ops o):=fun i o ho=>by
  simp [List.getElem?_map,ho]
 intro fuel
 induction fuel with
 | zero =>
  intro k hk
  simp only [Region.lexFrom,Region.ready,List.isEmpty_iff,List.filter_eq_nil_iff,List.mem_range]
  intro i hi
  rw [Qd0,if_pos hi]
  have:i < k:=by omega
  simp [this]
 | succ fuel ih =>
  intro k hk
  have hlt:k < ops.size:=by omega
  have ho:ops[k]?=some ops[k]:=Array.getElem?_eq_getElem hlt
  obtain ⟨h1,h2⟩:=Qsh (ops:=ops) _ 0 h k _ (at' k _ ho)
  simp only [Nat.zero_add] at h1 h2
  simp only [Region.lexFrom,Bool.and_eq_true]
  refine ⟨⟨?_,?_⟩,?_⟩
  ·simp only [Region.ready,List.contains_iff_mem,List.mem_filter,List.mem_range,Bool.and_eq_true]
   refine ⟨hlt,?_,?_⟩
   ·rw [Qd0,if_pos hlt]; simp
   ·rw [ho]
    simp only [Option.map_some,Option.getD_some,Array.all_eq_true_iff_forall_mem,Bool.or_eq_true,Bool.not_eq_true']
    intro e he
    cases hb:Region.binds .any e with
    | false=>exact .inl rfl
    | true =>
     refine .inr ?_
     have hlt2:e.on < k:=h1 e.on (by
      simp only [Qb3,List.mem_map,List.mem_filter]
      exact ⟨e,⟨Array.mem_toList_iff.2 he,hb⟩,rfl⟩)
     rw [Qd0,if_pos (by omega)]
     simp [hlt2]
  ·simp only [Region.free,ho,List.all_eq_true,List.mem_range]
   intro j hj
   by_cases hjk:j < k
   ·rw [Qd0,if_pos hj]; simp [hjk]
   by_cases hje:j=k
   ·simp [hje]
   have hoj:ops[j]?=some ops[j]:=Array.getElem?_eq_getElem hj
   rw [hoj]
   rcases h2 j _ (by omega) (at' j _ hoj) with h3 | h3
   ·simp only [Qb3,List.mem_map,List.mem_filter] at h3
    obtain ⟨e,⟨he,hb⟩,hon⟩:=h3
    have:(ops[j].after.any fun e=>Region.binds .any e && e.on==k)=true:=Array.any_eq_true'.2 ⟨e,Array.mem_toList_iff.1 he,by simp [hb,hon]⟩
    simp [this]
   ·simp [Qrx h3]
  ·rw [Qrz]; exact ih (k+1) (by omega)
theorem Q2n {ops:Array Oper} (h:Qwq ops=true):Region.lexB .any ops=true:=by
 simp only [Qwq,Bool.and_eq_true] at h
 simp only [Region.lexB,Bool.and_eq_true]
 refine ⟨h.1,?_⟩
 rw [←Qru]
 exact Qyr h.2 ops.size 0 (by omega)
end Go.Ab
namespace Go.Ab
open Go.RowKit
def lkI {α:Type} (l:List α) (n:Int):Option α:=if n < 0 then none else l[n.toNat]?
def sub {α:Type} (l:List α) (a b:Int):List α:=(l.drop a.toNat).take (b.toNat - a.toNat)
inductive Qh (σ ρ:Type) where
 | next (s:σ)
 | done (x:ρ)
def Qa {σ ρ:Type}:Nat → (σ→Option (Qh σ ρ))→σ→Option ρ
 | 0,_,_=>none
 | n+1,body,s=>match body s with
  | some (.next s')=>Qa n body s'
  | some (.done x)=>some x
  | none=>none
def fuel:Nat := 1152921504606846976
abbrev eL {α:Type} (fl:Bool) (enc:α→AV) (l:List α):AV:=.lst fl (l.map enc)
theorem Xe {α:Type} {l:List α} {n:Int} {a:α} (h:lkI l n=some a):0≤n∧n.toNat < l.length∧l[n.toNat]?=some a:=by
 unfold lkI at h
 split at h
 ·cases h
 ·rename_i hn; exact ⟨by omega,(List.getElem?_eq_some_iff.1 h).1,h⟩
section
variable {P:Program} {rd:Option Nat} {base:Nat} {ops:Array Oper} {st st1 st' S:St} {o:Oper} {F:Foot} {out:AOut} {Φ:AOut→Prop} {d:Option (List Sk)} {i:Nat} {nf:Bool}
noncomputable abbrev St.sto (st:St):Sto:=Ab.sto st.objs
def Z9 (ops:Array Oper) (i:Nat) (st:St):Option Oper :=
 match ops[i]? with
 | some o=>match X0 ops (lk st.slots) o with
  | some true=>some o
  | _=>none
 | none=>none
def Zk (ops:Array Oper) (i:Nat) (st:St) (v:Option AV) (eff:List (Nat × AObj)):Option St :=
 match ops[i]? with
 | some o=>match Zz st.objs eff,J4 st.slots st.nt o.dst v with
  | some objs,some slots=>some ⟨slots,objs,st.nt⟩
  | _,_=>none
 | none=>none
theorem Yo (h:Z9 ops i st=some o):ops[i]?=some o∧X0 ops (lk st.slots) o=some true:=by
 unfold Z9 at h
 split at h
 ·rename_i o' ho
  split at h
  ·rename_i hw; cases h; exact ⟨ho,hw⟩
  ·cases h
 ·cases h
theorem Qz1 {v:Option AV} {eff:List (Nat × AObj)} {fr:Nat} {rds:List Nat} (ho:Z9 ops i st=some o) (he:Zq P nf noC st.sto st.objs.length (lk st.slots) o=some (.val ⟨v,eff,fr,rds⟩))
  (hS:Zk ops i st v eff=some S) (hl:S.objs.length=fr):Q2e P ops i st (eff.map (·.1),rds) S:=by
 obtain ⟨h1,h2⟩:=Yo ho
 unfold Zk at hS
 rw [h1] at hS
 simp only at hS
 split at hS
 ·rename_i objs slots ha hp
  cases hS
  exact ⟨o,_,h1,Qj5 noC_sound h2 he ha hp hl,Qlc _⟩
 ·cases hS
theorem Q0q {v:Option AV} {eff:List (Nat × AObj)} (hS:Zk ops i st v eff=some S):∃objs,Zz st.objs eff=some objs∧S.objs=objs:=by
 unfold Zk at hS
 split at hS
 ·split at hS
  ·rename_i objs slots ha hp; cases hS; exact ⟨objs,ha,rfl⟩
  ·cases hS
 ·cases hS
theorem Xh {v:Option AV} (hS:Zk ops i st v []=some S):S.objs.length=st.objs.length:=by
 obtain ⟨objs,ha,he⟩:=Q0q hS
 simp only [Zz,Option.some.injEq] at ha
 rw [he,←ha]
theorem Y5 {v:Option AV} {eff:List (Nat × AObj)} {fr:Nat} {rds:List Nat} (ho:Z9 ops i st=some o) (he:Zq P nf noC st.sto st.objs.length (lk st.slots) o=some (.val ⟨v,eff,fr,rds⟩))
  (hS:Zk ops i st v eff=some S) (hl:S.objs.length=fr) (k:RW P rd base ops (Qw d [(eff.map (·.1),rds)]) (i+1) S Φ):RW P rd base ops d i st Φ:=Qb1 (Qz1 ho he hS hl) k
def Qb6 (P:Program) (ops:Array Oper) (i:Nat) (st:St):Option (AV × Int × Nat) :=
 match Z9 ops i st with
 | some o=>match o.op with
  | .indexAddr t x ix=>match ti P t,evo (lk st.slots) x,evo (lk st.slots) ix with
   | some T,some a,some (.int _ n)=>match T.kind with
    | .slice e=>match ti P e with
     | some E=>some (a,n,E.size)
     | none=>none
    | _=>none
   | _,_,_=>none
  | _=>none
 | none=>none
theorem Qg6 {a:AV} {n:Int} {w:Nat} (h:Qb6 P ops i st=some (a,n,w)):∃o t x ix k T e E,Z9 ops i st=some o∧o.op=.indexAddr t x ix∧ti P t=some T∧T.kind=.slice e∧ti P e=some E∧E.size=w ∧
  evo (lk st.slots) x=some a∧evo (lk st.slots) ix=some (.int k n):=by
 unfold Qb6 at h
 split at h
 ·rename_i o ho
  split at h
  ·rename_i t x ix hop
   split at h
   ·rename_i T a' k n' hT hx hix
    split at h
    ·rename_i e hk
     split at h
     ·rename_i E hE
      cases h
      exact ⟨o,t,x,ix,k,T,e,E,ho,hop,hT,hk,hE,rfl,hx,hix⟩
     ·cases h
    ·cases h
   ·cases h
  ·cases h
 ·cases h
theorem Qj {α:Type} {enc:α→AV} {l:List α} {n:Int} {w:Nat} {fl:Bool} {a:α} (hi:Qb6 P ops i st=some (.lst fl (l.map enc),n,w)) (hw:Nat.beq (enc a).flat.length w=true)
  (hS:Zk ops i st (some (.fz (enc a).flat)) []=some S) (ha:lkI l n=some a) (k:RW P rd base ops (Qw d [([],[])]) (i+1) S Φ):RW P rd base ops d i st Φ:=by
 obtain ⟨o,t,x,ix,kk,T,e,E,ho,hop,hT,hk,hE,rfl,hx,hix⟩:=Qg6 hi
 obtain ⟨h1,h2,h3⟩:=Xe ha
 have hw:=Nat.eq_of_beq_eq_true hw
 refine Y5 (nf:=false) (v:=some (.fz (enc a).flat)) (eff:=[]) (fr:=st.objs.length) (rds:=[]) ho ?_ hS (Xh hS) k
 have hneg:¬ n < 0:=by omega
 unfold Zq
 rw [hop]
 simp only [Xa,Bool.false_eq_true,if_false]
 unfold evalOp
 rw [hop]
 simp only [hT,hx,hix,hk,asN,hneg,if_false,hE,List.getElem?_map,h3,Option.map_some,hw,if_true,Z4,Z3]
theorem blt_true {a b:Nat} (h:a < b):Nat.blt a b=true:=by simp only [Nat.blt]; exact Nat.ble_eq_true_of_le h
theorem Qak {a b:Nat} (h:a≤b):Nat.ble a b=true:=Nat.ble_eq_true_of_le h
theorem Qv {α:Type} {enc:α→AV} {l:List α} {n:Int} {w:Nat} {ro nr fl:Bool} {ob:Nat} {a:α} (hi:Qb6 P ops i st=some (.ref ob 0 l.length,n,w)) (hrow:st.sto ob=some (.row false ro nr fl w (l.map enc)))
  (hS:Zk ops i st (some (.ptr ob n.toNat 0)) []=some S) (ha:lkI l n=some a) (k:RW P rd base ops (Qw d [([],[ob])]) (i+1) S Φ):RW P rd base ops d i st Φ:=by
 obtain ⟨o,t,x,ix,kk,T,e,E,ho,hop,hT,hk,hE,rfl,hx,hix⟩:=Qg6 hi
 obtain ⟨h1,h2,h3⟩:=Xe ha
 refine Y5 (nf:=false) (v:=some (.ptr ob n.toNat 0)) (eff:=[]) (fr:=st.objs.length) (rds:=[ob]) ho ?_ hS (Xh hS) k
 have hneg:¬ n < 0:=by omega
 unfold Zq
 rw [hop]
 simp only [Xa,Bool.false_eq_true,if_false]
 unfold evalOp
 rw [hop]
 simp only [hT,hx,hix,hk,asN,hneg,if_false,hE,hrow,blt_true h2,Bool.true_and,decide_true,if_true,Z3,Nat.zero_add]
def Qag (ops:Array Oper) (i:Nat) (st:St):Option (Nat × Nat × Nat) :=
 match Z9 ops i st with
 | some o=>match (match o.op with | .load _ x=>evo (lk st.slots) x | .store _ x _=>evo (lk st.slots) x | _=>none) with
  | some (.ptr ob j c)=>some (ob,j,c)
  | _=>none
 | none=>none
def Qfn (P:Program) (ops:Array Oper) (i:Nat) (st:St) (c:Nat) (y:AV):Option St :=
 match Z9 ops i st with
 | some o=>match o.op with
  | .load t _=>match ti P t with
   | some T=>match Qa2 T (y.flat.drop c) with
    | some v=>Zk ops i st (some v) []
    | none=>none
   | none=>none
  | _=>none
 | none=>none
theorem Zf {α:Type} {enc:α→AV} {l:List α} {n:Int} {w ob c:Nat} {bx ro nr fl:Bool} {a:α} (hp:Qag ops i st=some (ob,n.toNat,c)) (hrow:st.sto ob=some (.row bx ro nr fl w (l.map enc))) (ha:lkI l n=some a)
  (hS:Qfn P ops i st c (enc a)=some S) (k:RW P rd base ops (Qw d [([],[ob])]) (i+1) S Φ):RW P rd base ops d i st Φ:=by
 obtain ⟨h1,h2,h3⟩:=Xe ha
 unfold Qfn at hS
 split at hS
 ·rename_i o ho
  split at hS
  ·rename_i t x hop
   split at hS
   ·rename_i T hT
    split at hS
    ·rename_i v hv
     have hx:evo (lk st.slots) x=some (.ptr ob n.toNat c):=by
      unfold Qag at hp
      rw [ho] at hp
      simp only [hop] at hp
      split at hp
      ·rename_i hx; cases hp; exact hx
      ·cases hp
     refine Y5 (nf:=false) (v:=some v) (eff:=[]) (fr:=st.objs.length) (rds:=[ob]) ho ?_ hS (Xh hS) k
     unfold Zq
     rw [hop]
     simp only [Xa,Bool.false_eq_true,if_false]
     unfold evalOp
     rw [hop]
     simp only [hT,hx,hrow,List.getElem?_map,h3,Option.map_some,hv,Z3]
    ·cases hS
   ·cases hS
  ·cases hS
 ·cases hS
def Qg1 (P:Program) (ops:Array Oper) (i:Nat) (st:St):Option AV :=
 match Z9 ops i st with
 | some o=>match o.op with
  | .store t _ y=>match ti P t,evo (lk st.slots) y with
   | some T,some v=>if v.okv && Nat.beq v.flat.length T.size then some v else none
   | _,_=>none
  | _=>none
 | none=>none
theorem Qct {v:AV} {ob j c:Nat} (hp:Qag ops i st=some (ob,j,c)) (hv:Qg1 P ops i st=some v):∃o t x y T,Z9 ops i st=some o∧o.op=.store t x y∧ti P t=some T∧evo (lk st.slots) x=some (.ptr ob j c)∧evo (lk st.slots) y=some v ∧
  (v.okv && Nat.beq v.flat.length T.size)=true:=by
 unfold Qg1 at hv
 split at hv
 ·rename_i o ho
  split at hv
  ·rename_i t x y hop
   split at hv
   ·rename_i T v' hT hy
    split at hv
    ·rename_i hc
     cases hv
     refine ⟨o,t,x,y,T,ho,hop,hT,?_,hy,hc⟩
     unfold Qag at hp
     rw [ho] at hp
     simp only [hop] at hp
     split at hp
     ·rename_i hx; cases hp; exact hx
     ·cases hp
    ·cases hv
   ·cases hv
  ·cases hv
 ·cases hv
theorem Ys {α:Type} {enc:α→AV} {l:List α} {n:Int} {w ob c:Nat} {bx nr fl:Bool} {a a':α} {v:AV} (nf:Bool) (hp:Qag ops i st=some (ob,n.toNat,c)) (hrow:st.sto ob=some (.row bx false nr fl w (l.map enc))) (ha:lkI l n=some a)
  (hv:Qg1 P ops i st=some v) (hk:(bx || nf || v.nr)=true) (hput:Qce (enc a) c v=some (enc a'))
  (hS:Zk ops i st none [(ob,.row bx false (nr && v.nr) (fl && v.scs) w ((l.set n.toNat a').map enc))]=some S) (hl:Nat.beq S.objs.length st.objs.length=true) (k:RW P rd base ops (Qw d [([ob],[ob])]) (i+1) S Φ):RW P rd base ops d i st Φ:=by
 obtain ⟨h1,h2,h3⟩:=Xe ha
 obtain ⟨o,t,x,y,T,ho,hop,hT,hx,hy,hc⟩:=Qct hp hv
 refine Y5 (nf:=nf) (fr:=st.objs.length) (rds:=[ob]) ho ?_ hS (Nat.eq_of_beq_eq_true hl) k
 unfold Zq
 rw [hop]
 simp only [Xa,Bool.false_eq_true,if_false]
 unfold evalOp
 rw [hop]
 simp only [hT,hx,hy,hrow,List.getElem?_map,h3,Option.map_some,hc,if_true,hk,hput,frz,Qcq,List.contains_nil,Bool.false_eq_true,if_false,List.nil_append,Z3,List.map_set]
def Qu9 (P:Program) (ops:Array Oper) (i:Nat) (st:St):Option AV :=
 match Z9 ops i st with
 | some o=>match o.op with
  | .call { callee:=.builtin .len,args,argTypes }=>match args.toList,argTypes.toList with
   | [x],t::_=>match ti P t with
    | some T=>match T.kind with
     | .slice _=>evo (lk st.slots) x
     | _=>none
    | none=>none
   | _,_=>none
  | _=>none
 | none=>none
theorem Ql {α:Type} {enc:α→AV} {l:List α} {fl:Bool} (hi:Qu9 P ops i st=some (.lst fl (l.map enc))) (hS:Zk ops i st (some (.int .i64 (l.length:Int))) []=some S) (k:RW P rd base ops (Qw d [([],[])]) (i+1) S Φ):RW P rd base ops d i st Φ:=by
 unfold Qu9 at hi
 split at hi
 ·rename_i o ho
  split at hi
  ·rename_i args ts hop
   split at hi
   ·rename_i x t tr ha ht
    split at hi
    ·rename_i T hT
     split at hi
     ·rename_i e hk
      refine Y5 (nf:=false) (v:=some (.int .i64 (l.length:Int))) (eff:=[]) (fr:=st.objs.length) (rds:=[]) ho ?_ hS (Xh hS) k
      unfold Zq
      rw [hop]
      simp only [Xa,Bool.false_eq_true,if_false]
      unfold evalOp
      rw [hop]
      simp only [Qr7,ha,ht,hT,hi,hk,Z4,Z3,Option.map_some,List.length_map]
     ·cases hi
    ·cases hi
   ·cases hi
  ·cases hi
 ·cases hi
def Qcf (P:Program) (ops:Array Oper) (i:Nat) (st:St):Option (AV × AV × Nat × Nat) :=
 match Z9 ops i st with
 | some o=>match o.op with
  | .call { callee:=.builtin .append,args,argTypes }=>match args.toList,argTypes.toList with
   | [x,y],t::u::_=>match ti P t,ti P u,evo (lk st.slots) x,evo (lk st.slots) y with
    | some T,some _,some a,some b=>if !Nat.beq t u then none else match T.kind with
     | .slice e=>match ti P e with
      | some E=>if E.zok && Nat.blt 0 E.bytes && Nat.blt 0 E.size then some (a,b,E.size,E.bytes) else none
      | none=>none
     | _=>none
    | _,_,_,_=>none
   | _,_=>none
  | _=>none
 | none=>none
theorem Qdy {a b:AV} {w bytes:Nat} (hi:Qcf P ops i st=some (a,b,w,bytes)):∃o E,Z9 ops i st=some o∧Xa o.op=false∧E.size=w∧E.bytes=bytes∧E.zok=true∧0 < bytes∧0 < w ∧
  ∀nf ys nr fl rds r,Xo st.sto w b=some (ys,nr,fl,rds)→(nr || nf)=true→absAppend st.sto st.objs.length E a ys nr fl=some r→Zq P nf noC st.sto st.objs.length (lk st.slots) o=some (.val { r with rd:=rds++r.rd }):=by
 unfold Qcf at hi
 split at hi
 ·rename_i o ho
  split at hi
  ·rename_i args ts hop
   split at hi
   ·rename_i x y t u tr ha ht
    split at hi
    ·rename_i T U a' b' hT hU hx hy
     split at hi
     ·cases hi
     ·rename_i htu
      split at hi
      ·rename_i e hk
       split at hi
       ·rename_i E hE
        split at hi
        ·rename_i hc
         simp only [Bool.and_eq_true] at hc
         cases hi
         refine ⟨o,E,ho,by rw [hop]; rfl,rfl,rfl,hc.1.1,Y8 hc.1.2,Y8 hc.2,?_⟩
         intro nf ys nr fl rds r hel hn hr
         have htu':((!Nat.beq t u)=true)=False:=by simpa using htu
         unfold Zq
         rw [hop]
         simp only [Xa,Bool.false_eq_true,if_false]
         unfold evalOp
         rw [hop]
         simp only [Qdf,ha,ht,hT,hU,hx,hy,htu',if_false,hk,hE,hel,hn,if_true,hr,Option.map_some,Z3]
        ·cases hi
       ·cases hi
      ·cases hi
    ·cases hi
   ·cases hi
  ·cases hi
 ·cases hi
theorem Qge {bytes n:Nat} (h0:0 < bytes) (h:n*bytes≤140737488355328):Vr bytes n=true:=by
 simp [Vr,blt_true h0,Qak h]
theorem Yz {α R:Type} {enc:α→AV} {l m:List α} {w bytes ob:Nat} {nr fl nr' fl':Bool} {b:AV} {rds:List Nat} {A:Option R} {r:R} (nf:Bool) (hi:Qcf P ops i st=some (.ref ob 0 l.length,b,w,bytes)) (hrow:st.sto ob=some (.row false false nr fl w (l.map enc)))
  (hel:Xo st.sto w b=some (m.map enc,nr',fl',rds)) (hn:(nr' || nf)=true)
  (hS:Zk ops i st (some (.ref st.objs.length 0 (l++m).length)) [(ob,.dead),(st.objs.length,.row false false (nr && nr') (fl && fl') w ((l++m).map enc))]=some S) (hl:Nat.beq S.objs.length (st.objs.length+1)=true)
  (h:(if (l++m).length*bytes≤140737488355328 then A else none)=some r) (k:A=some r→RW P rd base ops (Qw d [([ob,st.objs.length],rds++[ob])]) (i+1) S Φ):RW P rd base ops d i st Φ:=by
 split at h
 ·rename_i hroom
  obtain ⟨o,E,ho,hm,rfl,rfl,hz,hb0,hw0,hev⟩:=Qdy hi
  refine Y5 (nf:=nf) ho (hev nf _ _ _ _ ⟨some (.ref st.objs.length 0 (l++m).length),[(ob,.dead),(st.objs.length,.row false false (nr && nr') (fl && fl') E.size ((l++m).map enc))],st.objs.length+1,[ob]⟩ hel hn ?_) hS (Nat.eq_of_beq_eq_true hl) (k h)
  have h1:Nat.beq (0+l.length) l.length=true:=by simp
  have h2:Nat.ble (0+l.length) l.length=true:=by simp
  have h3:Vr E.bytes (l.length+m.length)=true:=by
   refine Qge hb0 ?_
   rw [←List.length_append]; exact hroom
  simp only [absAppend,hrow,Nat.beq_refl,h1,h2,hz,h3,Bool.and_self,if_true,List.drop_zero,List.map_append,List.length_append,List.length_map]
 ·cases h
theorem Qg3 {α R:Type} {enc:α→AV} {m:List α} {w bytes:Nat} {nr' fl':Bool} {a b:AV} {rds:List Nat} {A:Option R} {r:R} (nf:Bool) (hi:Qcf P ops i st=some (a,b,w,bytes)) (ha:a=.nils∨a=.emp)
  (hel:Xo st.sto w b=some (m.map enc,nr',fl',rds)) (hn:(nr' || nf)=true)
  (hS:Zk ops i st (some (.ref st.objs.length 0 m.length)) [(st.objs.length,.row false false nr' fl' w (m.map enc))]=some S) (hl:Nat.beq S.objs.length (st.objs.length+1)=true)
  (h:(if m.length*bytes≤140737488355328 then A else none)=some r) (k:A=some r→RW P rd base ops (Qw d [([st.objs.length],rds)]) (i+1) S Φ):RW P rd base ops d i st Φ:=by
 split at h
 ·rename_i hroom
  obtain ⟨o,E,ho,hm,rfl,rfl,hz,hb0,hw0,hev⟩:=Qdy hi
  refine Y5 (nf:=nf) ho (hev nf _ _ _ _ ⟨some (.ref st.objs.length 0 m.length),[(st.objs.length,.row false false nr' fl' E.size (m.map enc))],st.objs.length+1,[]⟩ hel hn ?_) hS (Nat.eq_of_beq_eq_true hl) (by simpa using k h)
  have h3:Vr E.bytes m.length=true:=Qge hb0 hroom
  rcases ha with rfl | rfl <;> simp only [absAppend,hz,h3,blt_true hw0,Bool.and_self,if_true,List.length_map]
 ·cases h
theorem Kp {σ:Sto} {α:Type} {enc:α→AV} {m:List α} {w:Nat} {fl:Bool} (hw:∀a,Nat.beq (enc a).flat.length w=true):Xo σ w (.lst fl (m.map enc))=some (m.map enc,true,fl,[]):=by
 have:Qo7 w (m.map enc)=true:=by cases m <;> simp [Qo7,Nat.eq_of_beq_eq_true (hw _)]
 simp only [Xo,this,if_true]
def Qy6 (P:Program) (ops:Array Oper) (i:Nat) (st:St):Option (Int × Int × AV × Nat × Nat) :=
 match Z9 ops i st with
 | some o=>match o.op with
  | .makeSlice t x y=>match ti P t,evo (lk st.slots) x,evo (lk st.slots) y with
   | some T,some (.int _ n),some (.int _ m)=>match T.kind with
    | .slice e=>match ti P e with
     | some E=>match E.zero with
      | some z=>if Nat.beq z.flat.length E.size && Nat.blt 0 E.size && Nat.blt 0 E.bytes then some (n,m,z,E.size,E.bytes) else none
      | none=>none
     | none=>none
    | _=>none
   | _,_,_=>none
  | _=>none
 | none=>none
def Qhn (P:Program) (ops:Array Oper) (i:Nat) (st:St):Option (AV × Option AV × Option AV × Option AV × Nat) :=
 match Z9 ops i st with
 | some o=>match o.op with
  | .slice t x lo hi mx=>if mx.isSome && hi.isNone then none else match ti P t,evo (lk st.slots) x,J5 (lk st.slots) lo,J5 (lk st.slots) hi,J5 (lk st.slots) mx with
   | some T,some a,some l,some h,some m=>match T.kind with
    | .slice e=>match ti P e with
     | some E=>some (a,l,h,m,E.size)
     | none=>none
    | _=>none
   | _,_,_,_,_=>none
  | _=>none
 | none=>none
theorem Qng {a:AV} {l h m:Option AV} {w:Nat} (hi:Qhn P ops i st=some (a,l,h,m,w)):∃o,Z9 ops i st=some o∧Xa o.op=false ∧
  ∀v rds,Ky st.sto w a l h m=some (v,rds)→Zq P false noC st.sto st.objs.length (lk st.slots) o=some (.val ⟨some v,[],st.objs.length,rds⟩):=by
 unfold Qhn at hi
 split at hi
 ·rename_i o ho
  split at hi
  ·rename_i t x lo hh mx hop
   split at hi
   ·cases hi
   ·rename_i hmx
    split at hi
    ·rename_i T a' l' h' m' hT hx h1 h2 h3
     split at hi
     ·rename_i e hk
      split at hi
      ·rename_i E hE
       cases hi
       refine ⟨o,ho,by rw [hop]; rfl,fun v rds hv=>?_⟩
       unfold Zq
       rw [hop]
       simp only [Xa,Bool.false_eq_true,if_false]
       unfold evalOp
       rw [hop]
       simp only [hmx,if_false,hT,hx,h1,h2,h3,hk,hE,hv,Option.map_some,Z3,Bool.false_eq_true]
      ·cases hi
     ·cases hi
    ·cases hi
  ·cases hi
 ·cases hi
def loI:Option AV→Option Int
 | none=>some 0
 | some (.int _ a)=>some a
 | _=>none
def hiI (n:Nat):Option AV→Option Int
 | none=>some n
 | some (.int _ a)=>some a
 | _=>none
theorem Qvo {x:Option AV} {a:Int} (h:loI x=some a) (h0:0≤a):Yj x 0=some a.toNat := by
 unfold loI at h
 split at h
 ·cases h; rfl
 ·rename_i k b; cases h; simp [Yj,asN]; omega
 ·cases h
theorem Qvl {n:Nat} {x:Option AV} {a:Int} (h:hiI n x=some a) (h0:0≤a):Yj x n=some a.toNat := by
 unfold hiI at h
 split at h
 ·cases h; simp [Yj]
 ·rename_i k b; cases h; simp [Yj,asN]; omega
 ·cases h
theorem Q3q {α R:Type} {enc:α→AV} {l:List α} {ob:Nat} {ro nr fl:Bool} {lo hi:Option AV} {a b:Int} {w:Nat} {A:Option R} {r:R} (hi':Qhn P ops i st=some (.ref ob 0 l.length,lo,hi,none,w)) (hrow:st.sto ob=some (.row false ro nr fl w (l.map enc)))
  (ha:loI lo=some a) (hb:hiI l.length hi=some b) (hS:Zk ops i st (some (.ref ob a.toNat (b.toNat - a.toNat))) []=some S)
  (h:(if 0≤a∧a≤b∧b≤l.length then A else none)=some r) (k:A=some r→RW P rd base ops (Qw d [([],[ob])]) (i+1) S Φ):RW P rd base ops d i st Φ:=by
 split at h
 ·rename_i hc
  obtain ⟨c1,c2,c3⟩:=hc
  obtain ⟨o,ho,hm,hev⟩:=Qng hi'
  refine Y5 (nf:=false) ho (hev (.ref ob a.toNat (b.toNat - a.toNat)) [ob] ?_) hS (Xh hS) (k h)
  have g1:Nat.ble a.toNat b.toNat = true:=Qak (by omega)
  have g2:Nat.ble b.toNat (l.map enc).length=true:=Qak (by rw [List.length_map]; omega)
  simp only [Ky,hrow,Qvo ha c1,Qvl hb (by omega),Nat.zero_add,g1,g2,Nat.beq_refl,Bool.and_self,if_true]
 ·cases h
def Qgt (ops:Array Oper) (i:Nat) (st:St):Option (BinOp × IntKind × Int × IntKind × Int) :=
 match Z9 ops i st with
 | some o=>match o.op with
  | .binOp op _ x y _=>match evo (lk st.slots) x,evo (lk st.slots) y with
   | some (.int k a),some (.int k' b)=>some (op,k,a,k',b)
   | _,_=>none
  | _=>none
 | none=>none
theorem Qea {op:BinOp} {k k':IntKind} {a b:Int} (hi:Qgt ops i st=some (op,k,a,k',b)):∃o t x y t2,Z9 ops i st=some o∧o.op=.binOp op t x y t2∧evo (lk st.slots) x=some (.int k a)∧evo (lk st.slots) y=some (.int k' b):=by
 unfold Qgt at hi
 split at hi
 ·rename_i o ho
  split at hi
  ·rename_i op' t x y t2 hop
   split at hi
   ·rename_i k1 a1 k2 b1 hx hy
    cases hi
    exact ⟨o,t,x,y,t2,ho,hop,hx,hy⟩
   ·cases hi
  ·cases hi
 ·cases hi
theorem Q5n {R:Type} {k:IntKind} {a b:Int} {A:Option R} {r:R} (hi:Qgt ops i st=some (.quo,k,a,k,b)) (hS:Zk ops i st (some (.int k (k.wrap (a.tdiv b)))) []=some S) (h:(if b≠0 then A else none)=some r)
  (kk:A=some r→RW P rd base ops (Qw d [([],[])]) (i+1) S Φ):RW P rd base ops d i st Φ:=by
 split at h
 ·rename_i hb
  obtain ⟨o,t,x,y,t2,ho,hop,hx,hy⟩:=Qea hi
  refine Y5 (nf:=false) (v:=some (.int k (k.wrap (a.tdiv b)))) (eff:=[]) (fr:=st.objs.length) (rds:=[]) ho ?_ hS (Xh hS) (kk h)
  unfold Zq
  rw [hop]
  simp only [Xa,Bool.false_eq_true,if_false]
  unfold evalOp
  rw [hop]
  simp only [hx,hy,Qjm,if_true,Qla,hb,if_false,Z4,Option.map_some,Z3]
 ·cases h
theorem Qwf {R:Type} {k:IntKind} {a b:Int} {A:Option R} {r:R} (hi:Qgt ops i st=some (.rem,k,a,k,b)) (hS:Zk ops i st (some (.int k (a.tmod b))) []=some S) (h:(if b≠0 then A else none)=some r)
  (kk:A=some r→RW P rd base ops (Qw d [([],[])]) (i+1) S Φ):RW P rd base ops d i st Φ:=by
 split at h
 ·rename_i hb
  obtain ⟨o,t,x,y,t2,ho,hop,hx,hy⟩:=Qea hi
  refine Y5 (nf:=false) (v:=some (.int k (a.tmod b))) (eff:=[]) (fr:=st.objs.length) (rds:=[]) ho ?_ hS (Xh hS) (kk h)
  unfold Zq
  rw [hop]
  simp only [Xa,Bool.false_eq_true,if_false]
  unfold evalOp
  rw [hop]
  simp only [hx,hy,Qjm,if_true,Qla,hb,if_false,Z4,Option.map_some,Z3]
 ·cases h
theorem Y1 {R:Type} {k k':IntKind} {a b:Int} {A:Option R} {r:R} (hi:Qgt ops i st=some (.shl,k,a,k',b)) (hS:Zk ops i st (some (.int k (k.wrap (a*2^min b.toNat k.bits)))) []=some S) (h:(if 0≤b then A else none)=some r)
  (kk:A=some r→RW P rd base ops (Qw d [([],[])]) (i+1) S Φ):RW P rd base ops d i st Φ:=by
 split at h
 ·rename_i hb
  obtain ⟨o,t,x,y,t2,ho,hop,hx,hy⟩:=Qea hi
  refine Y5 (nf:=false) (v:=some (.int k (k.wrap (a*2^min b.toNat k.bits)))) (eff:=[]) (fr:=st.objs.length) (rds:=[]) ho ?_ hS (Xh hS) (kk h)
  have hb':¬ b < 0:=by omega
  unfold Zq
  rw [hop]
  simp only [Xa,Bool.false_eq_true,if_false]
  unfold evalOp
  rw [hop]
  simp only [hx,hy,Qjm,hb',if_false,Z4,Option.map_some,Z3]
 ·cases h
theorem Qd8 {R:Type} {k k':IntKind} {a b:Int} {A:Option R} {r:R} (hi:Qgt ops i st=some (.shr,k,a,k',b)) (hS:Zk ops i st (some (.int k (a.fdiv (2^min b.toNat k.bits)))) []=some S) (h:(if 0≤b then A else none)=some r)
  (kk:A=some r→RW P rd base ops (Qw d [([],[])]) (i+1) S Φ):RW P rd base ops d i st Φ:=by
 split at h
 ·rename_i hb
  obtain ⟨o,t,x,y,t2,ho,hop,hx,hy⟩:=Qea hi
  refine Y5 (nf:=false) (v:=some (.int k (a.fdiv (2^min b.toNat k.bits)))) (eff:=[]) (fr:=st.objs.length) (rds:=[]) ho ?_ hS (Xh hS) (kk h)
  have hb':¬ b < 0:=by omega
  unfold Zq
  rw [hop]
  simp only [Xa,Bool.false_eq_true,if_false]
  unfold evalOp
  rw [hop]
  simp only [hx,hy,Qjm,hb',if_false,Z4,Option.map_some,Z3]
 ·cases h
end
end Go.Ab
