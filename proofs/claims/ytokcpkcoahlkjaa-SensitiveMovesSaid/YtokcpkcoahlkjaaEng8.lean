/- Rules. No conditions. -/
import Derived.Test.YtokcpkcoahlkjaaEng6
import Derived.Test.YtokcpkcoahlkjaaEng5
import Derived.Test.YtokcpkcoahlkjaaEng7
set_option linter.all false
namespace Go.Ab
open Go.RowKit
def Qg9 (P:Program) (ops:Array Oper) (G:Array Bool→Nat → Foot) (Q:Slots→Sto→Prop):Nat → Array Bool→Slots→Sto→Prop
 | 0,listed,s,σ=>Region.ready .any ops listed=[]∧Q s σ
 | fuel+1,listed,s,σ=>(Region.ready .any ops listed=[]→Q s σ)∧∀i∈Region.ready .any ops listed,opA P ops (G listed) i (Qg9 P ops G Q fuel (listed.setIfInBounds i true)) s σ
def Y3 (F:Nat → Foot) (p q:Nat) (Fp1 Fq1:Foot) (listed:Array Bool) (i:Nat):Foot :=
 if i=p then (if listed.getD q false=true then Fp1 else F p) else if i=q then (if listed.getD p false=true then F q else Fq1) else F i
section
variable {P:Program} {ops:Array Oper} {G:Array Bool→Nat → Foot} {Q:Slots→Sto→Prop} {s:Slots} {σ:Sto}
theorem Q2j {oi oj:Oper} {Gi Gj:Foot} (hap:oi.apart ops oj=true) (hc:Y7 Gi Gj) (hy:YlL P ops oi Gi s σ) (ha:YlL P ops oj Gj (Xh s oi.dst Gi.v) (σ.puts Gi.eff)) :
  YlL P ops oj Gj s σ∧YlL P ops oi Gi (Xh s oj.dst Gj.v) (σ.puts Gj.eff)∧Xh (Xh s oi.dst Gi.v) oj.dst Gj.v=Xh (Xh s oj.dst Gj.v) oi.dst Gi.v∧(σ.puts Gi.eff).puts Gj.eff=(σ.puts Gj.eff).puts Gi.eff:=by
 obtain ⟨h1,h2,h3⟩:=Oper.apart_spec hap
 refine ⟨fun s' σ' hs hσ=>ha s' σ' (fun t ht=>?_) (fun k hk=>?_),fun s' σ' hs hσ=>hy s' σ' (fun t ht=>?_) (fun k hk=>?_),?_,?_⟩
 ·rw [Qif (fun k hk e=>h1 k hk (e ▸ ht))]; exact hs t ht
 ·rw [Qbr (fun e he hek=>hc.a e he (hek ▸ hk))]; exact hσ k hk
 ·rw [hs t ht,Qif (fun k hk e=>h3 k hk (e ▸ ht))]
 ·rw [hσ k hk,Qbr (fun e he hek=>hc.b e he (hek ▸ hk))]
 ·exact Qo2 (fun t ht e=>h2 t ht e)
 ·exact Qpl (fun e he e' he'=>hc.c e he e' he')
theorem Qrw {i:Nat} {oi:Oper} {Fi:Foot} (hi:ops[i]?=some oi) (hGi:∀L,G L i=Fi) (hGs:∀(L:Array Bool) (j:Nat),G (L.setIfInBounds i true) j=G L j) (hcp:∀L j oj,ops[j]?=some oj→j≠i→¬ Z1 ops i j→Y7 Fi (G L j)):∀(fuel:Nat) (listed:Array Bool) (s:Slots) (σ:Sto),Qat ops listed →
  (∀j oj,ops[j]?=some oj→j≠i→listed.getD j true=false→(∀e∈oj.after,Region.binds .any e=true→e.on≠i)→oi.apart ops oj=true) →
  i∈Region.ready .any ops listed→YlL P ops oi Fi s σ →
  Qg9 P ops G Q fuel (listed.setIfInBounds i true) (Xh s oi.dst Fi.v) (σ.puts Fi.eff)→Qg9 P ops G Q (fuel+1) listed s σ:=by
 have here:∀(L:Array Bool) (K:Slots→Sto→Prop) s σ,YlL P ops oi Fi s σ→K (Xh s oi.dst Fi.v) (σ.puts Fi.eff)→opA P ops (G L) i K s σ:=fun L K s σ h1 h2=>by
  unfold opA; simp only [hi,hGi]; exact ⟨h1,h2⟩
 intro fuel
 induction fuel with
 | zero =>
  intro listed s σ _ _ hr hy H
  refine ⟨fun h=>(by rw [h] at hr; cases hr),fun j hj=>?_⟩
  by_cases hji:j=i
  ·subst hji; exact here _ _ _ _ hy H
  ·have:=ready_mono hj hji
   rw [H.1] at this
   cases this
 | succ fuel ih =>
  intro listed s σ hcl hfree hr hy H
  refine ⟨fun h=>(by rw [h] at hr; cases hr),fun j hj=>?_⟩
  by_cases hji:j=i
  ·subst hji; exact here _ _ _ _ hy H
  ·have h1:=H.2 j (ready_mono hj hji)
   obtain ⟨hjun,oj,hoj,hall⟩:=mem_ready.1 hj
   have hiun:=(mem_ready.1 hr).1
   have hne:∀e∈oj.after,Region.binds .any e=true→e.on≠i:=fun e he hb hon=>by
    have:=hall e he hb
    rw [hon] at this
    exact Qmb hiun this
   have hap:=hfree j oj hoj hji hjun hne
   unfold opA at h1 ⊢
   simp only [hoj] at h1 ⊢
   rw [hGs] at h1
   obtain ⟨y1,K1⟩:=h1
   obtain ⟨g1,g2,g3,g4⟩:=Q2j hap (hcp listed j oj hoj hji (Qnc hcl hj hiun)) hy y1
   refine ⟨g1,ih (listed.setIfInBounds j true) _ _ (hcl.add hj) (fun k ok hk hki hun hno=>hfree k ok hk hki ?_ hno) (ready_mono hr (Ne.symm hji)) g2 ?_⟩
   ·by_cases hjk:j=k
    ·subst hjk; exact hjun
    ·rw [getD_set_ne true hjk] at hun; exact hun
   ·rw [Array.setIfInBounds_comm _ _ hji,←g3,←g4]
    exact K1
def eqN:List Nat → List Nat → Bool
 | [],[]=>true
 | x::l,y::m=>Nat.beq x y && eqN l m
 | _,_=>false
theorem Qc5:∀{l m:List Nat},eqN l m=true→l=m
 | [],[],_=>rfl
 | x::l,y::m,h=>by simp only [eqN,Bool.and_eq_true] at h; rw [Nat.eq_of_beq_eq_true h.1,Qc5 h.2]
 | [],_::_,h=>by cases h
 | _::_,[],h=>by cases h
def Qm1 (ops:Array Oper) (p q:Nat):List Nat → Array Bool→Bool
 | [],L=>eqN (Region.ready .any ops L) []
 | i::l,L=>eqN (Region.ready .any ops L) [i] && !Nat.beq i p && !Nat.beq i q && Qm1 ops p q l (L.setIfInBounds i true)
def Qsk (ops:Array Oper) (p q:Nat) (post:List Nat):List Nat → Array Bool→Bool
 | [],L=>eqN (Region.ready .any ops L) [p,q] && eqN (Region.ready .any ops (L.setIfInBounds p true)) [q] && eqN (Region.ready .any ops (L.setIfInBounds q true)) [p] &&
   Qm1 ops p q post ((L.setIfInBounds p true).setIfInBounds q true) && Qm1 ops p q post ((L.setIfInBounds q true).setIfInBounds p true) && !L.getD p false && !L.getD q false && Nat.blt p L.size && Nat.blt q L.size
 | i::l,L=>hasN (Region.ready .any ops L) i && Region.free .any ops L i && !Nat.beq i p && !Nat.beq i q && Qsk ops p q post l (L.setIfInBounds i true)
def Qjd (P:Program) (ops:Array Oper) (F:Nat → Foot) (K:Slots→Sto→Prop):List Nat → Slots→Sto→Prop
 | [],s,σ=>K s σ
 | i::l,s,σ=>∃oi,ops[i]?=some oi∧YlL P ops oi (F i) s σ∧Qjd P ops F K l (Xh s oi.dst (F i).v) (σ.puts (F i).eff)
def Q0v (P:Program) (op oq:Oper) (Fp Fq Fp1 Fq1:Foot) (ops:Array Oper) (Q:Slots→Sto→Prop) (s:Slots) (σ:Sto):Prop :=
 (YlL P ops op Fp s σ∧YlL P ops oq Fq (Xh s op.dst Fp.v) (σ.puts Fp.eff)∧Q (Xh (Xh s op.dst Fp.v) oq.dst Fq.v) ((σ.puts Fp.eff).puts Fq.eff)) ∧
 (YlL P ops oq Fq1 s σ∧YlL P ops op Fp1 (Xh s oq.dst Fq1.v) (σ.puts Fq1.eff)∧Q (Xh (Xh s oq.dst Fq1.v) op.dst Fp1.v) ((σ.puts Fq1.eff).puts Fp1.eff))
theorem Qgt {F:Nat → Foot} {p q:Nat} {Fp1 Fq1:Foot}:∀(l:List Nat) (L:Array Bool) (s:Slots) (σ:Sto),Qm1 ops p q l L=true→Qjd P ops F Q l s σ→Qg9 P ops (Y3 F p q Fp1 Fq1) Q l.length L s σ
 | [],L,s,σ,hB,hR=>⟨Qc5 hB,hR⟩
 | i::l,L,s,σ,hB,hR=>by
  simp only [Qm1,Bool.and_eq_true,Bool.not_eq_true'] at hB
  obtain ⟨⟨⟨b1,b3⟩,b4⟩,b5⟩:=hB
  have b1:=Qc5 b1
  have hip:i≠p:=fun e=>by subst e; rw [Nat.beq_refl] at b3; cases b3
  have hiq:i≠q:=fun e=>by subst e; rw [Nat.beq_refl] at b4; cases b4
  obtain ⟨oi,hoi,hy,hR'⟩:=hR
  refine ⟨fun h=>(by rw [b1] at h; cases h),fun j hj=>?_⟩
  rw [b1] at hj
  simp only [List.mem_cons,List.not_mem_nil,or_false] at hj
  subst hj
  have hG:Y3 F p q Fp1 Fq1 L j=F j:=by unfold Y3; rw [if_neg hip,if_neg hiq]
  unfold opA
  simp only [hoi,hG]
  exact ⟨hy,Qgt l _ _ _ b5 hR'⟩
theorem Qnu {post:List Nat} {F:Nat → Foot} {p q:Nat} {op oq:Oper} {Fp1 Fq1:Foot} (hp:ops[p]?=some op) (hq:ops[q]?=some oq) (hpq:p≠q)
  {pre:List Nat} (hcp:∀i L j oj,i∈pre→ops[j]?=some oj→j≠i→¬ Z1 ops i j→Y7 (F i) (Y3 F p q Fp1 Fq1 L j)) :
  ∀(l:List Nat) (L:Array Bool) (s:Slots) (σ:Sto),Qat ops L→(∀i∈l,i∈pre)→Qsk ops p q post l L=true→Qjd P ops F (Q0v P op oq (F p) (F q) Fp1 Fq1 ops (Qjd P ops F Q post)) l s σ→Qg9 P ops (Y3 F p q Fp1 Fq1) Q (l.length+(post.length+2)) L s σ
 | [],L,s,σ,_,_,hB,hR=>by
  simp only [Qsk,Bool.and_eq_true,Bool.not_eq_true'] at hB
  obtain ⟨⟨⟨⟨⟨⟨⟨⟨b1,b2⟩,b3⟩,b4⟩,b5⟩,b6⟩,b7⟩,b8⟩,b9⟩:=hB
  have b1:=Qc5 b1; have b2:=Qc5 b2; have b3:=Qc5 b3
  obtain ⟨⟨t1,t2,t3⟩,t4,t5,t6⟩:=hR
  have gp:∀L:Array Bool,L.getD q false=false→Y3 F p q Fp1 Fq1 L p=F p:=fun L h=>by unfold Y3; rw [if_pos rfl,if_neg (by rw [h]; simp)]
  have gp1:∀L:Array Bool,L.getD q false=true→Y3 F p q Fp1 Fq1 L p=Fp1:=fun L h=>by unfold Y3; rw [if_pos rfl,if_pos h]
  have gq:∀L:Array Bool,L.getD p false=true→Y3 F p q Fp1 Fq1 L q=F q:=fun L h=>by unfold Y3; rw [if_neg (Ne.symm hpq),if_pos rfl,if_pos h]
  have gq1:∀L:Array Bool,L.getD p false=false→Y3 F p q Fp1 Fq1 L q=Fq1:=fun L h=>by unfold Y3; rw [if_neg (Ne.symm hpq),if_pos rfl,if_neg (by rw [h]; simp)]
  have lp:(L.setIfInBounds p true).getD p false=true:=by have:=X3 b8; simp [Array.getD,this]
  have lq:(L.setIfInBounds q true).getD q false=true:=by have:=X3 b9; simp [Array.getD,this]
  rw [List.length_nil,Nat.zero_add]
  refine ⟨fun h=>(by rw [b1] at h; cases h),fun i hi=>?_⟩
  rw [b1] at hi
  simp only [List.mem_cons,List.not_mem_nil,or_false] at hi
  rcases hi with rfl | rfl
  ·unfold opA
   simp only [hp,gp L b7]
   refine ⟨t1,fun h=>(by rw [b2] at h; cases h),fun j hj=>?_⟩
   rw [b2] at hj
   simp only [List.mem_cons,List.not_mem_nil,or_false] at hj
   subst hj
   unfold opA
   simp only [hq,gq _ lp]
   exact ⟨t2,Qgt post _ _ _ b4 t3⟩
  ·unfold opA
   simp only [hq,gq1 L b6]
   refine ⟨t4,fun h=>(by rw [b3] at h; cases h),fun j hj=>?_⟩
   rw [b3] at hj
   simp only [List.mem_cons,List.not_mem_nil,or_false] at hj
   subst hj
   unfold opA
   simp only [hp,gp1 _ lq]
   exact ⟨t5,Qgt post _ _ _ b5 t6⟩
 | i::l,L,s,σ,hcl,hl,hB,hR=>by
  simp only [Qsk,Bool.and_eq_true,Bool.not_eq_true'] at hB
  obtain ⟨⟨⟨⟨b1,b2⟩,b3⟩,b4⟩,b5⟩:=hB
  have hip:i≠p:=fun e=>by subst e; rw [Nat.beq_refl] at b3; cases b3
  have hiq:i≠q:=fun e=>by subst e; rw [Nat.beq_refl] at b4; cases b4
  have hr:i∈Region.ready .any ops L:=by
   simp only [hasN,List.any_eq_true] at b1
   obtain ⟨x,hx,e⟩:=b1
   rw [←Nat.eq_of_beq_eq_true e]; exact hx
  obtain ⟨oi,hoi,hy,hR'⟩:=hR
  have hG:∀L,Y3 F p q Fp1 Fq1 L i=F i:=fun L=>by unfold Y3; rw [if_neg hip,if_neg hiq]
  have hGs:∀(L:Array Bool) (j:Nat),Y3 F p q Fp1 Fq1 (L.setIfInBounds i true) j=Y3 F p q Fp1 Fq1 L j:=fun L j=>by
   unfold Y3; rw [getD_set_ne false hiq,getD_set_ne false hip]
  rw [List.length_cons,show l.length+1+(post.length+2)=(l.length+(post.length+2))+1 by omega]
  exact Qrw hoi hG hGs (fun L j oj hoj hj hne=>hcp i L j oj (hl i (by simp)) hoj hj hne) (l.length+(post.length+2)) L s σ hcl (fun j oj hj hne hun hno=>Region.free_spec hoi b2 j oj hj hne hun hno) hr hy (Qnu hp hq hpq hcp l _ _ _ (hcl.add hr) (fun k hk=>hl k (by simp [hk])) b5 hR')
end
section
variable {P:Program} {ops:Array Oper} {G:Array Bool→Nat → Foot} {s s':Slots} {σ:Sto} {B:Nat} {W0 W:World} {D:List Nat} {M:CM} {ι:Inj} {a:Act} {Q:Exit→Act→World→Prop} {QA:Slots→Sto→Prop}
theorem Qxf {n k:Nat} (h:InR n n k):False:=by
 rcases h with h | ⟨_,_,h1,h2,_⟩ <;> omega
theorem Qr5 {r:Option Nat} {n N:Nat} {nt:Nat} (hdst:∀(i:Nat) (o:Oper) (d:Tmp),ops[i]?=some o→o.dst=some d→d < nt) (hfr:∀L i,(G L i).fr=N∧(G L i).fr'=N) :
  ∀(fuel:Nat) (listed:Array Bool) (s:Slots) (σ:Sto) (M:CM) (ι:Inj) (a:Act) (W:World),Qg9 P ops G QA fuel listed s σ →
  Rel P B W0 D M ι σ W→Qg M ι s a.tmps→a.tmps.size=nt →
  (∀s' σ' M' ι' a' W',QA s' σ'→CM.Grow B M M'→ι.le ι'→(∀k,ι' k=ι k)→Rel P B W0 D M' ι' σ' W'→Qg M' ι' s' a'.tmps→a'.tmps.size=nt→a'.defers=a.defers→Q .normal a' W') →
  wpAnyIn (FW r) n P .any ops Q fuel listed a W:=by
 intro fuel
 induction fuel with
 | zero =>
  intro listed s σ M ι a W h hrel hs hnt hQ
  exact ⟨h.1,hQ s σ M ι a W h.2 (.refl _ _) (Inj.le_refl _) (fun _=>rfl) hrel hs hnt rfl⟩
 | succ fuel ih =>
  intro listed s σ M ι a W h hrel hs hnt hQ
  refine ⟨fun h0=>hQ s σ M ι a W (h.1 h0) (.refl _ _) (Inj.le_refl _) (fun _=>rfl) hrel hs hnt rfl,fun i hi'=>?_⟩
  have h1:=h.2 i hi'
  obtain ⟨hun,o,ho,_⟩:=mem_ready.1 hi'
  unfold opA at h1
  simp only [ho] at h1
  obtain ⟨hy,hK⟩:=h1
  unfold wpOpIn
  simp only [ho]
  rcases hy s σ (fun _ _=>rfl) (fun _ _=>rfl) with ⟨hw,hdo⟩ | ⟨hw,hv,heff⟩
  ·rw [if_pos (Jc hs hw)]
   refine hdo B W0 D M ι a W n Q r _ hrel hs (fun k hk=>?_) (fun v W' M' ι' g1 g2 g3 g4 g5=>?_)
   ·rw [(hfr listed i).1,(hfr listed i).2] at hk; exact (Qxf hk).elim
   have g3':∀k,ι' k=ι k:=fun k=>g3 k (fun hk=>by rw [(hfr listed i).1,(hfr listed i).2] at hk; exact Qxf hk)
   have hs':=Qci (dst:=o.dst) (u:=v) (hs.mono g1.le g2) (fun d hd=>by rw [hnt]; exact hdst i o d ho hd) g5
   refine ih _ _ _ M' ι' _ W' hK g4 hs' (by cases o.dst <;> simp [Act.put,hnt]) (fun s2 σ2 M2 ι2 a2 W2 k1 k2 k3 k4 k5 k6 k7 k8=>?_)
   exact hQ s2 σ2 M2 ι2 a2 W2 k1 (g1.trans k2) (Inj.le_trans g2 k3) (fun k=>by rw [k4 k,g3' k]) k5 k6 k7 (by rw [k8]; cases o.dst <;> rfl)
  ·rw [if_neg (by rw [Jc hs hw]; simp)]
   refine ⟨fun _ _=>trivial,?_⟩
   have hs':=Qci (dst:=o.dst) (u:=undef) (v:=(G listed i).v) hs (fun d hd=>by rw [hnt]; exact hdst i o d ho hd) (fun x hx=>by rw [hv] at hx; cases hx; exact Qj2)
   rw [heff] at hK
   refine ih _ _ _ M ι _ W hK hrel hs' (by cases o.dst <;> simp [Act.put,hnt]) (fun s2 σ2 M2 ι2 a2 W2 k1 k2 k3 k4 k5 k6 k7 k8=>?_)
   exact hQ s2 σ2 M2 ι2 a2 W2 k1 k2 k3 k4 k5 k6 k7 (by rw [k8]; cases o.dst <;> rfl)
end
def bare (o:Oper):Oper:={ o with after:=#[] }
def Qvf (ops:Array Oper) (i:Nat):Nat → Nat → Bool
 | 0,_=>false
 | n+1,j=>match ops[j]? with
  | some o=>o.after.toList.any fun e=>Region.binds .any e && (Nat.beq e.on i || Qvf ops i n e.on)
  | none=>false
theorem Qpk {ops:Array Oper} {i:Nat}:∀{n j:Nat},Qvf ops i n j=true→Z1 ops i j
 | 0,_,h=>by cases h
 | n+1,j,h=>by
  unfold Qvf at h
  split at h
  ·rename_i o ho
   obtain ⟨e,he,h⟩:=List.any_eq_true.1 h
   simp only [Bool.and_eq_true,Bool.or_eq_true] at h
   rcases h.2 with h2 | h2
   ·exact .one ho (by simpa using he) h.1 (Nat.eq_of_beq_eq_true h2)
   ·exact .more ho (by simpa using he) h.1 (Qpk h2)
  ·cases h
def Qf4 (ops:Array Oper) (p i:Nat) (o:Oper):Oper:={ o with after:=if Qvf ops i 6 p then #[{ on:=0,ground:=.data }] else #[] }
def Ya (ops:Array Oper) (p q:Nat) (l:List Nat):List Oper:=l.filterMap fun i=>(ops[i]?).map (Qf4 ops p i)
def ph1:Oper:={ (default:Oper) with after:=#[{ on:=0,ground:=.data }] }
def Qk2 (ops:Array Oper) (p q:Nat) (l:List Nat):Array Oper:=((bare default)::ph1::Ya ops p q l).toArray
def Qkt (ops:Array Oper):Nat → List Nat → List Oper
 | _,[]=>[]
 | k,i::l=>match ops[i]? with
  | some o=>{ o with after:=#[{ on:=k,ground:=.data }] }::Qkt ops (k+1) l
  | none=>Qkt ops k l
def Qi8 (ops:Array Oper) (l:List Nat):Array Oper:=((bare default)::Qkt ops 0 l).toArray
def lkF (d:Foot):List Nat → List Foot→Nat → Foot
 | i::l,F::fs,j=>if Nat.beq i j then F else lkF d l fs j
 | _,_,_=>d
section
variable {P:Program} {rd:Option Nat} {base:Nat} {ops ops0:Array Oper} {st st1 st2 st3:St}
theorem Qz3 {o:Oper} {x:Array Edge} {F:Foot} {s:Slots} {σ:Sto} (hg:o.guard=none) (h:YlL P ops0 { o with after:=x } F s σ):YlL P ops o F s σ:=by
 intro s' σ' hs hσ
 have h1:=h s' σ' (fun t ht=>hs t (by simpa [Oper.looksAt,hg] using ht)) hσ
 rcases h1 with ⟨h1,h2⟩ | ⟨h1,_,_⟩
 ·exact .inl ⟨by unfold Xt; rw [hg],h2⟩
 ·unfold Xt at h1
  have:({ o with after:=x }:Oper).guard=none:=hg
  rw [this] at h1
  cases h1
def Lst (ops:Array Oper):List Oper→List Nat → Prop
 | [],[]=>True
 | o'::l0,i::l=>(∃o x,ops[i]?=some o∧o.guard=none∧o'={ o with after:=x })∧Lst ops l0 l
 | _,_=>False
theorem Qop (d:Foot) {K:Slots→Sto→Prop} {F:Nat → Foot}:∀(l:List Nat) (l0:List Oper) (fs:List Foot) (st:St),l.Nodup→Lst ops l0 l→Qkr P ops0 l0 st fs st1 →
  (∀i∈l,F i=lkF d l fs i)→K (lk st1.slots) (sto st1.objs)→Qjd P ops F K l (lk st.slots) (sto st.objs)
 | [],[],fs,st,_,_,h,_,hK=>by
  obtain ⟨_,rfl⟩:=h
  exact hK
 | [],_::_,fs,st,_,h,_,_,_=>h.elim
 | _::_,[],fs,st,_,h,_,_,_=>h.elim
 | i::l,o'::l0,fs,st,hnd,hg,h,hF,hK=>by
  obtain ⟨⟨o,x,ho,hgo,rfl⟩,hg'⟩:=hg
  obtain ⟨F0,fs0,st2,rfl,hS,hD⟩:=h
  have hFi:F i=F0:=by rw [hF i (by simp)]; simp [lkF]
  rw [List.nodup_cons] at hnd
  refine ⟨o,ho,by rw [hFi]; exact Qz3 hgo hS.yl,?_⟩
  have:=Qop d (K:=K) (F:=F) l l0 fs0 st2 hnd.2 hg' hD (fun j hj=>by
   rw [hF j (by simp [hj])]
   have hne:Nat.beq i j=false:=by
    rw [Bool.eq_false_iff]; intro e2
    have:=Nat.eq_of_beq_eq_true e2
    subst this; exact hnd.1 hj
   simp [lkF,hne]) hK
  rw [hFi]
  rw [Qep hS.dst,hS.eff] at this
  exact this
theorem Qc7 (d:Foot):∀(l:List Nat) (fs:List Foot) (j:Nat),lkF d l fs j=d∨∃k:Nat,l[k]?=some j∧fs[k]?=some (lkF d l fs j)
 | [],fs,j=>.inl (by cases fs <;> rfl)
 | i::l,[],j=>.inl rfl
 | i::l,F::fs,j=>by
  by_cases e:i=j
  ·subst e; exact .inr ⟨0,rfl,by simp [lkF]⟩
  ·have hne:Nat.beq i j=false:=by
    rw [Bool.eq_false_iff]; intro e2; exact e (Nat.eq_of_beq_eq_true e2)
   rcases Qc7 d l fs j with h1 | ⟨k,h1,h2⟩
   ·exact .inl (by simp [lkF,hne,h1])
   ·exact .inr ⟨k+1,by simpa using h1,by simpa [lkF,hne] using h2⟩
theorem Y7.symm {F G:Foot} (h:Y7 F G):Y7 G F:=⟨h.b,h.a,fun e he e' he'=>Ne.symm (h.c e' he' e he)⟩
theorem Qkm {l:List Oper} (h:∀o∈l,∀e∈o.after,e.on=0) {i j:Nat} (hi:i≠0) (h0:∀o,l[0]?=some o→o.after=#[]) (hb:Z1 l.toArray i j):False:=by
 have mem:∀{oj:Oper} {j:Nat},l.toArray[j]?=some oj→oj∈l:=fun {oj j} hj=>by
  have hj':l[j]?=some oj:=by simpa using hj
  exact List.mem_of_getElem? hj'
 have z:∀{j:Nat},Z1 l.toArray i j→j≠0:=fun {j} hb e=>by
  subst e
  cases hb with
  | one hj he _ _=>rw [h0 _ (by simpa using hj)] at he; simp at he
  | more hj he _ _=>rw [h0 _ (by simpa using hj)] at he; simp at he
 cases hb with
 | one hj he _ e=>exact hi (by rw [←e]; exact h _ (mem hj) _ he)
 | more hj he _ k=>exact z k (h _ (mem hj) _ he)
theorem Qvt {l:List Oper} {k:Nat} {o:Oper} (hk:l[k]?=some o) (ho:o.after=#[]) {i:Nat} (hb:Z1 l.toArray i k):False:=by
 have key:∀{oj:Oper} {e:Edge},l.toArray[k]?=some oj→e∈oj.after→False:=fun {oj e} hj he=>by
  have h1:l[k]?=some oj:=by simpa using hj
  rw [hk] at h1; cases h1; rw [ho] at he; simp at he
 cases hb with
 | one hj he _ _=>exact key hj he
 | more hj he _ _=>exact key hj he
theorem Qtn {p q:Nat} {l:List Nat}:∀o∈Ya ops p q l,∀e∈o.after,e.on=0:=by
 intro o ho
 simp only [Ya,List.mem_filterMap,Option.map_eq_some_iff] at ho
 obtain ⟨_,_,x,_,rfl⟩:=ho
 intro e he
 unfold Qf4 at he
 simp only at he
 split at he
 ·simp at he; rw [he]
 ·simp at he
def Qnv (ops:Array Oper) (l:List Nat):Bool:=l.all fun i=>match ops[i]? with | some o=>o.guard.isNone | none=>false
theorem Qlp {l:List Nat} (h:Qnv ops l=true):∀i∈l,∃o,ops[i]?=some o∧o.guard=none:=by
 intro i hi
 simp only [Qnv,List.all_eq_true] at h
 have:=h i hi
 split at this
 ·rename_i o ho; exact ⟨o,ho,by simpa using this⟩
 ·cases this
theorem Qny {p q:Nat}:∀{l:List Nat},(∀i∈l,∃o,ops[i]?=some o∧o.guard=none)→Lst ops (Ya ops p q l) l
 | [],_=>trivial
 | i::l,h=>by
  obtain ⟨o,ho,hg⟩:=h i (by simp)
  have e:Ya ops p q (i::l)=Qf4 ops p i o::Ya ops p q l:=by simp [Ya,ho]
  rw [e]
  exact ⟨⟨o,_,ho,hg,rfl⟩,Qny fun j hj=>h j (by simp [hj])⟩
theorem Qm7 {p q:Nat}:∀{l:List Nat},(∀i∈l,∃o,ops[i]?=some o∧o.guard=none)→∀{k i:Nat},l[k]?=some i→∃o,(Ya ops p q l)[k]?=some (Qf4 ops p i o)
 | [],_,k,i,hk=>by simp at hk
 | j::l,h,k,i,hk=>by
  obtain ⟨o,ho,hg⟩:=h j (by simp)
  have e:Ya ops p q (j::l)=Qf4 ops p j o::Ya ops p q l:=by simp [Ya,ho]
  rw [e]
  cases k with
  | zero=>simp at hk; subst hk; exact ⟨o,rfl⟩
  | succ k=>simp at hk; obtain ⟨o',ho'⟩:=Qm7 (fun m hm=>h m (by simp [hm])) hk; exact ⟨o',by simpa using ho'⟩
theorem Qjt:∀{l:List Nat} (k:Nat),(∀i∈l,∃o,ops[i]?=some o∧o.guard=none)→Lst ops (Qkt ops k l) l
 | [],_,_=>trivial
 | i::l,k,h=>by
  obtain ⟨o,ho,hg⟩:=h i (by simp)
  simp only [Qkt,ho]
  exact ⟨⟨o,_,ho,hg,rfl⟩,Qjt (k+1) fun j hj=>h j (by simp [hj])⟩
theorem Qr6 : ∀{l0:List Oper} {l:List Nat},Lst ops l0 l→∀(i:Nat) (o:Oper),i∈l→ops[i]?=some o→∃(k:Nat) (o':Oper),l0[k]?=some o'∧o'.dst=o.dst
 | [],[],_,i,o,h,_=>by simp at h
 | [],_::_,h,_,_,_,_=>h.elim
 | _::_,[],h,_,_,_,_=>h.elim
 | o'::l0,j::l,h,i,o,hi,ho=>by
  obtain ⟨⟨o2,x,h1,h2,rfl⟩,h3⟩:=h
  rcases List.mem_cons.1 hi with rfl | hi
  ·rw [ho] at h1; cases h1; exact ⟨0,_,rfl,rfl⟩
  ·obtain ⟨k,o3,e1,e2⟩:=Qr6 h3 i o hi ho
   exact ⟨k+1,o3,by simpa using e1,e2⟩
structure OnO (ob N:Nat) (F:Foot):Prop where
 eff:∀e∈F.eff,e.1=ob
 rd:∀k∈F.rd,k=ob
 fr:F.fr=N
 fr':F.fr'=N
def Qzt (P:Program) (ops:Array Oper) (p q ob:Nat) (st1 st3:St):Prop :=
 ∃(op oq:Oper) (a b:St) (Fp Fq Fp1 Fq1:Foot),ops[p]?=some op∧ops[q]?=some oq∧OnO ob st1.objs.length Fp∧OnO ob st1.objs.length Fq∧OnO ob st1.objs.length Fp1∧OnO ob st1.objs.length Fq1∧Fq.eff=[]∧Fq1.eff=[] ∧
  Qan P ops st1 op Fp a∧Qan P ops a oq Fq st3∧Qan P ops st1 oq Fq1 b∧Qan P ops b op Fp1 st3
def Qke:List Nat → Bool
 | []=>true
 | x::l=>!hasN l x && Qke l
theorem Qge:∀{l:List Nat},Qke l=true→l.Nodup
 | [],_=>List.nodup_nil
 | x::l,h=>by
  simp only [Qke,Bool.and_eq_true,Bool.not_eq_true'] at h
  exact List.nodup_cons.2 ⟨K7 h.1,Qge h.2⟩
def Q0l (ops:Array Oper) (pre post:List Nat):Bool:=post.all fun j=>pre.all fun i=>match ops[j]? with | some o=>o.after.any fun e=>Region.binds .any e && Nat.beq e.on i | none=>true
def Quh (ops:Array Oper) (p q ob:Nat) (pre post:List Nat):Bool :=
 !Nat.beq p q && Qnv ops pre && Qnv ops post && Qke pre && Qke post && Qsk ops p q post pre (Array.replicate ops.size false) && Nat.beq (pre.length+(post.length+2)) ops.size && Nat.blt ob BIG && Q0l ops pre post &&
  ((List.range ops.size).all fun i=>hasN pre i || Nat.beq i p || Nat.beq i q || hasN post i) && (pre.all fun i=>!Nat.beq i p && !Nat.beq i q && !hasN post i) && (post.all fun i=>!Nat.beq i p && !Nat.beq i q)
theorem Qkc {a b:Nat} (h:Nat.beq a b=false):a≠b:=fun e=>by subst e; rw [Nat.beq_refl] at h; cases h
theorem Qym {id p q ob:Nat} {pre post:List Nat} {st':St} (hm:(P.follows .mixedOrders || !Region.departs ops)=true) (hb:Quh ops p q ob pre post=true) {fs gs:List Foot} {ss:List Sk}
  (hrun:Qkr P (Qk2 ops p q pre) ((Qk2 ops p q pre).toList.drop 2) st fs st1) (hcov:Ql7 fs ss) (hcomp:Qae (Qk2 ops p q pre).toList ([([ob],[ob]),([],[ob])]++ss)=true) (hlen:st1.objs.length=st.objs.length) (ht:Qzt P ops p q ob st1 st2)
  (hpost:Qkr P (Qi8 ops post) ((Qi8 ops post).toList.drop 1) st2 gs st') (hlen':st'.objs.length=st.objs.length) :
  Z7 P rd base (.region id ops true) st (.go .normal st'):=by
 intro B W0 D0 dl M ι a W n Q r hs hr hp
 simp only [Quh,Bool.and_eq_true,Bool.not_eq_true',List.all_eq_true] at hb
 obtain ⟨⟨⟨⟨⟨⟨⟨⟨⟨⟨⟨b1,b2⟩,b3⟩,b4⟩,b5⟩,b6⟩,b7⟩,b8⟩,b9⟩,b10⟩,b11⟩,b12⟩:=hb
 have hpq:=Qkc b1
 have hpl1:=Qlp b2
 have hpl2:=Qlp b3
 have hnd1:=Qge b4
 have hnd2:=Qge b5
 have hnp:∀i∈pre,i≠p∧i≠q∧i ∉ post:=fun i hi=>by
  have:=b11 i hi
  exact ⟨Qkc this.1.1,Qkc this.1.2,K7 this.2⟩
 have hnq:∀i∈post,i≠p∧i≠q:=fun i hi=>by
  have:=b12 i hi
  exact ⟨Qkc this.1,Qkc this.2⟩
 obtain ⟨op,oq,sa,sb,Fp,Fq,Fp1,Fq1,hop,hoq,o1,o2,o3,o4,o2e,o4e,t1,t2,t3,t4⟩:=ht
 rw [hlen] at o1 o2 o3 o4
 have hlist:(Qk2 ops p q pre).toList=bare default::ph1::Ya ops p q pre:=by simp [Qk2]
 have hlist2:(Qi8 ops post).toList=bare default::Qkt ops 0 post:=by simp [Qi8]
 rw [hlist] at hrun hcomp
 rw [hlist2] at hpost
 rw [List.drop_succ_cons,List.drop_succ_cons,List.drop_zero] at hrun
 rw [List.drop_succ_cons,List.drop_zero] at hpost
 simp only [Qae,Bool.and_eq_true] at hcomp
 have harr:∀o∈bare default::ph1::Ya ops p q pre,∀e∈o.after,e.on=0:=fun o ho=>by
  rcases List.mem_cons.1 ho with rfl | ho
  ·intro e he; simp [bare] at he
  rcases List.mem_cons.1 ho with rfl | ho
  ·intro e he; simp [ph1] at he; rw [he]
  ·exact Qtn o ho
 have harr0:∀o,(bare default::ph1::Ya ops p q pre)[0]?=some o→o.after=#[]:=fun o ho=>by
  simp at ho; rw [←ho]; rfl
 have hcv0:Cov (⟨none,[(ob,.dead)],st.objs.length,st.objs.length,[ob]⟩:Foot) (([ob],[ob]):Sk):=⟨fun e he=>⟨ob,by simp,.inl (by simp at he; rw [he])⟩,fun e he=>⟨ob,by simp,.inl (by simpa using he)⟩⟩
 have hcv1:Cov (⟨none,[],st.objs.length,st.objs.length,[ob]⟩:Foot) (([],[ob]):Sk):=⟨fun e he=>by simp at he,fun e he=>⟨ob,by simp,.inl (by simpa using he)⟩⟩
 have hcs:=Qd7 (ops:=(bare default::ph1::Ya ops p q pre).toArray) 0 (bare default::ph1::Ya ops p q pre) ((⟨none,[(ob,.dead)],st.objs.length,st.objs.length,[ob]⟩:Foot)::⟨none,[],st.objs.length,st.objs.length,[ob]⟩::fs) (([ob],[ob])::([],[ob])::ss) ⟨hcv0,hcv1,hcov⟩ hcomp.1 hcomp.2 (fun q=>by simp)
 obtain ⟨r1,r2,r3,r4,rb,r5⟩:=Qf8 _ _ _ _ hrun
 obtain ⟨u1,u2,u3,u4,ub,u5⟩:=Qf8 _ _ _ _ hpost
 have hl2:st2.objs.length=st.objs.length:=by rw [←t2.fr',o2.fr']
 have hN:∀(k:Nat) (F:Foot),fs[k]?=some F→F.fr=st.objs.length∧F.fr'=st.objs.length:=fun k F hk=>by
  obtain ⟨h1,h2,h3⟩:=r2.at k F hk
  omega
 have hN2:∀(k:Nat) (F:Foot),gs[k]?=some F→F.fr=st.objs.length∧F.fr'=st.objs.length:=fun k F hk=>by
  obtain ⟨h1,h2,h3⟩:=u2.at k F hk
  omega
 let d:Foot:=⟨none,[],st.objs.length,st.objs.length,[]⟩
 let F:Nat → Foot:=fun i=>if i=p then Fp else if i=q then Fq else if hasN post i=true then lkF d post gs i else lkF d pre fs i
 have hFp:F p=Fp:=by simp [F]
 have hFq:F q=Fq:=by simp [F,Ne.symm hpq]
 have hFi:∀i,i∈pre→F i=lkF d pre fs i:=fun i hi=>by
  obtain ⟨h1,h2,h3⟩:=hnp i hi
  have:hasN post i=false:=by
   rw [Bool.eq_false_iff]; intro c; exact h3 (Qc6 c)
  simp [F,h1,h2,this]
 have hFj:∀i,i∈post→F i=lkF d post gs i:=fun i hi=>by
  obtain ⟨h1,h2⟩:=hnq i hi
  have:hasN post i=true:=by
   simp only [hasN,List.any_eq_true]; exact ⟨i,hi,Nat.beq_refl i⟩
  simp [F,h1,h2,this]
 have hopsk:∀(k:Nat) (G:Foot),fs[k]?=some G→∃o,(bare default::ph1::Ya ops p q pre)[k+2]?=some o:=fun k G hk=>by
  have hlt:k < fs.length:=(List.getElem?_eq_some_iff.1 hk).1
  rw [List.getElem?_cons_succ,List.getElem?_cons_succ]
  have:k < (Ya ops p q pre).length:=by rw [←r1]; exact hlt
  exact ⟨_,List.getElem?_eq_getElem this⟩
 have hquiet:∀i,i∈pre→¬ Z1 ops i p→∀G:Foot,OnO ob st.objs.length G→Y7 (F i) G:=fun i hi hnb G hG=>by
  rw [hFi i hi]
  rcases Qc7 d pre fs i with e | ⟨k,hki,hk⟩
  ·rw [e]; exact J6 rfl rfl
  ·obtain ⟨o0,ho⟩:=Qm7 (p:=p) (q:=q) hpl1 hki
   have ho:(bare default::ph1::Ya ops p q pre)[k+2]?=some (Qf4 ops p i o0):=by rw [List.getElem?_cons_succ,List.getElem?_cons_succ]; exact ho
   have hz:(Qf4 ops p i o0).after=#[]:=by
    unfold Qf4
    simp only
    rw [if_neg]
    intro c
    exact hnb (Qpk c)
   have hc:=hcs 0 (k+2) ⟨none,[(ob,.dead)],st.objs.length,st.objs.length,[ob]⟩ _ _ (by omega) rfl (by rw [List.getElem?_cons_succ,List.getElem?_cons_succ]; exact hk) ho (fun hb=>Qvt (by rw [Nat.zero_add]; exact ho) hz hb)
   refine ⟨fun e he hm=>?_,fun e he=>?_,fun e he e' he'=>?_⟩
   ·have:=hG.rd _ hm
    exact hc.b e he (by simp [this])
   ·rw [hG.eff e he]; exact hc.a (ob,AObj.dead) (by simp)
   ·rw [hG.eff e' he']; exact Ne.symm (hc.c (ob,AObj.dead) (by simp) e he)
 have hquietQ:∀i,i∈pre→∀G:Foot,OnO ob st.objs.length G→G.eff=[]→Y7 (F i) G:=fun i hi G hG hGe=>by
  rw [hFi i hi]
  rcases Qc7 d pre fs i with e | ⟨k,hki,hk⟩
  ·rw [e]; exact J6 rfl rfl
  ·obtain ⟨o,ho⟩:=hopsk k _ hk
   have hc:=hcs 1 (k+2) ⟨none,[],st.objs.length,st.objs.length,[ob]⟩ _ o (by omega) rfl (by rw [List.getElem?_cons_succ,List.getElem?_cons_succ]; exact hk) ho (fun hb=>Qkm harr (by omega) harr0 hb)
   refine ⟨fun e he hm=>?_,fun e he=>?_,fun e he e' he'=>?_⟩
   ·have:=hG.rd _ hm
    exact hc.b e he (by simp [this])
   ·rw [hGe] at he; simp at he
   ·rw [hGe] at he'; simp at he'
 have hcp:∀i L j oj,i∈pre→ops[j]?=some oj→j≠i→¬ Z1 ops i j→Y7 (F i) (Y3 F p q Fp1 Fq1 L j):=fun i L j oj hi hoj hj hne=>by
  unfold Y3
  split
  ·rename_i ej
   subst ej
   split
   ·exact hquiet i hi hne _ o3
   ·rw [hFp]; exact hquiet i hi hne _ o1
  ·split
   ·rename_i ej
    subst ej
    split
    ·rw [hFq]; exact hquietQ i hi _ o2 o2e
    ·exact hquietQ i hi _ o4 o4e
   ·rename_i hjp hjq
    by_cases hjpost:j∈post
    ·exfalso
     simp only [Q0l,List.all_eq_true] at b9
     have:=b9 j hjpost i hi
     rw [hoj] at this
     obtain ⟨e,he,hbb⟩:=Array.any_eq_true'.1 this
     simp only [Bool.and_eq_true] at hbb
     exact hne (.one hoj he hbb.1 (Nat.eq_of_beq_eq_true hbb.2))
    ·have hlt:j < ops.size:=(Array.getElem?_eq_some_iff.1 hoj).1
     have hall:=b10 j (List.mem_range.2 hlt)
     simp only [Bool.or_eq_true] at hall
     have hjpre:j∈pre:=by
      rcases hall with ((h1 | h1) | h1) | h1
      ·exact Qc6 h1
      ·exact absurd (Nat.eq_of_beq_eq_true h1) hjp
      ·exact absurd (Nat.eq_of_beq_eq_true h1) hjq
      ·exact absurd (Qc6 h1) hjpost
     rw [hFi i hi,hFi j hjpre]
     rcases Qc7 d pre fs i with e | ⟨k,hk0,hk⟩
     ·rw [e]; exact J6 rfl rfl
     ·rcases Qc7 d pre fs j with e | ⟨m,hm0,hm'⟩
      ·rw [e]; exact (J6 rfl rfl).symm
      ·have hkm:k≠m:=fun e=>by subst e; rw [hk0] at hm0; exact hj (Option.some.inj hm0).symm
       rcases Nat.lt_or_gt_of_ne hkm with e | e
       ·obtain ⟨o,ho⟩:=hopsk m _ hm'
        exact hcs (k+2) (m+2) _ _ o (by omega) (by simpa using hk) (by simpa using hm') ho (fun hb=>Qkm harr (by omega) harr0 hb)
       ·obtain ⟨o,ho⟩:=hopsk k _ hk
        exact (hcs (m+2) (k+2) _ _ o (by omega) (by simpa using hm') (by simpa using hk) ho (fun hb=>Qkm harr (by omega) harr0 hb)).symm
 have hPost:Qjd P ops F (fun s σ=>s=lk st'.slots∧σ=sto st'.objs) post (lk st2.slots) (sto st2.objs) :=
  Qop d (st1:=st') post _ gs st2 hnd2 (Qjt 0 hpl2) hpost (fun i hi=>hFj i hi) ⟨rfl,rfl⟩
 have hRun:Qjd P ops F (Q0v P op oq (F p) (F q) Fp1 Fq1 ops (Qjd P ops F (fun s σ=>s=lk st'.slots∧σ=sto st'.objs) post)) pre (lk st.slots) (sto st.objs):=by
  refine Qop d (st1:=st1) pre _ fs st hnd1 (Qny hpl1) hrun (fun i hi=>hFi i hi) ?_
  rw [hFp,hFq]
  have e1:=Qep t1.dst; have e2:=Qep t2.dst; have e3:=Qep t3.dst; have e4:=Qep t4.dst
  have f1:=t1.eff; have f2:=t2.eff; have f3:=t3.eff; have f4:=t4.eff
  refine ⟨⟨t1.yl,?_,?_⟩,⟨t3.yl,?_,?_⟩⟩
  ·have:=t2.yl; rw [e1,f1] at this; exact this
  ·rw [←e1,←f1,←e2,←f2]; exact hPost
  ·have:=t4.yl; rw [e3,f3] at this; exact this
  ·rw [←e3,←f3,←e4,←f4]; exact hPost
 have hA:=Qnu hop hoq hpq hcp pre (Array.replicate ops.size false) (lk st.slots) (sto st.objs) (fun k ok _ hl=>by simp [Array.getD] at hl) (fun _ h=>h) b6 hRun
 rw [Nat.eq_of_beq_eq_true b7] at hA
 have hnt3:st'.nt=st.nt:=by rw [u3,t2.nt,t1.nt,r3]
 refine wpIn_region_draw (fun t=>?_)
 have hsch:Region.schedule (P.follows .mixedOrders) ops t=Region.linearise .any ops t:=by
  unfold Region.schedule; rw [if_pos hm]
 rw [hsch]
 refine wpAnyIn_sound ops.size t _ a _ ?_
 refine Qr5 (B:=B) (W0:=W0) (D:=dl++D0) (nt:=st.nt) (N:=st.objs.length) (fun i o e hi hd=>?_) (fun L i=>?_) ops.size _ _ _ M ι a _ hA hs.rel.drew hs.slots hs.nt ?_
 ·have hlt:i < ops.size:=(Array.getElem?_eq_some_iff.1 hi).1
  have hall:=b10 i (List.mem_range.2 hlt)
  simp only [Bool.or_eq_true] at hall
  rcases hall with ((h1 | h1) | h1) | h1
  ·obtain ⟨k,o',e1,e2⟩:=Qr6 (Qny hpl1) i o (Qc6 h1) hi
   exact r4 k o' e e1 (by rw [e2]; exact hd)
  ·have:=Nat.eq_of_beq_eq_true h1; subst this; rw [hop] at hi; cases hi; have:=Qot t1.dst e hd; rw [r3] at this; exact this
  ·have:=Nat.eq_of_beq_eq_true h1; subst this; rw [hoq] at hi; cases hi; have:=Qot t3.dst e hd; rw [r3] at this; exact this
  ·obtain ⟨k,o',e1,e2⟩:=Qr6 (Qjt 0 hpl2) i o (Qc6 h1) hi
   have:=u4 k o' e e1 (by rw [e2]; exact hd)
   rw [t2.nt,t1.nt,r3] at this
   exact this
 ·unfold Y3
  split
  ·split
   ·exact ⟨o3.fr,o3.fr'⟩
   ·rw [hFp]; exact ⟨o1.fr,o1.fr'⟩
  ·split
   ·split
    ·rw [hFq]; exact ⟨o2.fr,o2.fr'⟩
    ·exact ⟨o4.fr,o4.fr'⟩
   ·rename_i h1 h2
    have hFd:F i=(if hasN post i=true then lkF d post gs i else lkF d pre fs i):=by simp [F,h1,h2]
    rw [hFd]
    split
    ·rcases Qc7 d post gs i with e | ⟨k,_,hk⟩
     ·rw [e]; exact ⟨rfl,rfl⟩
     ·exact hN2 k _ hk
    ·rcases Qc7 d pre fs i with e | ⟨k,_,hk⟩
     ·rw [e]; exact ⟨rfl,rfl⟩
     ·exact hN k _ hk
 ·intro s' σ' M' ι' a' W' hq g1 g2 g3 g4 g5 g6 g7
  obtain ⟨rfl,rfl⟩:=hq
  exact hp.go .normal st' rfl dl M' ι' a' W' g1 (g2.leB base) (List.suffix_refl _) ⟨g4,g5,by rw [g6,hnt3],⟨by rw [g7]; exact hs.df.defs,hs.df.old,hs.df.nd⟩,fun k hk=>by rw [g3 k]; exact hs.new k (fun c=>hk (by rw [hlen']; exact c)),by rw [hlen']; exact hs.big⟩
end
section
variable {P:Program} {rd:Option Nat} {base:Nat} {ops:Array Oper} {st st1 Sa Sb S3 S:St} {Φ:AOut→Prop} {i:Nat}
theorem Q0f {id p q ob:Nat} {pre post:List Nat} (hm:(P.follows .mixedOrders || !Region.departs ops)=true) (hb:Quh ops p q ob pre post=true)
  (h:RW P rd base (Qk2 ops p q pre) (some [([ob],[ob]),([],[ob])]) 2 st (fun out=>∃st1 st2,out=.go .normal st1∧st1.objs.length=st.objs.length∧Qzt P ops p q ob st1 st2 ∧
   RW P rd base (Qi8 ops post) (some [([],[])]) 1 st2 (fun out2=>∃st3,out2=.go .normal st3∧st3.objs.length=st.objs.length∧Φ (.go .normal st3)))):WP P rd base (.region id ops true) st Φ:=by
 obtain ⟨fs,ss,st',h1,hc,h2,st1,st2,h3,h4,h5,gs,ts,st3',k1,kc,k2,st3,k3,k4,k5⟩:=h
 cases h3
 cases k3
 exact ⟨_,Qym hm hb h1 hc h2 h4 h5 k1 k4,k5⟩
theorem Q12 {α:Type} {l:List α} {n:Int} (h1:0≤n) (h2:n.toNat < l.length):lkI l n=some (l[n.toNat]'h2):=by
 unfold lkI; rw [if_neg (by omega),List.getElem?_eq_getElem h2]
theorem Qlj {α:Type} {enc:α→AV} {l:List α} {n:Int} {w ob c:Nat} {bx fl:Bool} {a a':α} {v:AV} (hp:J1 ops i st=some (ob,n.toNat,c)) (hrow:st.sto ob=some (.row bx false true fl w (l.map enc))) (ha:lkI l n=some a)
  (hv:Qaw P ops i st=some v) (hn:v.nr=true) (hs:v.scs=true) (hput:K0 (enc a) c v=some (enc a')) (hS:Zg ops i st none [(ob,.row bx false true fl w ((l.set n.toNat a').map enc))]=some S) (hl:S.objs.length=st.objs.length) :
  ∃o,ops[i]?=some o∧Qan P ops st o ⟨none,[(ob,.row bx false true fl w ((l.set n.toNat a').map enc))],st.objs.length,st.objs.length,[ob]⟩ S:=by
 obtain ⟨h1,h2,h3⟩:=Xl ha
 obtain ⟨o,t,x,y,T,ho,hop,hT,hx,hy,hc⟩:=Kv hp hv
 obtain ⟨g1,g2⟩:=Vt ho
 have he:Zh P false noC st.sto st.objs.length (lk st.slots) o=some (.val ⟨none,[(ob,.row bx false true fl w ((l.set n.toNat a').map enc))],st.objs.length,[ob]⟩):=by
  unfold Zh
  rw [hop]
  simp only [Zu,Bool.false_eq_true,if_false]
  unfold evalOp
  rw [hop]
  simp only [hT,hx,hy,hrow,List.getElem?_map,h3,Option.map_some,hc,if_true,hn,hs,Bool.or_true,Bool.and_true,hput,frz,Qaq,List.contains_nil,Bool.false_eq_true,if_false,List.nil_append,Zk,List.map_set]
 unfold Zg at hS
 rw [g1] at hS
 simp only at hS
 split at hS
 ·rename_i objs slots ha' hp'
  cases hS
  exact ⟨o,g1,Qdg noC_sound g2 he ha' hp' hl⟩
 ·cases hS
theorem Qpf {α:Type} {enc:α→AV} {l:List α} {n:Int} {w:Nat} {ro nr fl:Bool} {ob:Nat} {a:α} (hi:J4 P ops i st=some (.ref ob 0 l.length,n,w)) (hrow:st.sto ob=some (.row false ro nr fl w (l.map enc)))
  (hS:Zg ops i st (some (.ptr ob n.toNat 0)) []=some S) (ha:lkI l n=some a):∃o,ops[i]?=some o∧Qan P ops st o ⟨some (.ptr ob n.toNat 0),[],st.objs.length,st.objs.length,[ob]⟩ S:=by
 obtain ⟨o,t,x,ix,kk,T,e,E,ho,hop,hT,hk,hE,rfl,hx,hix⟩:=Qb9 hi
 obtain ⟨h1,h2,h3⟩:=Xl ha
 obtain ⟨g1,g2⟩:=Vt ho
 have hneg:¬ n < 0:=by omega
 have he:Zh P false noC st.sto st.objs.length (lk st.slots) o=some (.val ⟨some (.ptr ob n.toNat 0),[],st.objs.length,[ob]⟩):=by
  unfold Zh
  rw [hop]
  simp only [Zu,Bool.false_eq_true,if_false]
  unfold evalOp
  rw [hop]
  simp only [hT,hx,hix,hk,asN,hneg,if_false,hE,hrow,blt_true h2,Bool.true_and,decide_true,if_true,Zk,Nat.zero_add]
 have hl:=X2 hS
 unfold Zg at hS
 rw [g1] at hS
 simp only at hS
 split at hS
 ·rename_i objs slots ha' hp'
  cases hS
  exact ⟨o,g1,Qdg noC_sound g2 he ha' hp' hl⟩
 ·cases hS
theorem Q2b {α:Type} {enc:α→AV} {l:List α} {n m:Int} {w ob p q c:Nat} {fl:Bool} {a a1 b:α} {v:AV} (hp:J1 ops p st1=some (ob,n.toNat,c)) (hrow:st1.sto ob=some (.row false false true fl w (l.map enc))) (ha:lkI l n=some a) (hb:lkI l m=some b)
  (hv:Qaw P ops p st1=some v) (nv:v.nr=true) (sv:v.scs=true) (h1:K0 (enc a) c v=some (enc a1))
  (hq:J4 P ops q st1=some (.ref ob 0 l.length,m,w)) (hSa:Zg ops p st1 none [(ob,.row false false true fl w ((l.set n.toNat a1).map enc))]=some Sa) (hSb:Zg ops q st1 (some (.ptr ob m.toNat 0)) []=some Sb)
  (hqa:J4 P ops q Sa=some (.ref ob 0 l.length,m,w)) (hra:Sa.sto ob=some (.row false false true fl w ((l.set n.toNat a1).map enc))) (hS3:Zg ops q Sa (some (.ptr ob m.toNat 0)) []=some S3)
  (hpb:J1 ops p Sb=some (ob,n.toNat,c)) (hrb:Sb.sto ob=some (.row false false true fl w (l.map enc))) (hvb:Qaw P ops p Sb=some v) (hS4:Zg ops p Sb none [(ob,.row false false true fl w ((l.set n.toNat a1).map enc))]=some S3)
  (la:Sa.objs.length=st1.objs.length) (lb:Sb.objs.length=st1.objs.length) (l3:S3.objs.length=st1.objs.length):Qzt P ops p q ob st1 S3:=by
 obtain ⟨op,hop,t1⟩:=Qlj hp hrow ha hv nv sv h1 hSa la
 have hb':∃b',lkI (l.set n.toNat a1) m=some b':=by
  obtain ⟨e1,e2,e3⟩:=Xl hb
  exact ⟨_,Q12 e1 (by rw [List.length_set]; exact e2)⟩
 obtain ⟨b',hb'⟩:=hb'
 obtain ⟨oq,hoq,t2⟩:=Qpf (l:=l.set n.toNat a1) (by rw [List.length_set]; exact hqa) hra hS3 hb'
 obtain ⟨oq',hoq',t3⟩:=Qpf hq hrow hSb hb
 obtain ⟨op',hop',t4⟩:=Qlj hpb hrb ha hvb nv sv h1 hS4 (by rw [l3,lb])
 rw [hop] at hop'; cases hop'
 rw [hoq] at hoq'; cases hoq'
 rw [la] at t2; rw [lb] at t4
 have on:∀(u:Option AV) (x:AObj),OnO ob st1.objs.length ⟨u,[(ob,x)],st1.objs.length,st1.objs.length,[ob]⟩:=fun u x=>⟨fun e he=>by simp at he; rw [he],fun k hk=>by simpa using hk,rfl,rfl⟩
 have on0:∀(u:Option AV),OnO ob st1.objs.length ⟨u,[],st1.objs.length,st1.objs.length,[ob]⟩:=fun u=>⟨fun e he=>by simp at he,fun k hk=>by simpa using hk,rfl,rfl⟩
 exact ⟨op,oq,Sa,Sb,_,_,_,_,hop,hoq,on _ _,on0 _,on _ _,on0 _,rfl,rfl,t1,t2,t3,t4⟩
end
end Go.Ab
namespace Go.Ab
open Go.RowKit
theorem Qtv {α:Type} {vs:Array α} (h:vs.size=1):∃v0,vs=#[v0]:=by
 obtain ⟨l⟩:=vs
 match l,h with
 | [v0],_=>exact ⟨v0,rfl⟩
def Qxv (P:Program) (f:FuncId) (t1 t2:TypeId):Prop:=∀(g:FuncId) (gfn:Func) (caps:Array Value) (w:World) (x y:Int) (R:Ending→World→Prop),P.funcs[g]?=some gfn→gfn.body.isSome=true→(gfn.name == "runtime.NumGoroutine")=false →
 Calls P g caps ((w.alloc (.cells #[.int .i64 0,.int .i64 0] t1)).alloc (.cells #[.int .i64 0] t2)) (fun e w'=>e=.returned (.agg #[.int .i64 x,.int .i64 y]) ∧
  w'.cell? ⟨w.heap.size,0,none⟩=some (.int .i64 0)∧w'.cell? ⟨w.heap.size,1,none⟩=some (.int .i64 0)∧w'.cell? ⟨w.heap.size+1,0,none⟩=some (.int .i64 0) ∧
  w'.frozen? ⟨w.heap.size,0,none⟩=false∧w'.frozen? ⟨w.heap.size,1,none⟩=false∧w'.frozen? ⟨w.heap.size+1,0,none⟩=false ∧
  R (.returned (.tuple #[.agg #[.int .i64 x,.int .i64 y],.int .i64 0])) (((w'.setCell ⟨w.heap.size,0,none⟩ (.int .i64 x)).setCell ⟨w.heap.size,1,none⟩ (.int .i64 y)).setCell ⟨w.heap.size+1,0,none⟩ (.int .i64 0))) →
 Calls P f #[.func (.func g) #[] caps] w R
def Qyb (P:Program) (f:FuncId) (t1 t2:TypeId):Prop:=∀(g:FuncId) (gfn:Func) (caps:Array Value) (w:World) (x:Int) (R:Ending→World→Prop),P.funcs[g]?=some gfn→gfn.body.isSome=true→(gfn.name == "runtime.NumGoroutine")=false →
 Calls P g caps ((w.alloc (.cells #[.int .i64 0] t1)).alloc (.cells #[.int .i64 0] t2)) (fun e w'=>e=.returned (.int .i64 x) ∧
  w'.cell? ⟨w.heap.size,0,none⟩=some (.int .i64 0)∧w'.cell? ⟨w.heap.size+1,0,none⟩=some (.int .i64 0) ∧
  w'.frozen? ⟨w.heap.size,0,none⟩=false∧w'.frozen? ⟨w.heap.size+1,0,none⟩=false ∧
  R (.returned (.tuple #[.int .i64 x,.int .i64 0])) ((w'.setCell ⟨w.heap.size,0,none⟩ (.int .i64 x)).setCell ⟨w.heap.size+1,0,none⟩ (.int .i64 0))) →
 Calls P f #[.func (.func g) #[] caps] w R
section
variable {P:Program}
theorem Qr3 {M:CM} {ι:Inj} {v:Value} {k:IntKind} {n:Int} (h:Qa M ι v (.int k n)):v=.int k n:=by cases h; rfl
theorem Qlx {W W':World} {M M':CM} (hag:Qbb M W) (hb:Q4 W.heap.size W W') (hk:M'.blk=M.blk):∀b x,M'.blk b=some x→W'.heap[b]?=some x∧(∀c e f,x≠.cells c e f)∧∀d,x≠.deferred d:=fun b x hx=>by
 rw [hk] at hx
 obtain ⟨k1,k2,k3⟩:=hag.keep b x hx
 exact ⟨by rw [hb.block b (Array.getElem?_eq_some_iff.1 k1).1]; exact k1,k2,k3⟩
theorem Qkb {W W':World} {M M':CM} (hag:Qbb M W) (hb:Q4 W.heap.size W W') (hk:M'.kc=M.kc):∀b o v,M'.kc b o=some v→W'.cell? ⟨b,o,none⟩=some v∧∀j,W'.frozen? ⟨b,j,none⟩=false:=fun b o v hx=>by
 rw [hk] at hx
 obtain ⟨k1,k2⟩:=hag.keepC b o v hx
 have hlt:=World.block_lt_of_cell? W _ k1
 exact ⟨by rw [hb.cell (p:=⟨b,o,none⟩) hlt]; exact k1,fun j=>by rw [hb.toBelow.frozen (p:=⟨b,j,none⟩) hlt]; exact k2 j⟩
theorem Qri {W0 W':World} {M0' M:CM} {ι:Inj} (hag:Qbb M0' W0) (hk:M.blk=M0'.blk) (hkc:M.kc=M0'.kc) (hs:W0.heap.size≤W'.heap.size) (hb:Q4 W0.heap.size W0 W') (ha:∀b o v,M b o=some v→W'.cell? ⟨b,o,none⟩=some v):Rel P W0.heap.size W0 [] M ι (fun k=>([]:List AObj)[k]?) W' :=
 ⟨hs,hb,fun r hr=>(by simp at hr),⟨ha,Qlx hag hb hk,Qkb hag hb hkc⟩,fun o bx nr fl w xs p k ho=>(by simp at ho),fun o bx ro nr fl w xs ho=>(by simp at ho),fun o fn sl ps asg bd st pe ho=>(by simp at ho),fun o o' bx nr fl w xs bx' nr' fl' w' xs' p p' _ ho=>(by simp at ho),fun o o' fn sl ps asg bd st pe fn' sl' ps' asg' bd' st' pe' p p' _ ho=>(by simp at ho),fun o _=>.inl (by simp)⟩
theorem Qyi {f:FuncId} {t1 t2:TypeId} (raw:Qxv P f t1 t2) {g:FuncId} {gfn:Func} {capsA:List AV} {x y:Int} (hf:P.funcs[g]?=some gfn) (hb:gfn.body.isSome=true) (hn:(gfn.name == "runtime.NumGoroutine")=false)
  (h:Q0 P g capsA (.ret (.agg [.int .i64 x,.int .i64 y]) [])):Q0 P f [.fn (.func g) [] capsA] (.ret (.tup [.agg [.int .i64 x,.int .i64 y],.int .i64 0]) []):=by
 intro W M vs hag hsz hrep
 obtain ⟨v0,rfl⟩:=Qtv (vs:=vs) (by simp [hsz])
 have h0:=hrep 0 v0 _ rfl rfl
 cases h0 with
 | fn _ first' caps' _ _ hy hm h1 h2 hr1 hr2 =>
 have:first'=#[]:=by apply Array.eq_empty_of_size_eq_zero; simpa using h1
 subst this
 refine raw g gfn caps' W x y _ hf hb hn ?_
 have hcell:∀b o v,M b o=some v→b < W.heap.size:=fun b o v hv=>World.block_lt_of_cell? W _ (hag b o v hv)
 have hW1:Q4 W.heap.size W ((W.alloc (.cells #[.int .i64 0,.int .i64 0] t1)).alloc (.cells #[.int .i64 0] t2)):=((Q4.refl _ W).alloc (Nat.le_refl _) _).alloc (by simp) _
 generalize hW:(W.alloc (.cells #[.int .i64 0,.int .i64 0] t1)).alloc (.cells #[.int .i64 0] t2)=W1 at *
 have hsz1:W1.heap.size=W.heap.size+2:=by rw [←hW]; simp
 have k1:W1.cell? ⟨W.heap.size,0,none⟩=some (.int .i64 0):=by rw [←hW]; simp [go_sem]
 have k2:W1.cell? ⟨W.heap.size,1,none⟩=some (.int .i64 0):=by rw [←hW]; simp [go_sem]
 have k3:W1.cell? ⟨W.heap.size+1,0,none⟩=some (.int .i64 0):=by rw [←hW]; simp [go_sem]
 have z1:W1.frozen? ⟨W.heap.size,0,none⟩=false:=by rw [←hW]; simp [go_sem]
 have z2:W1.frozen? ⟨W.heap.size,1,none⟩=false:=by rw [←hW]; simp [go_sem]
 have z3:W1.frozen? ⟨W.heap.size+1,0,none⟩=false:=by rw [←hW]; simp [go_sem]
 refine (h W1 M caps' ⟨fun b o v hv=>by rw [hW1.cell (p:=⟨b,o,none⟩) (hcell b o v hv)]; exact hag b o v hv,Qlx hag hW1 rfl,Qkb hag hW1 rfl⟩ h2 (fun j v a hv ha=>hr2 j v a hv ha)).mono ?_
 rintro e W' ⟨v,M',ι',rfl,q1,q2,q3,q4⟩
 have hv:v=.agg #[.int .i64 x,.int .i64 y]:=by
  cases q4 with
  | agg cs' cs hl hc hr =>
  have hs2:cs'.size=2:=by simpa using hl
  have e0:=hr 0 (cs'[0]'(by omega)) (.int .i64 x) (by simp) rfl
  have e1:=hr 1 (cs'[1]'(by omega)) (.int .i64 y) (by simp) rfl
  have e0':cs'[0]'(by omega)=.int .i64 x:=Qr3 e0
  have e1':cs'[1]'(by omega)=.int .i64 y:=Qr3 e1
  congr 1
  apply Array.ext (by simp [hs2])
  intro i h3 h4
  have:i=0∨i=1:=by omega
  rcases this with rfl | rfl
  ·simpa using e0'
  ·simpa using e1'
 subst hv
 have hbel:=q2.below
 have same:∀(b o:Nat),b < W1.heap.size→W'.cell? ⟨b,o,none⟩=W1.cell? ⟨b,o,none⟩:=fun b o hlt=>hbel.cell (p:=⟨b,o,none⟩) hlt
 have samf:∀(b o:Nat),b < W1.heap.size→W'.frozen? ⟨b,o,none⟩=W1.frozen? ⟨b,o,none⟩:=fun b o hlt=>hbel.toBelow.frozen (p:=⟨b,o,none⟩) hlt
 refine ⟨rfl,by rw [same _ _ (by omega)]; exact k1,by rw [same _ _ (by omega)]; exact k2,by rw [same _ _ (by omega)]; exact k3,by rw [samf _ _ (by omega)]; exact z1,by rw [samf _ _ (by omega)]; exact z2,by rw [samf _ _ (by omega)]; exact z3,?_⟩
 have hle:W1.heap.size≤W'.heap.size:=q2.size
 refine ⟨_,M',noInj,rfl,q1.mono (by omega),Qri hag q1.keep q1.keepC (by simp; omega) ?_ ?_,fun _ _=>rfl,?_⟩
 ·exact ((((hW1.trans (hbel.mono (by omega))).setCell (Nat.le_refl _) _).setCell (Nat.le_refl _) _).setCell (Nat.le_succ _) _)
 ·intro b o v hv
  have hne:∀p:Addr,(p.block=W.heap.size∨p.block=W.heap.size+1)→(⟨b,o,none⟩:Addr)≠p:=fun p hp e=>by
   subst e
   simp only at hp
   have hlt:b < W1.heap.size:=by omega
   rw [q1.old b o hlt] at hv
   have:=hcell b o v hv
   omega
  rw [World.cell?_setCell_other _ _ _ _ (hne ⟨W.heap.size+1,0,none⟩ (.inr rfl)).symm,World.cell?_setCell_other _ _ _ _ (hne ⟨W.heap.size,1,none⟩ (.inl rfl)).symm,World.cell?_setCell_other _ _ _ _ (hne ⟨W.heap.size,0,none⟩ (.inl rfl)).symm]
  exact q2.agree b o v hv
 ·refine .tup _ _ rfl (fun j u z hu hz=>?_)
  match j with
  | 0 =>
   simp at hu hz; subst hu; subst hz
   refine .agg _ _ rfl (fun c hc=>by simp at hc; rcases hc with rfl | rfl <;> rfl) (fun i u z hu hz=>?_)
   match i with
   | 0=>simp at hu hz; subst hu; subst hz; exact .int _ _
   | 1=>simp at hu hz; subst hu; subst hz; exact .int _ _
   | i+2=>simp at hu
  | 1=>simp at hu hz; subst hu; subst hz; exact .int _ _
  | j+2=>simp at hu
theorem Qwh {f:FuncId} {t1 t2:TypeId} (raw:Qyb P f t1 t2) {g:FuncId} {gfn:Func} {capsA:List AV} {x:Int} (hf:P.funcs[g]?=some gfn) (hb:gfn.body.isSome=true) (hn:(gfn.name == "runtime.NumGoroutine")=false)
  (h:Q0 P g capsA (.ret (.int .i64 x) [])):Q0 P f [.fn (.func g) [] capsA] (.ret (.tup [.int .i64 x,.int .i64 0]) []):=by
 intro W M vs hag hsz hrep
 obtain ⟨v0,rfl⟩:=Qtv (vs:=vs) (by simp [hsz])
 have h0:=hrep 0 v0 _ rfl rfl
 cases h0 with
 | fn _ first' caps' _ _ hy hm h1 h2 hr1 hr2 =>
 have:first'=#[]:=by apply Array.eq_empty_of_size_eq_zero; simpa using h1
 subst this
 refine raw g gfn caps' W x _ hf hb hn ?_
 have hcell:∀b o v,M b o=some v→b < W.heap.size:=fun b o v hv=>World.block_lt_of_cell? W _ (hag b o v hv)
 have hW1:Q4 W.heap.size W ((W.alloc (.cells #[.int .i64 0] t1)).alloc (.cells #[.int .i64 0] t2)):=((Q4.refl _ W).alloc (Nat.le_refl _) _).alloc (by simp) _
 generalize hW:(W.alloc (.cells #[.int .i64 0] t1)).alloc (.cells #[.int .i64 0] t2)=W1 at *
 have hsz1:W1.heap.size=W.heap.size+2:=by rw [←hW]; simp
 have k1:W1.cell? ⟨W.heap.size,0,none⟩=some (.int .i64 0):=by rw [←hW]; simp [go_sem]
 have k3:W1.cell? ⟨W.heap.size+1,0,none⟩=some (.int .i64 0):=by rw [←hW]; simp [go_sem]
 have z1:W1.frozen? ⟨W.heap.size,0,none⟩=false:=by rw [←hW]; simp [go_sem]
 have z3:W1.frozen? ⟨W.heap.size+1,0,none⟩=false:=by rw [←hW]; simp [go_sem]
 refine (h W1 M caps' ⟨fun b o v hv=>by rw [hW1.cell (p:=⟨b,o,none⟩) (hcell b o v hv)]; exact hag b o v hv,Qlx hag hW1 rfl,Qkb hag hW1 rfl⟩ h2 (fun j v a hv ha=>hr2 j v a hv ha)).mono ?_
 rintro e W' ⟨v,M',ι',rfl,q1,q2,q3,q4⟩
 have hv:v=.int .i64 x:=by cases q4; rfl
 subst hv
 have hbel:=q2.below
 have same:∀(b o:Nat),b < W1.heap.size→W'.cell? ⟨b,o,none⟩=W1.cell? ⟨b,o,none⟩:=fun b o hlt=>hbel.cell (p:=⟨b,o,none⟩) hlt
 have samf:∀(b o:Nat),b < W1.heap.size→W'.frozen? ⟨b,o,none⟩=W1.frozen? ⟨b,o,none⟩:=fun b o hlt=>hbel.toBelow.frozen (p:=⟨b,o,none⟩) hlt
 refine ⟨rfl,by rw [same _ _ (by omega)]; exact k1,by rw [same _ _ (by omega)]; exact k3,by rw [samf _ _ (by omega)]; exact z1,by rw [samf _ _ (by omega)]; exact z3,?_⟩
 have hle:W1.heap.size≤W'.heap.size:=q2.size
 refine ⟨_,M',noInj,rfl,q1.mono (by omega),Qri hag q1.keep q1.keepC (by simp; omega) ?_ ?_,fun _ _=>rfl,?_⟩
 ·exact (((hW1.trans (hbel.mono (by omega))).setCell (Nat.le_refl _) _).setCell (Nat.le_succ _) _)
 ·intro b o v hv
  have hne:∀p:Addr,(p.block=W.heap.size∨p.block=W.heap.size+1)→(⟨b,o,none⟩:Addr)≠p:=fun p hp e=>by
   subst e
   simp only at hp
   have hlt:b < W1.heap.size:=by omega
   rw [q1.old b o hlt] at hv
   have:=hcell b o v hv
   omega
  rw [World.cell?_setCell_other _ _ _ _ (hne ⟨W.heap.size+1,0,none⟩ (.inr rfl)).symm,World.cell?_setCell_other _ _ _ _ (hne ⟨W.heap.size,0,none⟩ (.inl rfl)).symm]
  exact q2.agree b o v hv
 ·refine .tup _ _ rfl (fun j u z hu hz=>?_)
  match j with
  | 0=>simp at hu hz; subst hu; subst hz; exact .int _ _
  | 1=>simp at hu hz; subst hu; subst hz; exact .int _ _
  | j+2=>simp at hu
end
end Go.Ab
namespace Go.Ab
open Go.RowKit
def Q0r {α β:Type} (l:List α) (r:Option β) (f:α→List α→Option β):Option β:=match l with
 | []=>r
 | a::t=>f a t
section
variable {P:Program} {rd:Option Nat} {base:Nat} {ops:Array Oper} {Φ:AOut→Prop} {c:Code}
end
end Go.Ab
namespace Go.Ab
open Go.RowKit
def Zc {α:Type} (enc:α→AV) (L:List α) (n:Int) (A:AV):List AV:=(L.map enc).set n.toNat A
theorem Qz9 {α:Type} {enc:α→AV} {L:List α} {n:Int} {A:AV}:(Zc enc L n A).length=L.length:=by simp [Zc]
theorem Qlc {α:Type} {enc:α→AV} {L:List α} {n:Int} {A:AV} {a:α} (ha:lkI L n=some a):(Zc enc L n A)[n.toNat]?=some A:=by
 obtain ⟨h1,h2,h3⟩:=Xl ha
 unfold Zc
 rw [List.getElem?_set_self (by simpa using h2)]
theorem Qmd {α:Type} {enc:α→AV} {L:List α} {n:Int} {A B:AV}:(Zc enc L n A).set n.toNat B=Zc enc L n B:=by simp [Zc,List.set_set]
theorem Qxn {α:Type} {enc:α→AV} {L:List α} {n:Int} {a:α} (ha:lkI L n=some a):Zc enc L n (enc a)=L.map enc:=by
 obtain ⟨h1,h2,h3⟩:=Xl ha
 unfold Zc
 apply List.ext_getElem?
 intro i
 by_cases e:n.toNat = i
 ·subst e; rw [List.getElem?_set_self (by simpa using h2)]; simp [h3]
 ·rw [List.getElem?_set_ne e]
theorem Qzb {α:Type} {enc:α→AV} {L:List α} {n:Int} {b:α}:Zc enc L n (enc b)=(L.set n.toNat b).map enc:=by
 unfold Zc; rw [List.map_set]
section
variable {P:Program} {base:Nat} {st st':St}
theorem Quf (o:Nat) {α:Type} {enc:α→AV} {L:List α} {n:Int} {a:α} {A:AV} {bx ro nr fl:Bool} {w:Nat} (ha:lkI L n=some a) (hA:enc a=A) (ho:st.objs[o]?=some (.row bx ro nr fl w (L.map enc)))
  (hS:(⟨st.slots,st.objs.set o (.row bx ro nr fl w (Zc enc L n A)),st.nt⟩:St)=st'):Wk P base st st':=by
 subst hA
 rw [Qxn ha] at hS
 refine Q4d ?_
 rw [←hS]
 have:st.objs.set o (.row bx ro nr fl w (L.map enc))=st.objs:=by
  obtain ⟨h1,h2⟩:=List.getElem?_eq_some_iff.1 ho
  apply List.ext_getElem?
  intro i
  by_cases e:o=i
  ·subst e; rw [List.getElem?_set_self h1,ho]
  ·rw [List.getElem?_set_ne e]
 rw [this]
theorem Qk3 (o c w:Nat) (nr fl:Bool) {α:Type} {enc:α→AV} {L:List α} {n:Int} {a:α} {A A' y:AV} {bx nr0 fl0:Bool} {w0:Nat} (ha:lkI L n=some a) (ho:st.objs[o]?=some (.row bx false nr0 fl0 w0 (Zc enc L n A)))
  (hy:A.flat[c]?=some y) (hn:(Qfr y && Nat.blt 0 w && Nat.blt st.objs.length BIG)=true) (hput:K0 A c (.ref st.objs.length 0 0)=some A')
  (hS:(⟨st.slots,st.objs.set o (.row bx false false false w0 (Zc enc L n A'))++[.row false false nr fl w []],st.nt⟩:St)=st'):Wk P base st st':=by
 refine Qoy o n.toNat c w nr fl ?_
 unfold Qrk
 simp only [ho,Qlc ha,hy,hn,if_true,hput,Qmd,hS]
theorem Qyw (o:Nat) {α:Type} {enc:α→AV} {L:List α} {n:Int} {a:α} {A y:AV} {ids:List Nat} {bx ro nr fl:Bool} {w:Nat} (ha:lkI L n=some a) (ho:st.sto o=some (.row bx ro nr fl w (Zc enc L n A))) (hno:hasN ids o=false)
  (hsn:Qs st.sto Qq A=some (y,ids)) (h:Qgx o n.toNat y ids st=some st'):Wk P base st st' :=
 Qsq o n.toNat ho (Qlc ha) hno hsn h
theorem Qt1 {α:Type} {enc:α→AV} (h:∀a,(enc a).nr=true):∀(L:List α),AV.nrL (L.map enc)=true
 | []=>rfl
 | a::L=>by simp [AV.nrL,h a,Qt1 h L]
theorem Qts (o:Nat) {α:Type} {enc:α→AV} {L:List α} {bx ro nr fl:Bool} {w:Nat} (hnr:∀a,(enc a).nr=true) (ho:st.objs[o]?=some (.row bx ro nr fl w (L.map enc)))
  (hS:(⟨st.slots,st.objs.set o (.row bx ro true false w (L.map enc)),st.nt⟩:St)=st'):Wk P base st st':=by
 subst hS
 intro B W0 D0 dl M ι a W hsim
 have hlt:=(List.getElem?_eq_some_iff.1 ho).1
 have hob:=hsim.lt ho
 have hos:=Qcx hob ho rfl
 obtain ⟨p,hp,hrow⟩:=hsim.rel.row o bx ro nr fl w _ hos
 refine ⟨M,ι,.refl _ _,.refl _ _,⟨?_,hsim.slots,hsim.nt,hsim.df,fun k hk=>hsim.new k (by simpa using hk),by simpa using hsim.big⟩⟩
 show Rel P B W0 (dl++D0) M ι (sto (st.objs.set o _)) W
 rw [Qb2 ho rfl rfl hob]
 refine hsim.rel.lessRow (nr:=nr) (fl:=fl) (xs:=L.map enc) hos rfl (fun i x x' hi hi'=>⟨[],?_⟩) (fun _=>Qt1 hnr L) (fun hf=>by cases hf)
 rw [hi] at hi'; cases hi'
 cases x <;> simp [Qx,Qda]
end
theorem Qlh {α:Type} {f:AV→Option (AV × List Nat)} {enc:α→AV} (hE:∀a,f (enc a)=some (enc a,[])) {A A':AV} {ids:List Nat} (hA:f A=some (A',ids)):∀(L:List α) (k:Nat),k < L.length→Qu f ((L.map enc).set k A)=some ((L.map enc).set k A',ids)
 | [],k,h=>by simp at h
 | a::L,0,h=>by
  have hr:∀L:List α,Qu f (L.map enc)=some (L.map enc,[]):=by
   intro L
   induction L with
   | nil=>rfl
   | cons a L ih=>simp [Qu,hE,ih]
  simp [Qu,hA,hr]
 | a::L,k+1,h=>by
  simp only [List.map_cons,List.set_cons_succ,Qu,hE,Qlh hE hA L k (by simpa using h),List.nil_append]
theorem Qoz {σ:Sto} {α:Type} {enc:α→AV} {L:List α} {N:Int} {a:α} {ob w n:Nat} {bx ro fl:Bool} {A A':AV} {ids:List Nat} (hrow:σ ob=some (.row bx ro false fl w (Zc enc L N A))) (ha:lkI L N=some a)
  (hE:∀a,Qs σ n (enc a)=some (enc a,[])) (hA:Qs σ n A=some (A',ids)):Qs σ (n+1) (.ref ob 0 L.length)=some (.lst false (Zc enc L N A'),ob::ids):=by
 obtain ⟨h1,h2,h3⟩:=Xl ha
 have hm:Qu (Qs σ n) (Zc enc L N A)=some (Zc enc L N A',ids):=Qlh hE hA L _ h2
 have hl:(Zc enc L N A').take L.length=Zc enc L N A':=List.take_of_length_le (by simp [Zc])
 simp [Qs,hrow,hm,Qz9,hl]
theorem Qu9 {M:CM} {ι:Inj} {v:Value} {fl:Bool} {xs:List AV} (hs:List LK) (h:Qa M ι v (.lst fl xs)):Qa M ι v (.lst false (xs.map (Qx hs))):=by
 cases h with
 | lst0=>exact .lst0 _ _
 | lst b off cap w _ _ f hcap hfl hc hM hr =>
  have key:∀(i j:Nat) (x y:AV),(xs.map (Qx hs))[i]?=some x→x.flat[j]?=some y→∃x0 y0 h,xs[i]?=some x0∧x0.flat[j]?=some y0∧y=LK.ap h y0:=fun i j x y hi hj=>by
   rw [List.getElem?_map,Option.map_eq_some_iff] at hi
   obtain ⟨x0,e1,rfl⟩:=hi
   have hsh:=hc x0 (List.mem_of_getElem? e1)
   obtain ⟨hs',e2,_⟩:=Qcb hs (x:=x0) hsh.form
   rw [e2] at hj
   obtain ⟨h,y0,e3,e4⟩:=Qhi hs' _ j y hj
   exact ⟨x0,y0,h,e1,e3,e4⟩
  have:=Qa.lst (M:=M) (ι:=ι) b off cap w false (xs.map (Qx hs)) f (by simpa using hcap) (fun h=>by cases h) (fun x hx=>by
   simp only [List.mem_map] at hx
   obtain ⟨z,hz,rfl⟩:=hx
   exact Qhd hs (hc z hz)) (fun i j x y hi hj=>by
   obtain ⟨x0,y0,h,e1,e2,_⟩:=key i j x y hi hj
   exact hM i j x0 y0 e1 e2) (fun i j x y hi hj=>by
   obtain ⟨x0,y0,h,e1,e2,rfl⟩:=key i j x y hi hj
   exact LK.ap_rep h (hr i j x0 y0 e1 e2))
  simpa using this
def Qar (x y:AV):Prop:=∀(M:CM) (v:Value),Qa M noInj v x→Qa M noInj v y
theorem Qar.refl {x:AV}:Qar x x:=fun _ _ h=>h
theorem Qar.lst {fl:Bool} {xs ys:List AV} (hs:List LK) (h:xs.map (Qx hs)=ys):Qar (.lst fl xs) (.lst false ys):=fun M v hr=>by subst h; exact Qu9 hs hr
inductive Vm:List AV→List AV→Prop
 | nil:Vm [] []
 | cons {x y:AV} {xs ys:List AV} (h:Qar x y) (hc:y.cell=x.cell) (k:Vm xs ys):Vm (x::xs) (y::ys)
theorem Vm.at {xs ys:List AV} (h:Vm xs ys):xs.length=ys.length∧∀(j:Nat) (y:AV),ys[j]?=some y→∃x,xs[j]?=some x∧Qar x y∧y.cell=x.cell:=by
 induction h with
 | nil=>exact ⟨rfl,fun j y h=>by simp at h⟩
 | cons h hc k ih =>
  refine ⟨by simp [ih.1],fun j y hj=>?_⟩
  cases j with
  | zero=>simp at hj; subst hj; exact ⟨_,rfl,h,hc⟩
  | succ j=>exact ih.2 j y (by simpa using hj)
theorem Qar.agg {xs ys:List AV} (h:Vm xs ys):Qar (.agg xs) (.agg ys):=fun M v hr=>by
 cases hr with
 | agg cs' _ hsz hc hrr =>
  obtain ⟨hl,hat⟩:=h.at
  refine .agg cs' _ (by rw [←hl]; exact hsz) (fun y hy=>?_) (fun j v y hv hy=>?_)
  ·obtain ⟨j,hj,rfl⟩:=List.mem_iff_getElem.1 hy
   obtain ⟨x,e1,_,e3⟩:=hat j _ (List.getElem?_eq_getElem hj)
   rw [e3]; exact hc x (List.mem_of_getElem? e1)
  ·obtain ⟨x,e1,e2,_⟩:=hat j y hy
   exact e2 M v (hrr j v x hv e1)
theorem Q0.argsE {P:Program} {f:FuncId} {us ws:List AV} {co:Z6} (hw:Vm us ws) (h:Q0 P f ws co):Q0 P f us co:=by
 intro W M vs h1 h2 h3
 obtain ⟨hl,hat⟩:=hw.at
 refine h W M vs h1 (by rw [←hl]; exact h2) (fun j v y hv hy=>?_)
 obtain ⟨x,e1,e2,_⟩:=hat j y hy
 exact e2 M v (h3 j v x hv e1)
section
variable {P:Program} {rd:Option Nat} {base:Nat} {ops:Array Oper} {st S:St} {Φ:AOut→Prop} {d:Option (List Sk)} {i:Nat}
theorem Qcp {α:Type} {enc:α→AV} {L:List α} {n:Int} {a:α} {A:AV} {ob w:Nat} {ro nr fl:Bool} (hi:J4 P ops i st=some (.ref ob 0 L.length,n,w)) (hrow:st.sto ob=some (.row false ro nr fl w (Zc enc L n A))) (ha:lkI L n=some a)
  (hS:Zg ops i st (some (.ptr ob n.toNat 0)) []=some S) (k:RW P rd base ops (Q7 d [([],[ob])]) (i+1) S Φ):RW P rd base ops d i st Φ:=by
 obtain ⟨h1,h2,_⟩:=Xl ha
 exact Qzo hi hrow h1 h2 (.inl rfl) hS k
theorem Qdj {α:Type} {enc:α→AV} {L:List α} {n:Int} {a:α} {A:AV} {ob c w:Nat} {ro nr fl:Bool} (hp:J1 ops i st=some (ob,n.toNat,c)) (hrow:st.sto ob=some (.row false ro nr fl w (Zc enc L n A))) (ha:lkI L n=some a)
  (hS:Qha P ops i st c A=some S) (k:RW P rd base ops (Q7 d [([],[ob])]) (i+1) S Φ):RW P rd base ops d i st Φ :=
 Q00 hp hrow (Qlc ha) (.inl rfl) hS k
theorem Qnm {α:Type} {enc:α→AV} {L:List α} {n:Int} {a:α} {A A' v:AV} {ob c w:Nat} (hp:J1 ops i st=some (ob,n.toNat,c)) (hrow:st.sto ob=some (.row false false false false w (Zc enc L n A))) (ha:lkI L n=some a)
  (hv:Qaw P ops i st=some v) (hput:K0 A c v=some A') (hS:Zg ops i st none [(ob,.row false false false false w (Zc enc L n A'))]=some S) (hl:Nat.beq S.objs.length st.objs.length=true)
  (k:RW P rd base ops (Q7 d [([ob],[ob])]) (i+1) S Φ):RW P rd base ops d i st Φ:=by
 obtain ⟨o,t,x0,y,T,ho,hop,hT,hx,hy,hc⟩:=Kv hp hv
 refine Vr (nf:=true) (fr:=st.objs.length) (rds:=[ob]) ho ?_ hS (Nat.eq_of_beq_eq_true hl) k
 unfold Zh
 rw [hop]
 simp only [Zu,Bool.false_eq_true,if_false]
 unfold evalOp
 rw [hop]
 simp only [hT,hx,hy,hrow,Qlc ha,hc,if_true,Bool.or_true,Bool.true_or,hput,frz,Qaq,List.contains_nil,Bool.false_eq_true,if_false,List.nil_append,Zk,Bool.false_and,Qmd]
end
theorem Qsl {α:Type} {enc:α→AV} {L:List α} {n:Int} {A:AV} {b:α}:(Zc enc L n A).set n.toNat (enc b)=(L.set n.toNat b).map enc:=by rw [Qmd,Qzb]
theorem Qlo {α β:Type} {enc:α→AV} {enc2:β→AV} {conv:α→β} {L:List α} {n:Int} {A:AV} {b:β} (hs:List LK) (h:∀a,Qx hs (enc a)=enc2 (conv a)) (hA:Qx hs A=enc2 b) :
  (Zc enc L n A).map (Qx hs)=((L.map conv).set n.toNat b).map enc2:=by
 have e:Qx hs ∘ enc=enc2 ∘ conv:=funext h
 unfold Zc
 rw [List.map_set,List.map_set,List.map_map,List.map_map,hA,e]
def Q36 {α β:Type}:α ⊕ β→Option α
 | .inl a=>some a
 | .inr _=>none
theorem Qwt {α β:Type} {x:α ⊕ β} {a:α} (h:Q36 x=some a):x=.inl a:=by cases x <;> cases h; rfl
def lkL {α β:Type} (l:List (α ⊕ β)) (n:Int):Option α:=(lkI l n).bind Q36
theorem Qo {α β:Type} {l:List (α ⊕ β)} {n:Int} {a:α} (h:lkL l n=some a):lkI l n=some (.inl a):=by
 unfold lkL at h
 cases e:lkI l n with
 | none=>rw [e] at h; cases h
 | some x=>rw [e] at h; rw [Qwt h]
def alr {α β:Type}:List (α ⊕ β)→Option (List β)
 | []=>some []
 | .inr b::l=>(alr l).map (b::·)
 | .inl _::_=>none
theorem Ql5 {α β:Type}:∀{l:List (α ⊕ β)} {m:List β},alr l=some m→l=m.map .inr
 | [],m,h=>by cases h; rfl
 | .inl _::_,m,h=>by cases h
 | .inr b::l,m,h=>by
  unfold alr at h
  cases e:alr l with
  | none=>rw [e] at h; cases h
  | some m'=>rw [e] at h; cases h; rw [Ql5 e]; rfl
theorem Q17 {α β:Type} {l:List (α ⊕ β)} {m:List β} {enc:α ⊕ β→AV} {enc2:β→AV} (h:alr l=some m) (he:∀b,enc (.inr b)=enc2 b):l.map enc=m.map enc2:=by
 rw [Ql5 h,List.map_map]
 exact congrArg (fun f=>m.map f) (funext he)
theorem Q1y {α β:Type} {l:List (α ⊕ β)} {m:List β} (h:alr l=some m):l.length=m.length:=by rw [Ql5 h,List.length_map]
theorem Qo6 {α:Type} {enc:α→AV} {f:Nat → Option Nat} (hE:∀a,(enc a).ren f=some (enc a)) {A A':AV} (hA:A.ren f=some A'):∀(L:List α) (k:Nat),AV.renL f ((L.map enc).set k A)=some ((L.map enc).set k A')
 | [],k=>by simp [AV.renL]
 | a::L,0=>by
  have hr:∀L:List α,AV.renL f (L.map enc)=some (L.map enc):=by
   intro L
   induction L with
   | nil=>rfl
   | cons a L ih=>simp [AV.renL,hE,ih]
  simp [AV.renL,hA,hr]
 | a::L,k+1=>by simp only [List.map_cons,List.set_cons_succ,AV.renL,hE,Qo6 hE hA L k]
def fillH (o:Nat) (h:AV→List AV):List Nat → List AObj→List AObj
 | k::ks,x::xs=>(if Nat.beq k o then (match x with | .row bx ro nr fl w [A]=>.row bx ro nr fl w (h A) | x=>x) else x)::fillH o h ks xs
 | _,_=>[]
theorem Qgp {α:Type} {enc:α→AV} {f:Nat → Option Nat} (hE:∀a,(enc a).ren f=some (enc a)) {L:List α} {n:Int} {A:AV} {objs:List AObj} {o w:Nat} {bx ro fl:Bool} (ho:o < objs.length) :
  ∀(ks:List Nat) (os:List AObj),X5 f (objs.set o (.row bx ro false fl w [A])) ks=some os→X5 f (objs.set o (.row bx ro false fl w (Zc enc L n A))) ks=some (fillH o (Zc enc L n) ks os)
 | [],os,h=>by simp [X5] at h; subst h; rfl
 | k::ks,os,h=>by
  unfold X5 at h ⊢
  by_cases e:o=k
  ·subst e
   rw [List.getElem?_set_self ho] at h ⊢
   simp only [AObj.ren,AV.renL] at h ⊢
   cases hA:A.ren f with
   | none=>rw [hA] at h; simp at h
   | some A' =>
    rw [hA] at h
    simp only at h
    cases hr:X5 f (objs.set o (.row bx ro false fl w [A])) ks with
    | none=>rw [hr] at h; simp at h
    | some os' =>
     rw [hr] at h
     have ih:=Qgp hE (L:=L) (n:=n) ho ks os' hr
     have h2:AV.renL f (Zc enc L n A)=some (Zc enc L n A'):=Qo6 hE hA L _
     simp at h
     subst h
     simp [h2,ih,fillH]
  ·rw [List.getElem?_set_ne e] at h ⊢
   cases hk:objs[k]? with
   | none=>rw [hk] at h; cases h
   | some x =>
    rw [hk] at h
    simp only at h ⊢
    cases hx:x.ren f with
    | none=>rw [hx] at h; cases h
    | some y =>
     rw [hx] at h
     cases hr:X5 f (objs.set o (.row bx ro false fl w [A])) ks with
     | none=>rw [hr] at h; cases h
     | some os' =>
      rw [hr] at h
      have ih:=Qgp hE (L:=L) (n:=n) ho ks os' hr
      cases h
      rw [ih]
      have:Nat.beq k o=false:=by
       cases e2:Nat.beq k o with
       | false=>rfl
       | true=>exact absurd (Nat.eq_of_beq_eq_true e2).symm e
      simp [fillH,this]
def Q0j (base:Nat) (live keep:List Nat) (o w:Nat) (h:AV→List AV) (A:AV) (st:St):Option St :=
 match Qbk base live keep ⟨st.slots,st.objs.set o (.row false false false false w [A]),st.nt⟩ with
 | some s=>some ⟨s.slots,fillH o h (List.range base++keep) s.objs,s.nt⟩
 | none=>none
theorem wk_gcH {P:Program} {base:Nat} {st st':St} {live keep:List Nat} (o:Nat) {α:Type} (enc:α→AV) (L:List α) (n:Int) (A:AV) (w:Nat) (hE:∀f a,(enc a).ren f=some (enc a)) (ho:st.objs[o]?=some (.row false false false false w (Zc enc L n A)))
  (h:Q0j base live keep o w (Zc enc L n) A st=some st'):Wk P base st st':=by
 refine Zy (live:=live) (keep:=keep) ?_
 unfold Q0j at h
 have hself:st.objs.set o (.row false false false false w (Zc enc L n A))=st.objs:=by
  obtain ⟨h1,h2⟩:=List.getElem?_eq_some_iff.1 ho
  apply List.ext_getElem?
  intro i
  by_cases e:o=i
  ·subst e; rw [List.getElem?_set_self h1,ho]
  ·rw [List.getElem?_set_ne e]
 cases hg:Qbk base live keep ⟨st.slots,st.objs.set o (.row false false false false w [A]),st.nt⟩ with
 | none=>rw [hg] at h; cases h
 | some s =>
  rw [hg] at h
  cases h
  unfold Qbk at hg ⊢
  simp only at hg ⊢
  split at hg
  ·rename_i hc
   rw [if_pos hc]
   split at hg
   ·rename_i os hos
    cases hg
    have:=Qgp (fun a=>hE _ a) (L:=L) (n:=n) (List.getElem?_eq_some_iff.1 ho).1 _ _ hos
    rw [hself] at this
    rw [this]
   ·cases hg
  ·cases hg
end Go.Ab
namespace Go.Ab
open Go.RowKit
section
variable {P:Program} {rd:Option Nat} {base:Nat} {ops:Array Oper} {st S:St} {Φ:AOut→Prop} {d:Option (List Sk)} {i:Nat} {c:Code}
theorem Qr2 {σ ρ1 ρ2:Type} {body:σ→Option (Qm σ (ρ1 ⊕ ρ2))} {I:σ→St} {H:ρ1→St} {Ex:ρ2→AOut→Prop}
  (stop:∀s y,body s=some (.done (.inl y))→H y=I s)
  (round:∀s o,body s=some o→(∃y,o=.done (.inl y))∨WP P rd base c (I s) (fun out=>match o with
   | .next s'=>∃st1,out=.go .normal st1∧Wk P base st1 (I s')
   | .done (.inl _)=>False
   | .done (.inr x)=>Ex x out∧out.normal=false)) :
  ∀(n:Nat) (s:σ) (x:ρ1 ⊕ ρ2),Qd n body s=some x→(∀y,x=.inl y→LWP P rd base c (H y) Φ)→(∀z,x=.inr z→∀out,Ex z out→Φ out)→LWP P rd base c (I s) Φ
 | 0,s,x,h,_,_=>by cases h
 | n+1,s,x,h,h1,h2=>by
  simp only [Qd] at h
  split at h
  ·rename_i s' hb
   rcases round s _ hb with ⟨y,e⟩ | hr
   ·cases e
   ·refine Qe2 (hr.mono fun out ho=>?_)
    obtain ⟨st1,rfl,hw⟩:=ho
    exact Qjw hw (Qr2 stop round n s' x h h1 h2)
  ·rename_i x' hb
   cases h
   cases x with
   | inl y =>
    have:=h1 y rfl
    rw [stop s y hb] at this
    exact this
   | inr z =>
    rcases round s _ hb with ⟨y,e⟩ | hr
    ·cases e
    ·refine Qe2 (hr.mono fun out ho=>?_)
     obtain ⟨g1,g2⟩:=ho
     have g3:=h2 z rfl out g1
     cases out with
     | pan v=>exact g3
     | go e st1=>cases e <;> first | exact g3 | simp [AOut.normal] at g2
  ·cases h
def Q01 {σ ρ:Type}:Qm σ ρ→Qm σ (σ ⊕ ρ)
 | .next s=>.next s
 | .done x=>.done (.inr x)
def Qkf {σ ρ:Type} (cnd:σ→Bool) (body:σ→Option (Qm σ ρ)) (s:σ):Option (Qm σ (σ ⊕ ρ)):=if cnd s=true then some (.done (.inl s)) else (body s).map Q01
theorem Qwe {σ ρ R:Type} {n:Nat} {cnd:σ→Bool} {body:σ→Option (Qm σ ρ)} {I:σ→St} {Ex:ρ→AOut→Prop} {K:σ ⊕ ρ→Option R} {r:R} (s0:σ) (hw:Wk P base st (I s0)) (h:(Qd n (Qkf cnd body) s0).bind K=some r)
  (round:∀s o,body s=some o→WP P rd base c (I s) (Qfk P base I Ex o))
  (k1:∀y,K (.inl y)=some r→LWP P rd base c (I y) Φ) (k2:∀z,K (.inr z)=some r→∀out,Ex z out→Φ out):WP P rd base (.loop c) st Φ:=by
 cases hx:Qd n (Qkf cnd body) s0 with
 | none=>rw [hx] at h; cases h
 | some x =>
  rw [hx] at h
  have hb:∀s o,Qkf cnd body s=some o→(o=.done (.inl s))∨∃o',body s=some o'∧o=Q01 o':=fun s o ho=>by
   unfold Qkf at ho
   split at ho
   ·cases ho; exact .inl rfl
   ·simp only [Option.map_eq_some_iff] at ho
    obtain ⟨o',e1,e2⟩:=ho
    exact .inr ⟨o',e1,e2.symm⟩
  refine Qt8 (Qjw hw (Qr2 (H:=I) (Ex:=Ex) (fun s y e=>?_) (fun s o e=>?_) n s0 x hx (fun y e=>?_) (fun z e=>?_)))
  ·rcases hb s _ e with e1 | ⟨o',_,e1⟩
   ·cases e1; rfl
   ·cases o' <;> cases e1
  ·rcases hb s _ e with e1 | ⟨o',e1,e2⟩
   ·exact .inl ⟨s,e1⟩
   ·subst e2
    refine .inr ((round s o' e1).mono fun out ho=>?_)
    cases o' with
    | next s'=>exact ho
    | done x=>exact ho
  ·subst e; exact k1 y h
  ·subst e; exact k2 z h
end
end Go.Ab
namespace Go.Ab
open Go.RowKit
theorem Qll:∀(es:List (AV × AV)) (i:Nat),Qc8 i (Xp i es)=some es
 | [],i=>rfl
 | (k,v)::r,i=>by
  simp only [Xp,Qc8]
  rw [show Nat.beq i i=true from Nat.beq_refl i,show Nat.beq (i+1) (i+1)=true from Nat.beq_refl _]
  simp [Qll r (i+2)]
theorem Qje (es:List (AV × AV)):Qcc (mapO es)=some es:=by
 simp [Qcc,mapO,Qll]
section
variable {P:Program} {α:Type} {enc:α→AV} {kk:IntKind} {kt:TypeId}
end
section
variable {P:Program} {rd:Option Nat} {base:Nat} {ops:Array Oper} {d:Option (List Sk)} {st S:St} {Φ:AOut→Prop} {i:Nat}
theorem Ql4 {P:Program} {nf:Bool} {C:FuncId→List AV→Option Z6} {σ:Sto} {fr:Nat} {s:Slots} {o:Oper} {r:Res}:(Zh P nf C σ fr s o=some (.val r))=(evalOp P nf C σ fr s o=some (.val r)):=by
 apply propext
 unfold Zh
 split
 ·exact Iff.rfl
 ·cases evalOp P nf C σ fr s o with
  | none=>exact Iff.rfl
  | some y=>cases y <;> simp [Zk]
end
end Go.Ab
namespace Go.Ab
open Go.RowKit
def Qnb (o:Nat) (m:AObj):List Nat → List AObj→List AObj
 | k::ks,y::ys=>(if Nat.beq k o then m else y)::Qnb o m ks ys
 | _,ys=>ys
theorem Qhz {f:Nat → Option Nat} {objs:List AObj} {o:Nat} {e m:AObj} (hm:m.ren f=some m) (ho:o < objs.length):∀(ks:List Nat) (os:List AObj),X5 f (objs.set o e) ks=some os→X5 f (objs.set o m) ks=some (Qnb o m ks os)
 | [],os,h=>by simp [X5] at h; subst h; rfl
 | k::ks,os,h=>by
  simp only [X5] at h ⊢
  by_cases c:o=k
  ·subst c
   rw [List.getElem?_set_self ho] at h ⊢
   simp only at h ⊢
   cases hx:e.ren f with
   | none=>rw [hx] at h; cases h
   | some y =>
    rw [hx] at h
    cases hr:X5 f (objs.set o e) ks with
    | none=>rw [hr] at h; cases h
    | some os' =>
     rw [hr] at h
     have ih:=Qhz hm ho ks os' hr
     cases h
     rw [ih,hm]
     simp [Qnb]
  ·rw [List.getElem?_set_ne c] at h ⊢
   cases hk:objs[k]? with
   | none=>rw [hk] at h; cases h
   | some x =>
    rw [hk] at h
    simp only at h ⊢
    cases hx:x.ren f with
    | none=>rw [hx] at h; cases h
    | some y =>
     rw [hx] at h
     cases hr:X5 f (objs.set o e) ks with
     | none=>rw [hr] at h; cases h
     | some os' =>
      rw [hr] at h
      have ih:=Qhz hm ho ks os' hr
      cases h
      rw [ih]
      have:Nat.beq k o=false:=by
       cases e2:Nat.beq k o with
       | false=>rfl
       | true=>exact absurd (Nat.eq_of_beq_eq_true e2).symm c
      simp [Qnb,this]
def Q1e (base:Nat) (live keep:List Nat) (o:Nat) (m:AObj) (st:St):Option St :=
 match Qbk base live keep ⟨st.slots,st.objs.set o (mapO []),st.nt⟩ with
 | some s=>some ⟨s.slots,Qnb o m (List.range base++keep) s.objs,s.nt⟩
 | none=>none
end Go.Ab
namespace Go.Ab
open Go.RowKit
def X8 {κ α:Type} (ke:κ→AV) (enc:α→AV) (p:κ × α):AV × AV:=(ke p.1,enc p.2)
def Vw {κ α:Type} (ke:κ→AV) (enc:α→AV) (l:List (κ × α)):AObj:=mapO (l.map (X8 ke enc))
def kget {κ α:Type} (e:κ→κ→Bool):List (κ × α)→κ→Option α
 | [],_=>none
 | p::r,n=>if e n p.1 then some p.2 else kget e r n
def kput {κ α:Type} (e:κ→κ→Bool):List (κ × α)→κ→α→List (κ × α)
 | [],n,v=>[(n,v)]
 | p::r,n,v=>if e n p.1 then (n,v)::r else p::kput e r n v
section
variable {P:Program} {κ α:Type} {ke:κ→AV} {enc:α→AV} {e:κ→κ→Bool} {kt:TypeId}
theorem Qh1 (hk:∀a b,Xs P kt (ke a) (ke b)=some (e a b)) {n:κ}:∀(l:List (κ × α)) (i:Nat),kget e l n=none→Vi (Xs P kt) (ke n) (l.map (X8 ke enc)) i=some none
 | [],i,_=>rfl
 | p::r,i,h=>by
  unfold kget at h
  split at h
  ·cases h
  ·rename_i hc
   simp only [List.map_cons,X8,Vi,hk]
   rw [show e n p.1=false by simpa using hc]
   exact Qh1 hk r (i+1) h
theorem Qm3 (hk:∀a b,Xs P kt (ke a) (ke b)=some (e a b)) {n:κ} {v:α}:∀(l:List (κ × α)) (i:Nat),kget e l n=some v→∃j,Vi (Xs P kt) (ke n) (l.map (X8 ke enc)) i=some (some (i+j,enc v))∧∀w,(l.map (X8 ke enc)).set j (X8 ke enc (n,w))=(kput e l n w).map (X8 ke enc)
 | [],i,h=>by cases h
 | p::r,i,h=>by
  unfold kget at h
  split at h
  ·rename_i hc
   cases h
   refine ⟨0,?_,fun w=>?_⟩
   ·simp only [List.map_cons,X8,Vi,hk,hc,Nat.add_zero]
   ·simp only [kput,hc,if_true,List.map_cons,List.set_cons_zero]
  ·rename_i hc
   have hc':e n p.1=false:=by simpa using hc
   obtain ⟨j,h1,h2⟩:=Qm3 hk r (i+1) h
   refine ⟨j+1,?_,fun w=>?_⟩
   ·simp only [List.map_cons,X8,Vi,hk,hc']
    rw [show i+(j+1)=i+1+j by omega]
    exact h1
   ·simp only [kput,hc',List.map_cons,List.set_cons_succ,h2 w]
    simp
theorem Qpa {n:κ} {w:α}:∀(l:List (κ × α)),kget e l n=none→l.map (X8 ke enc)++[X8 ke enc (n,w)]=(kput e l n w).map (X8 ke enc)
 | [],_=>rfl
 | p::r,h=>by
  unfold kget at h
  split at h
  ·cases h
  ·rename_i hc
   have hc':e n p.1=false:=by simpa using hc
   simp only [kput,hc',List.map_cons,List.cons_append,Qpa r h]
   simp
end
section
variable {P:Program} {rd:Option Nat} {base:Nat} {ops:Array Oper} {d:Option (List Sk)} {st S:St} {Φ:AOut→Prop} {i:Nat}
noncomputable def Qn6 (P:Program) (ops:Array Oper) (i:Nat) (st:St):Option (Nat × TypeId × AV × Bool × AV) :=
 match Xo ops i st with
 | some o=>match o.op with
  | .lookup t x ix c=>match ti P t,evo (lk st.slots) x,evo (lk st.slots) ix with
   | some T,some (.mp ob),some k=>match T.kind with
    | .map kt et=>match (ti P et).bind (·.zero) with
     | some z=>some (ob,kt,k,c,z)
     | _=>none
    | _=>none
   | _,_,_=>none
  | _=>none
 | none=>none
theorem Qv3 {κ α:Type} {ke:κ→AV} {enc:α→AV} {e:κ→κ→Bool} {l:List (κ × α)} {n:κ} {z:α} {ob:Nat} {kt:TypeId} {c:Bool} (hi:Qn6 P ops i st=some (ob,kt,ke n,c,enc z)) (hk:∀a b,Xs P kt (ke a) (ke b)=some (e a b)) (hrow:st.sto ob=some (Vw ke enc l)) (hok:∀v,(enc v).okv=true)
  (hS:Zg ops i st (some (if c then .tup [enc ((kget e l n).getD z),.bool (kget e l n).isSome] else enc ((kget e l n).getD z))) []=some S) (k:RW P rd base ops (Q7 d [([],[ob])]) (i+1) S Φ):RW P rd base ops d i st Φ:=by
 unfold Qn6 at hi
 split at hi
 ·rename_i o ho
  split at hi
  ·rename_i t x ix c' hop
   split at hi
   ·rename_i T ob' k' hT hx hix
    split at hi
    ·rename_i kt et hkind
     split at hi
     ·rename_i z' hz
      cases hi
      refine Vr (nf:=false) (v:=some (if c then .tup [enc ((kget e l n).getD z),.bool (kget e l n).isSome] else enc ((kget e l n).getD z))) (eff:=[]) (fr:=st.objs.length) (rds:=[ob]) ho ?_ hS (X2 hS) k
      rw [Ql4]
      simp only [evalOp,hop]
      unfold Qe0
      have hes:(st.sto ob).bind Qcc=some (l.map (X8 ke enc)):=by rw [hrow]; exact Qje _
      simp only [hT,hx,hix,hkind,hes,hk,hz]
      cases hg:kget e l n with
      | none =>
       rw [Qh1 hk l 0 hg]
       simp only [hok,if_true,Option.getD_none,Option.isSome_none]
      | some v =>
       obtain ⟨j,h1,_⟩:=Qm3 (enc:=enc) hk l 0 hg
       rw [h1]
       simp only [hok,if_true,Option.getD_some,Option.isSome_some]
     ·cases hi
    ·cases hi
   ·cases hi
  ·cases hi
 ·cases hi
end
def kpos {κ α:Type} (e:κ→κ→Bool):List (κ × α)→κ→Nat
 | [],_=>0
 | p::r,n=>if e n p.1 then 0 else kpos e r n+1
section
variable {P:Program} {κ α:Type} {ke:κ→AV} {enc:α→AV} {e:κ→κ→Bool} {kt:TypeId}
theorem Qpv (hk:∀a b,Xs P kt (ke a) (ke b)=some (e a b)) {n:κ} {v:α}:∀(l:List (κ × α)) (i:Nat),kget e l n=some v→Vi (Xs P kt) (ke n) (l.map (X8 ke enc)) i=some (some (i+kpos e l n,enc v))∧∀w,(l.map (X8 ke enc)).set (kpos e l n) (X8 ke enc (n,w))=(kput e l n w).map (X8 ke enc)
 | [],i,h=>by cases h
 | p::r,i,h=>by
  unfold kget at h
  split at h
  ·rename_i hc
   cases h
   refine ⟨?_,fun w=>?_⟩
   ·simp only [List.map_cons,X8,Vi,hk,hc,kpos,if_true,Nat.add_zero]
   ·simp only [kput,kpos,hc,if_true,List.map_cons,List.set_cons_zero]
  ·rename_i hc
   have hc':e n p.1=false:=by simpa using hc
   obtain ⟨h1,h2⟩:=Qpv hk r (i+1) h
   refine ⟨?_,fun w=>?_⟩
   ·simp only [List.map_cons,X8,Vi,hk,hc',kpos]
    rw [h1]
    simp only [Bool.false_eq_true,if_false]
    rw [show i+(kpos e r n+1)=i+1+kpos e r n by omega]
   ·simp only [kput,kpos,hc',List.map_cons,Bool.false_eq_true,if_false,List.set_cons_succ,h2 w]
theorem Qpb {n:κ}:∀(l:List (κ × α)),kget e l n=none→kpos e l n=l.length
 | [],_=>rfl
 | p::r,h=>by
  unfold kget at h
  split at h
  ·cases h
  ·rename_i hc
   have hc':e n p.1=false:=by simpa using hc
   simp only [kpos,hc',Bool.false_eq_true,if_false,List.length_cons,Qpb r h]
theorem Qrz {n:κ} {v w:α}:∀(l:List (κ × α)),((kput e l n w).map (X8 ke enc))[kpos e l n]?=some (ke n,enc w)∧((kput e l n w).map (X8 ke enc)).set (kpos e l n) (ke n,enc v)=(kput e l n v).map (X8 ke enc)
 | []=>⟨rfl,rfl⟩
 | p::r=>by
  obtain ⟨h1,h2⟩:=Qrz (n:=n) (v:=v) (w:=w) r
  by_cases hc:e n p.1=true
  ·simp [kput,kpos,hc,X8]
  ·have hc':e n p.1=false:=by simpa using hc
   simp only [kput,kpos,hc',Bool.false_eq_true,if_false,List.map_cons,List.getElem?_cons_succ,List.set_cons_succ,h1,h2]
   exact ⟨trivial,trivial⟩
end
section
variable {P:Program} {rd:Option Nat} {base:Nat} {ops:Array Oper} {d:Option (List Sk)} {st S:St} {Φ:AOut→Prop} {i:Nat}
noncomputable def Qtq (P:Program) (ops:Array Oper) (i:Nat) (st:St):Option (Nat × TypeId × AV × AV) :=
 match Xo ops i st with
 | some o=>match o.op with
  | .mapEntry t x ix=>match ti P t,evo (lk st.slots) x,evo (lk st.slots) ix with
   | some T,some (.mp ob),some k=>match T.kind with
    | .map kt et=>match (ti P et).bind (·.zero) with
     | some z=>some (ob,kt,k,z)
     | _=>none
    | _=>none
   | _,_,_=>none
  | _=>none
 | none=>none
noncomputable def Qty (ops:Array Oper) (i:Nat) (st:St):Option (Nat × AV × AV) :=
 match Xo ops i st with
 | some o=>match o.op with
  | .entryStore _ m x y=>match evo (lk st.slots) m,evo (lk st.slots) x,evo (lk st.slots) y with
   | some (.mp ob),some k,some v=>some (ob,k,v)
   | _,_,_=>none
  | _=>none
 | none=>none
theorem Q3g {κ α:Type} {ke:κ→AV} {enc:α→AV} {e:κ→κ→Bool} {l:List (κ × α)} {n:κ} {z:α} {ob:Nat} {kt:TypeId} (hi:Qtq P ops i st=some (ob,kt,ke n,enc z)) (hk:∀a b,Xs P kt (ke a) (ke b)=some (e a b)) (hrow:st.sto ob=some (Vw ke enc l)) (hok:∀v,(enc v).okv=true)
  (hS:Zg ops i st (some (.tup [enc ((kget e l n).getD z),.int .i64 (kpos e l n:Int)])) [(ob,Vw ke enc (kput e l n ((kget e l n).getD z)))]=some S) (hl:Nat.beq S.objs.length st.objs.length=true) (k:RW P rd base ops (Q7 d [([ob],[ob])]) (i+1) S Φ):RW P rd base ops d i st Φ:=by
 unfold Qtq at hi
 split at hi
 ·rename_i o ho
  split at hi
  ·rename_i t x ix hop
   split at hi
   ·rename_i T ob' k' hT hx hix
    split at hi
    ·rename_i kt et hkind
     split at hi
     ·rename_i z' hz
      cases hi
      refine Vr (nf:=false) (v:=some (.tup [enc ((kget e l n).getD z),.int .i64 (kpos e l n:Int)])) (eff:=[(ob,Vw ke enc (kput e l n ((kget e l n).getD z)))]) (fr:=st.objs.length) (rds:=[ob]) ho ?_ hS (Nat.eq_of_beq_eq_true hl) k
      rw [Ql4]
      simp only [evalOp,hop]
      unfold Qhb
      have hes:(st.sto ob).bind Qcc=some (l.map (X8 ke enc)):=by rw [hrow]; exact Qje _
      simp only [hT,hx,hix,hkind,hes,hk,hz]
      cases hg:kget e l n with
      | none =>
       rw [Qh1 hk l 0 hg]
       simp only [hok,if_true,Option.getD_none]
       rw [show (ke n,enc z)=X8 ke enc (n,z) from rfl,Qpa l hg,Qpb l hg,List.length_map]
       rfl
      | some v =>
       obtain ⟨h1,h2⟩:=Qpv (enc:=enc) hk l 0 hg
       rw [h1]
       simp only [hok,if_true,Option.getD_some,Nat.zero_add]
       rw [show (ke n,enc v)=X8 ke enc (n,v) from rfl,h2]
       rfl
     ·cases hi
    ·cases hi
   ·cases hi
  ·cases hi
 ·cases hi
theorem Q3y {κ α:Type} {ke:κ→AV} {enc:α→AV} {e:κ→κ→Bool} {l:List (κ × α)} {n:κ} {v w:α} {ob:Nat} (hi:Qty ops i st=some (ob,.int .i64 (kpos e l n:Int),enc v)) (hrow:st.sto ob=some (Vw ke enc (kput e l n w)))
  (hS:Zg ops i st none [(ob,Vw ke enc (kput e l n v))]=some S) (hl:Nat.beq S.objs.length st.objs.length=true) (k:RW P rd base ops (Q7 d [([ob],[ob])]) (i+1) S Φ):RW P rd base ops d i st Φ:=by
 unfold Qty at hi
 split at hi
 ·rename_i o ho
  split at hi
  ·rename_i t m x y hop
   split at hi
   ·rename_i ob' k' v' hm hx hy
    cases hi
    refine Vr (nf:=false) (v:=none) (eff:=[(ob,Vw ke enc (kput e l n v))]) (fr:=st.objs.length) (rds:=[ob]) ho ?_ hS (Nat.eq_of_beq_eq_true hl) k
    rw [Ql4]
    simp only [evalOp,hop]
    unfold Qe9
    have hes:(st.sto ob).bind Qcc=some ((kput e l n w).map (X8 ke enc)):=by rw [hrow]; exact Qje _
    obtain ⟨h1,h2⟩:=Qrz (ke:=ke) (enc:=enc) (e:=e) (n:=n) (v:=v) (w:=w) l
    have hx':evo (lk st.slots) x=some (.int .i64 (.ofNat (kpos e l n))):=hx
    simp only [hm,hx',hy,hes,h1,h2]
    rfl
   ·cases hi
  ·cases hi
 ·cases hi
end
theorem Qps {κ α:Type} {ke:κ→AV} {enc:α→AV} {f:Nat → Option Nat} (hk:∀v,(ke v).ren f=some (ke v)) (he:∀v,(enc v).ren f=some (enc v)):∀(l:List (κ × α)) (i:Nat),Ql0 f (Xp i (l.map (X8 ke enc)))=some (Xp i (l.map (X8 ke enc)))
 | [],i=>rfl
 | x::l,i=>by
  simp only [List.map_cons,X8,Xp,Ql0,he]
  have h2:=Qps hk he l (i+2)
  rw [hk]
  simp only [h2]
theorem Qz6 {κ α:Type} {ke:κ→AV} {enc:α→AV} {f:Nat → Option Nat} (hk:∀v,(ke v).ren f=some (ke v)) (he:∀v,(enc v).ren f=some (enc v)) (l:List (κ × α)):(Vw ke enc l).ren f=some (Vw ke enc l):=by
 show AObj.ren f (.loop _ _ _ _ _ _ _)=_
 simp only [AObj.ren,Qps hk he l 0]
 rfl
theorem wk_gcK {P:Program} {base:Nat} {st st':St} {live keep:List Nat} (o:Nat) {κ α:Type} (ke:κ→AV) (enc:α→AV) (L:List (κ × α)) (hK:∀f a,(ke a).ren f=some (ke a)) (hE:∀f a,(enc a).ren f=some (enc a)) (ho:st.objs[o]?=some (Vw ke enc L))
  (h:Q1e base live keep o (Vw ke enc L) st=some st'):Wk P base st st':=by
 refine Zy (live:=live) (keep:=keep) ?_
 unfold Q1e at h
 have hself:st.objs.set o (Vw ke enc L)=st.objs:=by
  obtain ⟨h1,h2⟩:=List.getElem?_eq_some_iff.1 ho
  apply List.ext_getElem?
  intro i
  by_cases e:o=i
  ·subst e; rw [List.getElem?_set_self h1,ho]
  ·rw [List.getElem?_set_ne e]
 cases hg:Qbk base live keep ⟨st.slots,st.objs.set o (mapO []),st.nt⟩ with
 | none=>rw [hg] at h; cases h
 | some s =>
  rw [hg] at h
  cases h
  unfold Qbk at hg ⊢
  simp only at hg ⊢
  split at hg
  ·rename_i hc
   rw [if_pos hc]
   split at hg
   ·rename_i os hos
    cases hg
    have:=Qhz (Qz6 (ke:=ke) (fun a=>hK _ a) (fun a=>hE _ a) L) (List.getElem?_eq_some_iff.1 ho).1 _ _ hos
    rw [hself] at this
    rw [this]
   ·cases hg
  ·cases hg
end Go.Ab
namespace Go.Ab
open Go.RowKit
section
variable {P:Program} {ops:Array Oper} {o:Oper}
end
section
variable {P:Program} {rd:Option Nat} {base:Nat} {ops:Array Oper} {d:Option (List Sk)} {st S:St} {Φ:AOut→Prop} {i:Nat}
theorem Qp2 (v:Value) (n:Nat):(Builtin.zeroCells #[v] n).toList=List.replicate n v:=by
 apply List.ext_getElem
 ·simp [Builtin.zeroCells]
 ·intro j h1 h2
  simp [Builtin.zeroCells,Nat.mod_one]
end
end Go.Ab
namespace Go.Ab
open Go.RowKit
@[reducible] def nlE {α:Type} (fl:Bool) (enc:α→AV):List α→AV
 | []=>.nils
 | a::l=>.lst fl ((a::l).map enc)
section
variable {P:Program} {rd:Option Nat} {base:Nat} {ops:Array Oper} {d:Option (List Sk)} {Φ:AOut→Prop} {i:Nat}
variable {st:St} {ops:Array Oper}
theorem Q33 {α R:Type} {G:Option (List α)} {A:Option R} {B:α→List α→Option R} {f:FuncId} {as0 us:List AV} {ids:List Nat} {fl:Bool} {enc:α→AV} {S0:St} {S1:α→List α→St} {r:R} (hi:Zl ops i st=some (f,as0)) (hb:Qef P f=true)
  (hsn:Qu (Qs st.sto Qq) as0=some (us,ids)) (hc:∀x,G=some x→Q0 P f us (.ret (nlE fl enc x) [])) (h0:Qc0 ops i st ids .nils []=some S0) (h1:∀a t,Qc0 ops i st ids (.lst fl ((a::t).map enc)) []=some (S1 a t))
  (h:(G.bind fun x=>Q0r x A B)=some r) (k0:A=some r→RW P rd base ops (Q7 d [Qhc st ids .nils []]) (i+1) S0 Φ)
  (k1:∀a t,B a t=some r→RW P rd base ops (Q7 d [Qhc st ids (.lst fl ((a::t).map enc)) []]) (i+1) (S1 a t) Φ):RW P rd base ops d i st Φ:=by
 cases hg:G with
 | none=>rw [hg] at h; cases h
 | some x =>
  rw [hg] at h
  cases x with
  | nil=>exact Qou hi hb hsn (hc [] hg) h0 (k0 h)
  | cons a t=>exact Qou hi hb hsn (hc (a::t) hg) (h1 a t) (k1 a t h)
end
end Go.Ab
