/- Rules on plain values. No conditions. -/
import Derived.Test.YtjhfdojgaoapcaaDoorEng7
set_option linter.all false
namespace Go.Ab
open Go.RowKit
section
variable {P:Program} {ops:Array Oper} {o:Oper}
theorem ylL_done {s:Slots} {σ:Sto} {fr:Nat} {v:Option AV} {eff:List (Nat × AObj)} {rds:List Nat} (hw:wantedA ops s o=some true) (hnd:∀c,o.op≠.defer c)
  (hd:∀s' σ',(∀x∈o.op.operands,evo s' x=evo s x)→(∀k∈rds,σ' k=σ k)→∀B W0 D M ι a W,Rel P B W0 D M ι σ' W→SlotsOk M ι s' a.tmps→OpDone P B W0 D M ι σ' fr a o W ⟨v,eff,fr,rds⟩) :
  YlL P ops o ⟨v,eff,fr,fr,rds⟩ s σ:=by
 intro s' σ' hs hσ
 refine .inl ⟨by rw [wantedA_local hs]; exact hw,?_⟩
 intro B W0 D M ι a W n Q r next hrel hsl hfree hpost
 refine wp_of_done (hd s' σ' (evo_local hs) hσ B W0 D M ι a W hrel hsl) hnd ⟨fun res' hr v W' M' ι' g1 g2 g3 g4 g5=>?_,fun pv hpv=>by cases hpv⟩
 cases hr
 exact hpost v W' M' ι' g1 g2 (fun k hk=>g3 k (Nat.lt_or_ge k fr |>.imp_right fun h1=>h1)) g4 g5
end
section
variable {P:Program} {rd:Option Nat} {base:Nat} {ops:Array Oper} {d:Option (List Sk)} {st S:St} {Φ:AOut→Prop} {i:Nat}
theorem rw_yl {v:Option AV} {eff:List (Nat × AObj)} {rds:List Nat} {o:Oper} (ho:opAt ops i st=some o) (hy:YlL P ops o ⟨v,eff,st.objs.length,st.objs.length,rds⟩ (lk st.slots) st.sto)
  (hS:finI ops i st v eff=some S) (hl:S.objs.length=st.objs.length) (k:RW P rd base ops (dAdd d [(eff.map (·.1),rds)]) (i+1) S Φ):RW P rd base ops d i st Φ:=by
 obtain ⟨h1,h2⟩:=opAt_spec ho
 unfold finI at hS
 rw [h1] at hS
 simp only at hS
 split at hS
 ·rename_i objs slots ha hp
  cases hS
  exact rw_step (s:=(eff.map (·.1),rds)) ⟨o,_,h1,stepF_mk hy rfl hl.symm ha hp rfl,cov_of (by simp [Foot.sk])⟩ k
 ·cases hS
end
end Go.Ab
namespace Go.Ab
open Go.RowKit
def mvF (o n:Nat):Nat → Option Nat := fun k=>if Nat.beq k o then some n else some k
def mvSt (o:Nat) (st:St):Option St :=
 match st.objs[o]? with
 | some x=>match x.ren (mvF o st.objs.length),gcObjs (mvF o st.objs.length) (st.objs.set o .dead) (List.range st.objs.length),renS (mvF o st.objs.length) st.slots with
  | some y,some os,some sl=>some ⟨sl,os++[y],st.nt⟩
  | _,_,_=>none
 | none=>none
theorem wk_mv {P:Program} {base:Nat} {st st':St} (o:Nat) (h:mvSt o st=some st') (hs:st.objs.all simpO=true) (hs':st'.objs.all simpO=true) (hbig:Nat.blt st.objs.length BIG=true):Wk P base st st':=by
 have hbig:=of_blt hbig
 unfold mvSt at h
 split at h
 ·rename_i x hx
  have ho:o < st.objs.length:=(List.getElem?_eq_some_iff.1 hx).1
  split at h
  ·rename_i y os sl hy hos hsl
   cases h
   have hs:=List.all_eq_true.1 hs
   have hs':=List.all_eq_true.1 hs'
   obtain ⟨hl,hat⟩:=gcObjs_at hos
   rw [List.length_range] at hl
   intro B W0 D0 dl M ι a W hsim
   have hσ:sto st.objs=fun k=>st.objs[k]?:=funext (sto_simp hs (by omega))
   have hlen':(os++[y]).length=st.objs.length+1:=by simp [hl]
   have hσ':sto (os++[y])=fun k=>(os++[y])[k]?:=funext (sto_simp hs' (by omega))
   have hno:∀k,¬ InB st.objs.length k→ι k=none:=hsim.new
   have hn:ι st.objs.length=none:=hno _ (fun hk=>by
    rcases hk with hk | ⟨j,i,_,e⟩
    ·omega
    ·have:=fid_big j i; omega)
   have hf:∀k k' p,mvF o st.objs.length k=some k'→ι k=some p→(fun k=>if k=st.objs.length then ι o else ι k) k'=some p:=fun k k' p h1 h2=>by
    unfold mvF at h1
    split at h1
    ·rename_i e
     have:=Nat.eq_of_beq_eq_true e
     cases h1; subst this
     simp only [if_true]; exact h2
    ·cases h1
     by_cases e:k=st.objs.length
     ·subst e; rw [hn] at h2; cases h2
     ·simp only [if_neg e]; exact h2
   have hcase:∀k x',(os++[y])[k]?=some x'→(k=st.objs.length∧x'=y)∨(k < st.objs.length∧∃z,(st.objs.set o .dead)[k]?=some z∧z.ren (mvF o st.objs.length)=some x'):=fun k x' hk=>by
    by_cases e:k < os.length
    ·rw [List.getElem?_append_left e] at hk
     obtain ⟨k0,z,h1,h2,h3⟩:=hat k _ hk
     have hkl:k < st.objs.length:=by omega
     have:k0=k:=by
      rw [List.getElem?_eq_getElem (by simpa using hkl)] at h1
      simpa using h1.symm
     subst this
     exact .inr ⟨hkl,z,h2,h3⟩
    ·rw [List.getElem?_append_right (by omega)] at hk
     have:=(List.getElem?_eq_some_iff.1 hk).1
     simp at this
     have e0:k - os.length=0:=by omega
     rw [e0] at hk
     simp at hk
     exact .inl ⟨by omega,hk.symm⟩
   refine ⟨M,fun k=>if k=st.objs.length then ι o else ι k,.refl _ _,fun k p hk hp=>?_,?_,fun t z hz=>?_,hsim.nt,hsim.df,fun k hk=>?_,by show (os++[y]).length≤BIG; omega⟩
   ·by_cases e:k=st.objs.length
    ·subst e; rw [hn] at hp; cases hp
    ·simp only [if_neg e]; exact hp
   ·show Rel P B W0 (dl++D0) M _ (sto (os++[y])) W
    have rel:=hsim.rel
    rw [hσ] at rel
    rw [hσ']
    have plainOf:∀z∈os++[y],z.isPlain=true:=fun z hz=>by
     have:=hs' z hz
     cases z <;> first | rfl | cases this
    refine rel.via (fun k=>if k=o then none else if k=st.objs.length then some o else some k) (fun k k' j h1 h2=>?_) (fun k j hk=>?_) (fun k x' hk hd=>?_) (fun k hk=>?_)
    ·by_cases e1:k=o
     ·simp [e1] at h1
     ·by_cases e2:k'=o
      ·simp [e2] at h2
      ·simp only [if_neg e1] at h1
       simp only [if_neg e2] at h2
       split at h1 <;> split at h2 <;> cases h1 <;> cases h2
       ·omega
       ·exact absurd rfl e2
       ·exact absurd rfl e1
       ·rfl
    ·by_cases e1:k=o
     ·simp [e1] at hk
     ·simp only [if_neg e1] at hk
      split at hk
      ·rename_i e; cases hk; simp [e]
      ·rename_i e; cases hk; simp [e]
    ·rcases hcase k x' hk with ⟨rfl,rfl⟩ | ⟨hkl,z,h1,h2⟩
     ·refine ⟨o,x,by rw [if_neg (by omega)]; simp,hx,?_⟩
      have hxp:x.plain=x:=plain_simp (hs x (List.mem_of_getElem? hx))
      have hyp:x'.isPlain=true:=plainOf x' (List.mem_of_getElem? hk)
      have:=ren_tr (ι':=fun k=>if k=st.objs.length then ι o else ι k) rel (k:=o) (by rw [hxp]; exact hx) hy hf (fun j j' i p _ e=>by rw [hyp] at e; cases e) (by rw [plain_of hyp]; exact hd)
      rwa [hxp,plain_of hyp] at this
     ·by_cases e:o=k
      ·subst e
       rw [List.getElem?_set_self ho] at h1
       cases h1; cases h2; exact absurd rfl hd
      ·rw [List.getElem?_set_ne e] at h1
       refine ⟨k,z,by rw [if_neg (fun h=>e h.symm),if_neg (by omega)],h1,?_⟩
       have hzp:z.plain=z:=plain_simp (hs z (List.mem_of_getElem? h1))
       have hyp:x'.isPlain=true:=plainOf x' (List.mem_of_getElem? hk)
       have:=ren_tr (ι':=fun k=>if k=st.objs.length then ι o else ι k) rel (k:=k) (by rw [hzp]; exact h1) h2 hf (fun j j' i p _ e=>by rw [hyp] at e; cases e) (by rw [plain_of hyp]; exact hd)
       rwa [hzp,plain_of hyp] at this
    ·cases hq:(os++[y])[k]? with
     | none=>exact .inl rfl
     | some x' =>
      right
      rcases hcase k x' hq with ⟨rfl,rfl⟩ | ⟨hkl,z,h1,h2⟩
      ·simp only [if_true] at hk
       rcases rel.used o hk with e | e
       ·rw [hx] at e; cases e
       ·rw [hx] at e; cases e; cases hy; rfl
      ·rw [if_neg (by omega)] at hk
       by_cases e:o=k
       ·subst e
        rw [List.getElem?_set_self ho] at h1
        cases h1; cases h2; rfl
       ·rw [List.getElem?_set_ne e] at h1
        rcases rel.used k hk with e | e
        ·rw [h1] at e; cases e
        ·rw [h1] at e; cases e; cases h2; rfl
   ·obtain ⟨z0,h1,h2⟩:=renS_lk hsl t z hz
    exact (hsim.slots t z0 h1).ren hf h2
   ·have hk':¬ InB (os++[y]).length k:=hk
    have h1:¬ InB st.objs.length k:=fun hh=>hk' (by
     rcases hh with hh | ⟨j,i,hj,rfl⟩
     ·exact .inl (by omega)
     ·exact .inr ⟨j,i,by omega,rfl⟩)
    have h2:k≠st.objs.length:=fun e=>hk' (.inl (by omega))
    show (if k=st.objs.length then ι o else ι k)=none
    rw [if_neg h2]; exact hno k h1
  ·cases h
 ·cases h
end Go.Ab
