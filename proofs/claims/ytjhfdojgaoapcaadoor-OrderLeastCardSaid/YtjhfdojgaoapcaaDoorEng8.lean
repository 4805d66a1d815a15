/- Rules on plain values. No conditions. -/
import Derived.Test.YtjhfdojgaoapcaaDoorEng7
set_option linter.all false
namespace Go.Ab
open Go.RowKit
theorem puts_eff:∀(es:List (Nat × AObj)) (A A':List AObj),applyEff A es=some A'→(∀y∈es,y.1 < A.length)→∀k,Sto.puts (fun k=>A[k]?) es k=A'[k]?
 | [],A,A',h,_,k=>by cases h; rfl
 | (o,x)::es,A,A',h,hl,k=>by
  simp only [applyEff] at h
  split at h
  ·have ho:=hl (o,x) (by simp)
   rw [List.getElem?_eq_getElem ho] at h
   simp only at h
   split at h
   ·cases h
   ·have ih:=puts_eff es _ A' h (fun y hy=>by rw [List.length_set]; exact hl y (List.mem_cons_of_mem _ hy)) k
    rw [←ih]
    show Sto.puts _ es k=_
    congr 1
    funext j
    by_cases e:j=o
    ·subst e; simp [Sto.put,List.getElem?_set_self ho]
    ·simp [Sto.put,e,List.getElem?_set_ne (fun h=>e h.symm)]
  ·cases h
theorem ok_all {N:Nat} {A:List AObj} (h:A.all (okInB N)=true):∀y∈A,OkIn N y:=fun y hy=>okIn_of (List.all_eq_true.1 h y hy)
theorem ok_map {N:Nat} {A:List AObj} (k:Nat) {α:Type} (kk:IntKind) (enc:α→AV) (l:List (Int × α)) (hk:A[k]?=some (mapI kk enc l)) (he:∀v,(enc v).ids=[]) (h:(A.set k .dead).all (okInB N)=true):∀y∈A,OkIn N y:=fun y hy=>by
 obtain ⟨j,hj⟩:=List.mem_iff_getElem?.1 hy
 by_cases e:k=j
 ·subst e
  rw [hk] at hj
  cases hj
  exact okIn_mapI he
 ·exact okIn_of (List.all_eq_true.1 h y (List.mem_of_getElem? (by rw [List.getElem?_set_ne e]; exact hj)))
section
variable {P:Program} {rd:Option Nat} {base:Nat} {ops:Array Oper} {d:Option (List Sk)} {st:St} {Φ:AOut→Prop} {i:Nat}
theorem recH {σ ρ R:Type} {N:Nat} {c:Code} {I:σ→St} {E:ρ→St} {F:σ→Option ρ} {K:ρ→Option R} {r:R} {f:FuncId} {fn:Func} {as0:List AV} (s0:σ) (eff:ρ→List (Nat × AObj)) (S:ρ→St) (w:List Nat)
  (hi:callInfo ops i st=some (f,as0)) (hf:P.funcs[f]?=some fn) (hb:fn.body=some c) (hn:(fn.name == "runtime.NumGoroutine")=false) (hle:Nat.ble as0.length fn.ntmps=true)
  (h0:(⟨enumA 0 as0,st.objs.take N,fn.ntmps⟩:St)=I s0) (hN:Nat.ble N st.objs.length=true) (hbig:Nat.ble st.objs.length BIG=true) (hlive:(st.objs.take N).all liveO=true) (hA:∀y∈st.objs.take N,OkIn N y) (hE:∀x,Nat.beq (E x).objs.length N=true) (hA':∀x,∀y∈(E x).objs,OkIn N y)
  (hsl:(as0.all fun a=>a.ids.all fun o=>Nat.blt o N)=true)
  (heff:∀x,applyEff (st.objs.take N) (eff x)=some (E x).objs) (hw:∀x,(eff x).map (·.1)=w) (hwl:(w.all fun o=>Nat.blt o N)=true)
  (IH:RecOk P N c I E F) (h:(F s0).bind K=some r) (hS:∀x,recEnd P fn ops i st (eff x) (E x)=some (S x))
  (k:∀x,K x=some r→RW P rd base ops (dAdd d [(w,List.range N)]) (i+1) (S x) Φ):RW P rd base ops d i st Φ:=by
 have hNl:N≤st.objs.length:=Nat.le_of_ble_eq_true hN
 have hlA:(st.objs.take N).length=N:=by rw [List.length_take]; omega
 have hel:∀x,∀y∈eff x,y.1 < N:=fun x y hy=>by
  have:y.1∈(eff x).map (·.1):=List.mem_map_of_mem hy
  rw [hw x] at this
  exact of_blt (List.all_eq_true.1 hwl _ this)
 refine recD s0 (st.objs.take N) (st.objs.drop N) eff S hi hf hb hn hle (List.take_append_drop N st.objs).symm h0 hlA ?_ hlive hA (fun x=>Nat.eq_of_beq_eq_true (hE x)) hA' hsl (fun x k _=>puts_eff _ _ _ (heff x) (fun y hy=>by rw [hlA]; exact hel x y hy) k) hel w hw hbig IH h hS k
 have:=Nat.le_of_ble_eq_true hbig
 exact Nat.ble_eq_true_of_le (by omega)
theorem recHR {σ ρ R:Type} {N:Nat} {c:Code} {I:σ→St} {E:ρ→St} {F:(σ→Option ρ)→σ→Option ρ} {K:ρ→Option R} {r:R} {f:FuncId} {fn:Func} {as0:List AV} (s0:σ) (eff:ρ→List (Nat × AObj)) (S:ρ→St) (w:List Nat)
  (hi:callInfo ops i st=some (f,as0)) (hf:P.funcs[f]?=some fn) (hb:fn.body=some c) (hn:(fn.name == "runtime.NumGoroutine")=false) (hle:Nat.ble as0.length fn.ntmps=true)
  (h0:(⟨enumA 0 as0,st.objs.take N,fn.ntmps⟩:St)=I s0) (hN:Nat.ble N st.objs.length=true) (hbig:Nat.ble st.objs.length BIG=true) (hlive:(st.objs.take N).all liveO=true) (hA:∀y∈st.objs.take N,OkIn N y) (hE:∀x,Nat.beq (E x).objs.length N=true) (hA':∀x,∀y∈(E x).objs,OkIn N y)
  (hsl:(as0.all fun a=>a.ids.all fun o=>Nat.blt o N)=true)
  (heff:∀x,applyEff (st.objs.take N) (eff x)=some (E x).objs) (hw:∀x,(eff x).map (·.1)=w) (hwl:(w.all fun o=>Nat.blt o N)=true)
  (h:(recN F fuel s0).bind K=some r) (hS:∀x,recEnd P fn ops i st (eff x) (E x)=some (S x))
  (step:∀d,RecOk P N c I E d→∀s x,F d s=some x→WP P none N c (I s) (fun o=>o=.go .ret (E x)∨o=.go .normal (E x)))
  (k:∀x,K x=some r→RW P rd base ops (dAdd d [(w,List.range N)]) (i+1) (S x) Φ):RW P rd base ops d i st Φ :=
 recH s0 eff S w hi hf hb hn hle h0 hN hbig hlive hA hE hA' hsl heff hw hwl (rec_ok step fuel) h hS k
end
end Go.Ab
namespace Go.Ab
open Go.RowKit
def mvF (o n:Nat):Nat → Option Nat := fun k=>if Nat.beq k o then some n else some k
def mvSt (o:Nat) (st:St):Option St :=
 match st.objs[o]? with
 | some x=>match x.ren (mvF o st.objs.length),gcObjs (mvF o st.objs.length) (st.objs.set o .dead) (List.range st.objs.length),renS (mvF o st.objs.length) st.slots with
  | some y,some os,some sl=>some ⟨sl,os++[y],st.nt⟩
  | _,_,_=>none
 | none=>none
theorem wk_mv {P:Program} {base:Nat} {st st':St} (o:Nat) (h:mvSt o st=some st') (hs:st.objs.all simpO=true) (hs':st'.objs.all simpO=true) (hbig:Nat.blt st.objs.length BIG=true):Wk P base st st':=by
 have hbig:=of_blt hbig
 unfold mvSt at h
 split at h
 ·rename_i x hx
  have ho:o < st.objs.length:=(List.getElem?_eq_some_iff.1 hx).1
  split at h
  ·rename_i y os sl hy hos hsl
   cases h
   have hs:=List.all_eq_true.1 hs
   have hs':=List.all_eq_true.1 hs'
   obtain ⟨hl,hat⟩:=gcObjs_at hos
   rw [List.length_range] at hl
   intro B W0 D0 dl M ι a W hsim
   have hσ:sto st.objs=fun k=>st.objs[k]?:=funext (sto_simp hs (by omega))
   have hlen':(os++[y]).length=st.objs.length+1:=by simp [hl]
   have hσ':sto (os++[y])=fun k=>(os++[y])[k]?:=funext (sto_simp hs' (by omega))
   have hno:∀k,¬ InB st.objs.length k→ι k=none:=hsim.new
   have hn:ι st.objs.length=none:=hno _ (fun hk=>by
    rcases hk with hk | ⟨j,i,_,e⟩
    ·omega
    ·have:=fid_big j i; omega)
   have hf:∀k k' p,mvF o st.objs.length k=some k'→ι k=some p→(fun k=>if k=st.objs.length then ι o else ι k) k'=some p:=fun k k' p h1 h2=>by
    unfold mvF at h1
    split at h1
    ·rename_i e
     have:=Nat.eq_of_beq_eq_true e
     cases h1; subst this
     simp only [if_true]; exact h2
    ·cases h1
     by_cases e:k=st.objs.length
     ·subst e; rw [hn] at h2; cases h2
     ·simp only [if_neg e]; exact h2
   have hcase:∀k x',(os++[y])[k]?=some x'→(k=st.objs.length∧x'=y)∨(k < st.objs.length∧∃z,(st.objs.set o .dead)[k]?=some z∧z.ren (mvF o st.objs.length)=some x'):=fun k x' hk=>by
    by_cases e:k < os.length
    ·rw [List.getElem?_append_left e] at hk
     obtain ⟨k0,z,h1,h2,h3⟩:=hat k _ hk
     have hkl:k < st.objs.length:=by omega
     have:k0=k:=by
      rw [List.getElem?_eq_getElem (by simpa using hkl)] at h1
      simpa using h1.symm
     subst this
     exact .inr ⟨hkl,z,h2,h3⟩
    ·rw [List.getElem?_append_right (by omega)] at hk
     have:=(List.getElem?_eq_some_iff.1 hk).1
     simp at this
     have e0:k - os.length=0:=by omega
     rw [e0] at hk
     simp at hk
     exact .inl ⟨by omega,hk.symm⟩
   refine ⟨M,fun k=>if k=st.objs.length then ι o else ι k,.refl _ _,fun k p hk hp=>?_,?_,fun t z hz=>?_,hsim.nt,hsim.df,fun k hk=>?_,by show (os++[y]).length≤BIG; omega⟩
   ·by_cases e:k=st.objs.length
    ·subst e; rw [hn] at hp; cases hp
    ·simp only [if_neg e]; exact hp
   ·show Rel P B W0 (dl++D0) M _ (sto (os++[y])) W
    have rel:=hsim.rel
    rw [hσ] at rel
    rw [hσ']
    have plainOf:∀z∈os++[y],z.isPlain=true:=fun z hz=>by
     have:=hs' z hz
     cases z <;> first | rfl | cases this
    refine rel.via (fun k=>if k=o then none else if k=st.objs.length then some o else some k) (fun k k' j h1 h2=>?_) (fun k j hk=>?_) (fun k x' hk hd=>?_) (fun k hk=>?_)
    ·by_cases e1:k=o
     ·simp [e1] at h1
     ·by_cases e2:k'=o
      ·simp [e2] at h2
      ·simp only [if_neg e1] at h1
       simp only [if_neg e2] at h2
       split at h1 <;> split at h2 <;> cases h1 <;> cases h2
       ·omega
       ·exact absurd rfl e2
       ·exact absurd rfl e1
       ·rfl
    ·by_cases e1:k=o
     ·simp [e1] at hk
     ·simp only [if_neg e1] at hk
      split at hk
      ·rename_i e; cases hk; simp [e]
      ·rename_i e; cases hk; simp [e]
    ·rcases hcase k x' hk with ⟨rfl,rfl⟩ | ⟨hkl,z,h1,h2⟩
     ·refine ⟨o,x,by rw [if_neg (by omega)]; simp,hx,?_⟩
      have hxp:x.plain=x:=plain_simp (hs x (List.mem_of_getElem? hx))
      have hyp:x'.isPlain=true:=plainOf x' (List.mem_of_getElem? hk)
      have:=ren_tr (ι':=fun k=>if k=st.objs.length then ι o else ι k) rel (k:=o) (by rw [hxp]; exact hx) hy hf (fun j j' i p _ e=>by rw [hyp] at e; cases e) (by rw [plain_of hyp]; exact hd)
      rwa [hxp,plain_of hyp] at this
     ·by_cases e:o=k
      ·subst e
       rw [List.getElem?_set_self ho] at h1
       cases h1; cases h2; exact absurd rfl hd
      ·rw [List.getElem?_set_ne e] at h1
       refine ⟨k,z,by rw [if_neg (fun h=>e h.symm),if_neg (by omega)],h1,?_⟩
       have hzp:z.plain=z:=plain_simp (hs z (List.mem_of_getElem? h1))
       have hyp:x'.isPlain=true:=plainOf x' (List.mem_of_getElem? hk)
       have:=ren_tr (ι':=fun k=>if k=st.objs.length then ι o else ι k) rel (k:=k) (by rw [hzp]; exact h1) h2 hf (fun j j' i p _ e=>by rw [hyp] at e; cases e) (by rw [plain_of hyp]; exact hd)
       rwa [hzp,plain_of hyp] at this
    ·cases hq:(os++[y])[k]? with
     | none=>exact .inl rfl
     | some x' =>
      right
      rcases hcase k x' hq with ⟨rfl,rfl⟩ | ⟨hkl,z,h1,h2⟩
      ·simp only [if_true] at hk
       rcases rel.used o hk with e | e
       ·rw [hx] at e; cases e
       ·rw [hx] at e; cases e; cases hy; rfl
      ·rw [if_neg (by omega)] at hk
       by_cases e:o=k
       ·subst e
        rw [List.getElem?_set_self ho] at h1
        cases h1; cases h2; rfl
       ·rw [List.getElem?_set_ne e] at h1
        rcases rel.used k hk with e | e
        ·rw [h1] at e; cases e
        ·rw [h1] at e; cases e; cases h2; rfl
   ·obtain ⟨z0,h1,h2⟩:=renS_lk hsl t z hz
    exact (hsim.slots t z0 h1).ren hf h2
   ·have hk':¬ InB (os++[y]).length k:=hk
    have h1:¬ InB st.objs.length k:=fun hh=>hk' (by
     rcases hh with hh | ⟨j,i,hj,rfl⟩
     ·exact .inl (by omega)
     ·exact .inr ⟨j,i,by omega,rfl⟩)
    have h2:k≠st.objs.length:=fun e=>hk' (.inl (by omega))
    show (if k=st.objs.length then ι o else ι k)=none
    rw [if_neg h2]; exact hno k h1
  ·cases h
 ·cases h
end Go.Ab
