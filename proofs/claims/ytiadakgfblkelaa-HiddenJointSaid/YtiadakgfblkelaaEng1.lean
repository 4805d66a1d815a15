/- Rules. No conditions. -/
import Derived.Test.YtiadakgfblkelaaEng0
import Derived.Laws.StructEq
import Derived.ChangeKeysEq
set_option linter.all false
namespace Go.Ab
open Go.RowKit
theorem Inj.noInj_le (ι:Inj):noInj.le ι:=fun _ _ h=>by cases h
theorem Sto.puts_at (σ:Sto):∀(es:List (Nat × AObj)) (k:Nat),(σ.puts es k=σ k∧∀e∈es,e.1≠k)∨∃y,σ.puts es k=some y∧(k,y)∈es
 | [],k=>.inl ⟨rfl,by simp⟩
 | (o,x)::es,k=>by
  rcases Sto.puts_at (σ.put o x) es k with ⟨h1,h2⟩ | ⟨y,h1,h2⟩
  ·by_cases e:k=o
   ·subst e; exact .inr ⟨x,by simp only [Sto.puts]; rw [h1,Sto.put_same],by simp⟩
   ·refine .inl ⟨by simp only [Sto.puts]; rw [h1,Sto.put_ne _ _ e],fun z hz=>?_⟩
    rcases List.mem_cons.1 hz with rfl | hz
    ·exact fun e'=>e e'.symm
    ·exact h2 z hz
  ·exact .inr ⟨y,by simp only [Sto.puts]; exact h1,by simp [h2]⟩
theorem Sto.puts_append (σ:Sto):∀(a b:List (Nat × AObj)),σ.puts (a++b)=(σ.puts a).puts b
 | [],b=>rfl
 | (o,x)::a,b=>by simp only [List.cons_append,Sto.puts]; exact Sto.puts_append _ a b
def Qnv (σ:Sto) (all:List Nat) (k:Nat) (y:AObj):Prop :=
 ∃bx ro nr fl w xs,σ k=some (.row bx ro nr fl w xs) ∧
  ((nr=true∧y=.row bx true true fl w xs)∨∃ys is,Q6 (Qu σ Qs) xs=some (ys,is)∧(∀k∈is,k∈all)∧y=.row bx true true false w ys)
theorem Qvi {σ:Sto} {all:List Nat}:∀{ids:List Nat} {es:List (Nat × AObj)},Qcy σ all ids=some es →
  (∀e∈es,e.1∈ids∧Qnv σ all e.1 e.2)∧∀k∈ids,∃y,(k,y)∈es
 | [],es,h=>by simp [Qcy] at h; subst h; simp
 | o::os,es,h=>by
  simp only [Qcy] at h
  split at h
  ·rename_i bx ro nr fl w xs es' h1 h2
   obtain ⟨g1,g2⟩:=Qvi h2
   have fin:∀y,Qnv σ all o y→es=(o,y)::es'→(∀e∈es,e.1∈o::os∧Qnv σ all e.1 e.2)∧∀k∈o::os,∃y,(k,y)∈es:=by
    rintro y hy rfl
    refine ⟨fun e he=>?_,fun k hk=>?_⟩
    ·rcases List.mem_cons.1 he with rfl | he
     ·exact ⟨by simp,hy⟩
     ·exact ⟨by simp [(g1 e he).1],(g1 e he).2⟩
    ·rcases List.mem_cons.1 hk with rfl | hk
     ·exact ⟨y,by simp⟩
     ·obtain ⟨z,hz⟩:=g2 k hk; exact ⟨z,by simp [hz]⟩
   split at h
   ·rename_i hnr
    cases h
    exact fin _ ⟨bx,ro,nr,fl,w,xs,h1,.inl ⟨hnr,rfl⟩⟩ rfl
   ·split at h
    ·rename_i ys is hm
     split at h
     ·rename_i hall
      cases h
      refine fin _ ⟨bx,ro,nr,fl,w,xs,h1,.inr ⟨ys,is,hm,fun k hk=>?_,rfl⟩⟩ rfl
      have:=List.all_eq_true.1 hall k hk
      simpa using this
     ·cases h
    ·cases h
  ·cases h
section
variable {P:Program} {B:Nat} {W0 W W':World} {D:List Nat} {M:CM} {ι:Inj} {σ:Sto}
theorem Qf5 {ids:List Nat} {es:List (Nat × AObj)} (hf:frz σ ids=some es) (k:Nat):(σ.puts es k=σ k∧k ∉ ids)∨(k∈ids∧∃y,σ.puts es k=some y∧Qnv σ ids k y):=by
 obtain ⟨h1,h2⟩:=Qvi hf
 rcases σ.puts_at es k with ⟨a,b⟩ | ⟨y,a,b⟩
 ·refine .inl ⟨a,fun hk=>?_⟩
  obtain ⟨y,hy⟩:=h2 k hk
  exact b _ hy rfl
 ·exact .inr ⟨(h1 _ b).1,y,a,(h1 _ b).2⟩
theorem Qad (h:Rel P B W0 D M ι σ W) {ids:List Nat} {es:List (Nat × AObj)} (hf:frz σ ids=some es):Rel P B W0 D (Zw M W (inC σ ι ids)) ι (σ.puts es) W:=by
 have hle:=addM_le M W (inC σ ι ids)
 refine ⟨h.size,h.below,h.defs,Qde h.agree,fun k bx1 nr1 fl1 w1 xs1 q j hk hq hj=>?_,?_,?_,?_,?_,?_⟩
 ·rcases Qf5 hf k with ⟨a,hn⟩ | ⟨hin,y,a,bx',ro',nr',fl',w',xs',hσ,hy⟩
  ·rw [a] at hk; exact h.cool _ _ _ _ _ _ _ _ hk hq hj
  ·rw [a] at hk
   rcases hy with ⟨_,rfl⟩ | ⟨_,_,_,_,rfl⟩ <;> cases hk
 ·intro k bx ro nr fl w xs hk
  rcases Qf5 hf k with ⟨a,hn⟩ | ⟨hin,y,a,bx',ro',nr',fl',w',xs',hσ,hy⟩
  ·rw [a] at hk
   obtain ⟨p,hp,hr⟩:=h.row k bx ro nr fl w xs hk
   refine ⟨p,hp,⟨hr.pw,hr.pos,hr.cpos,hr.len,hr.shaped,hr.nr,hr.fl,fun i j x y hi hj=>?_,fun hro=>⟨(hr.own hro).1,fun m hm=>⟨((hr.own hro).2 m hm).1,Qiv ((hr.own hro).2 m hm).2 ?_⟩⟩,fun hro i j x y hi hj=>?_⟩⟩
   ·obtain ⟨v,hv,hrep⟩:=hr.cells i j x y hi hj
    exact ⟨v,hv,hrep.mono hle (Inj.le_refl _)⟩
   ·rintro ⟨o,ho,q,bx2,nr2,fl2,w2,xs2,hσ2,hq,hb,h3,h4⟩
    have hne:k≠o:=fun e=>hn (e ▸ ho)
    subst hro
    obtain ⟨q',hq',hr2⟩:=h.row o bx2 false nr2 fl2 w2 xs2 hσ2
    rw [hq] at hq'; cases hq'
    have hlt:xs2.length*w2≤q.cap*q.w:=by rw [hr2.pw]; exact Nat.mul_le_mul_right _ hr2.len
    have:=h.apart k o _ _ _ _ _ _ _ _ _ _ p q hne hk hσ2 hp hq
    rw [hr.pw] at this
    rcases this with e | e | e
    ·exact e hb
    ·omega
    ·omega
   ·obtain ⟨v,hv,hrep⟩:=hr.imm hro i j x y hi hj
    exact ⟨v,hle _ _ _ hv,hrep.mono hle (Inj.le_refl _)⟩
  ·rw [a] at hk
   obtain ⟨p,hp,hr⟩:=h.row k bx' ro' nr' fl' w' xs' hσ
   have fin:∀(ys:List AV) (fl2:Bool),ys.length=xs'.length→(fl2=true→∀x∈ys,AV.scs x=true)→(∀x∈ys,AV.shaped x w') →
     (∀(i j:Nat) (x y:AV),ys[i]?=some x→x.flat[j]?=some y→∃v,Zw M W (inC σ ι ids) p.blk (p.base+i*w'+j)=some v∧Qa (Zw M W (inC σ ι ids)) noInj v y) →
     Qgq B (Zw M W (inC σ ι ids)) ι W true true fl2 w' ys p:=by
    intro ys fl2 hl hfl hsh hc
    refine ⟨hr.pw,hr.pos,hr.cpos,by rw [hl]; exact hr.len,hsh,fun _=>Qx.2 fun x hx=>?_,hfl,fun i j x y hi hj=>?_,fun hf=>(by cases hf),fun _=>hc⟩
    ·obtain ⟨i,hi,rfl⟩:=List.mem_iff_getElem.1 hx
     have hcells:∀y∈ys[i].flat,AV.nr y=true:=fun y hy=>by
      obtain ⟨j,hj,rfl⟩:=List.mem_iff_getElem.1 hy
      obtain ⟨v,_,hrep⟩:=hc i j _ _ (List.getElem?_eq_getElem hi) (List.getElem?_eq_getElem hj)
      exact hrep.nr_of_noInj
     rcases (hsh _ hx).form with e | e
     ·rw [e]; simp only [AV.nr,Qx]; exact hcells
     ·exact hcells _ (by rw [AV.flat_cell e]; simp)
    ·obtain ⟨v,hv,hrep⟩:=hc i j x y hi hj
     exact ⟨v,Qde h.agree _ _ _ hv,hrep.mono (CM.le_refl _) (Inj.noInj_le _)⟩
   rcases hy with ⟨hnr,rfl⟩ | ⟨ys,is,hm,hsub,rfl⟩
   ·cases hk
    refine ⟨p,hp,fin _ _ rfl hr.fl hr.shaped (fun i j x y hi hj=>?_)⟩
    obtain ⟨v,hv,_,hrep⟩:=h.content hσ hp hin hi hj
    exact ⟨v,hv,(hrep.of_nr (ι':=noInj) (AV.nr_flat (Qx.1 (hr.nr hnr) x (List.mem_of_getElem? hi)) y (List.mem_of_getElem? hj))).mono hle (Inj.le_refl _)⟩
   ·cases hk
    refine ⟨p,hp,fin _ _ (Jm hm).1 (by simp) (fun y hy=>?_) (fun i j x y hi hj=>?_)⟩
    ·obtain ⟨i,hi,rfl⟩:=List.mem_iff_getElem.1 hy
     obtain ⟨x,is',e1,e2,e3⟩:=Xs hm (List.getElem?_eq_getElem hi)
     exact (Kh e2 (hr.shaped x (List.mem_of_getElem? e1))).1
    ·obtain ⟨x0,is',e1,e2,e3⟩:=Xs hm hi
     obtain ⟨c,d',is2,f1,f2,f3,f4⟩:=(Kh e2 (hr.shaped x0 (List.mem_of_getElem? e1))).2 j y hj
     obtain ⟨u,hu,_,hrep⟩:=h.content hσ hp hin e1 f1
     exact ⟨u,hu,Ys h ids d' c y is2 u f3 (fun k hk=>hsub k (e3 k (f4 k hk))) hrep⟩
 ·intro k fn sl ps as bd st pe hk
  rcases Qf5 hf k with ⟨a,hn⟩ | ⟨hin,y,a,bx',ro',nr',fl',w',xs',hσ,hy⟩
  ·rw [a] at hk
   obtain ⟨q,nt,hq,hnt,hb,tmps,hsz,hrec,hsl⟩:=h.loop k fn sl ps as bd st pe hk
   exact ⟨q,nt,hq,hnt,hb,tmps,hsz,hrec,Qae hle (Inj.le_refl _) hsl⟩
  ·rw [a] at hk
   rcases hy with ⟨_,rfl⟩ | ⟨_,_,_,_,rfl⟩ <;> cases hk
 ·intro k k' bx1 nr1 fl1 w1 xs1 bx2 nr2 fl2 w2 xs2 q q' hkk h1 h2 hq hq'
  have g:∀k bx1 nr1 fl1 w1 xs1,σ.puts es k=some (.row bx1 false nr1 fl1 w1 xs1)→σ k=some (.row bx1 false nr1 fl1 w1 xs1):=fun k _ _ _ _ _ hk=>by
   rcases Qf5 hf k with ⟨a,hn⟩ | ⟨hin,y,a,bx',ro',nr',fl',w',xs',hσ,hy⟩
   ·rw [←a]; exact hk
   ·rw [a] at hk
    rcases hy with ⟨_,rfl⟩ | ⟨_,_,_,_,rfl⟩ <;> cases hk
  exact h.apart _ _ _ _ _ _ _ _ _ _ _ _ _ _ hkk (g _ _ _ _ _ _ h1) (g _ _ _ _ _ _ h2) hq hq'
 ·intro k k' fn sl ps as bd st pe fn' sl' ps' as' bd' st' pe' q q' hkk h1 h2 hq hq'
  have g:∀k fn sl ps as bd st pe,σ.puts es k=some (.loop fn sl ps as bd st pe)→σ k=some (.loop fn sl ps as bd st pe):=fun k _ _ _ _ _ _ _ hk=>by
   rcases Qf5 hf k with ⟨a,hn⟩ | ⟨hin,y,a,bx',ro',nr',fl',w',xs',hσ,hy⟩
   ·rw [←a]; exact hk
   ·rw [a] at hk
    rcases hy with ⟨_,rfl⟩ | ⟨_,_,_,_,rfl⟩ <;> cases hk
  exact h.loops _ _ _ _ _ _ _ _ _ _ _ _ _ _ _ _ _ _ hkk (g _ _ _ _ _ _ _ _ h1) (g _ _ _ _ _ _ _ _ h2) hq hq'
 ·intro k hk
  rcases Qf5 hf k with ⟨a,hn⟩ | ⟨hin,y,a,bx',ro',nr',fl',w',xs',hσ,hy⟩
  ·rw [a]; exact h.used k hk
  ·obtain ⟨p,hp,_⟩:=h.row k bx' ro' nr' fl' w' xs' hσ
   rw [hk] at hp; cases hp
structure CM.Grow (B:Nat) (M M':CM):Prop where
 le:M.le M'
 old:∀b k,b < B→M' b k=M b k
 keep:M'.blk=M.blk
 keepC:M'.kc=M.kc
 keepF:∀b o v,M.kc b o=some v→M' b o=M b o
theorem CM.Grow.refl (B:Nat) (M:CM):CM.Grow B M M:=⟨CM.le_refl M,fun _ _ _=>rfl,rfl,rfl,fun _ _ _ _=>rfl⟩
theorem CM.Grow.trans {B:Nat} {M M' M'':CM} (h:CM.Grow B M M') (k:CM.Grow B M' M''):CM.Grow B M M'' :=
 ⟨CM.le_trans h.le k.le,fun b o hb=>(k.old b o hb).trans (h.old b o hb),k.keep.trans h.keep,k.keepC.trans h.keepC,fun b o v hv=>(k.keepF b o v (by rw [h.keepC]; exact hv)).trans (h.keepF b o v hv)⟩
theorem CM.Grow.mono {B B':Nat} {M M':CM} (h:CM.Grow B M M') (hB:B'≤B):CM.Grow B' M M':=⟨h.le,fun b o hb=>h.old b o (by omega),h.keep,h.keepC,h.keepF⟩
theorem Rel.growC (h:Rel P B W0 D M ι σ W) (ids:List Nat):CM.Grow B M (Zw M W (inC σ ι ids)) :=
 ⟨addM_le _ _ _,fun b k hb=>by
  cases hm:M b k with
  | some v=>exact addM_le _ _ _ _ _ _ hm
  | none =>
   refine Qiv hm ?_
   rintro ⟨o,ho,p,bx,nr,fl,w,xs,hσ,hp,rfl,_⟩
   obtain ⟨q,hq,hr⟩:=h.row o bx false nr fl w xs hσ
   rw [hp] at hq; cases hq
   have:=(hr.own rfl).1
   omega,rfl,rfl,fun b o v hv=>by
  cases hm:M b o with
  | some u=>exact addM_le _ _ _ _ _ _ hm
  | none =>
   refine Qiv hm ?_
   rintro ⟨k,ho,p,bx,nr,fl,w,xs,hσ,hp,rfl,h1,h2⟩
   obtain ⟨q,hq,hr⟩:=h.row k bx false nr fl w xs hσ
   rw [hp] at hq; cases hq
   have h3:xs.length*w≤p.cap*w:=Nat.mul_le_mul_right _ hr.len
   have:=(h.cool k bx nr fl w xs p (o - p.base) hσ hp (by omega)).2
   rw [show p.base+(o - p.base)=o by omega,hv] at this; cases this⟩
def Zd (P:Program) (f:FuncId) (args:List AV) (out:Xp):Prop :=
 ∀(W:World) (M:CM) (vs:Array Value),(Qaw M W)→vs.size=args.length →
  (∀(j:Nat) (v:Value) (a:AV),vs[j]?=some v→args[j]?=some a→Qa M noInj v a) →
  Calls P f vs W fun e W'=>match out with
   | .ret r objs=>∃v M' ι',e=.returned v∧CM.Grow W.heap.size M M'∧Rel P W.heap.size W [] M' ι' (fun k=>objs[k]?) W'∧(∀k,objs.length≤k→ι' k=none)∧Qa M' ι' v r
   | .pan pv=>∃v M',e=.panicked [{ v,recovered:=false }]∧CM.Grow W.heap.size M M'∧Rel P W.heap.size W [] M' noInj (fun _=>none) W'∧Qa M' noInj v pv
def Qi2 (P:Program) (C:FuncId→List AV→Option Xp):Prop:=∀f args out,C f args=some out →
 Zd P f args out∧∃fn,P.funcs[f]?=some fn∧fn.body.isSome=true∧(fn.name == "runtime.NumGoroutine")=false
end
end Go.Ab
namespace Go.Ab
open Go.RowKit
theorem Zu (k i:Nat):BIG≤fid k i:=by unfold fid; omega
theorem Y4 {k i k' i':Nat} (h:fid k i=fid k' i'):k=k'∧i=i':=by
 unfold fid at h
 have h:(k+i)*(k+i)+i=(k'+i')*(k'+i')+i':=by omega
 have key:∀s s' a b:Nat,a≤s→s < s'→s*s+a < s'*s'+b:=fun s s' a b ha hs=>by
  have h1:(s+1)*(s+1)≤s'*s':=Nat.mul_le_mul hs hs
  have h2:(s+1)*(s+1)=s*s+s+s+1:=by rw [Nat.add_mul,Nat.mul_add]; omega
  omega
 have hs:k+i=k'+i':=by
  rcases Nat.lt_trichotomy (k+i) (k'+i') with e | e | e
  ·have:=key _ _ i i' (by omega) e; omega
  ·exact e
  ·have:=key _ _ i' i (by omega) e; omega
 rw [hs] at h
 exact ⟨by omega,by omega⟩
open Classical in
noncomputable def Qcf (objs:List AObj) (id:Nat):Option AObj :=
 if h:∃(y:AObj) (k i w:Nat) (fl:Bool) (xs:List (List AV)) (l:List AV),id=fid k i∧objs[k]?=some (.fam w fl xs)∧xs[i]?=some l∧y=.row false false true fl w l then some h.choose else none
noncomputable def sto (objs:List AObj):Sto:=fun id=>if Nat.blt id BIG then (objs[id]?).map AObj.plain else Qcf objs id
theorem Qj8 {a b:Nat} (h:b≤a):Nat.blt a b=false:=by
 rw [Bool.eq_false_iff]; intro e
 have:a+1≤b:=Nat.le_of_ble_eq_true e
 omega
theorem Qn2 {a b:Nat} (h:a < b):Nat.blt a b=true:=Nat.ble_eq_true_of_le h
theorem Yc {a b:Nat} (h:Nat.blt a b=true):a < b:=Nat.le_of_ble_eq_true h
theorem Zr {objs:List AObj} {id:Nat} (h:id < BIG):sto objs id=(objs[id]?).map AObj.plain:=by unfold sto; rw [if_pos (Qn2 h)]
theorem Qni {objs:List AObj} {id:Nat} (h:BIG≤id):sto objs id=Qcf objs id:=by unfold sto; rw [if_neg (by rw [Qj8 h]; simp)]
theorem Qk2 {objs:List AObj} {id:Nat} {y:AObj} (h:Qcf objs id=some y):∃(k i w:Nat) (fl:Bool) (xs:List (List AV)) (l:List AV),id=fid k i∧objs[k]?=some (.fam w fl xs)∧xs[i]?=some l∧y=.row false false true fl w l:=by
 unfold Qcf at h
 split at h
 ·rename_i hx
  obtain ⟨k,i,w,fl,xs,l,h1,h2,h3,h4⟩:=hx.choose_spec
  simp only [Option.some.injEq] at h
  exact ⟨k,i,w,fl,xs,l,h1,h2,h3,by rw [←h]; exact h4⟩
 ·cases h
theorem Qxi {objs:List AObj} {k i w:Nat} {fl:Bool} {xs:List (List AV)} {l:List AV} (h1:objs[k]?=some (.fam w fl xs)) (h2:xs[i]?=some l):Qcf objs (fid k i)=some (.row false false true fl w l):=by
 have hex:∃(y:AObj) (k' i' w:Nat) (fl:Bool) (xs:List (List AV)) (l:List AV),fid k i=fid k' i'∧objs[k']?=some (.fam w fl xs)∧xs[i']?=some l∧y=.row false false true fl w l:=⟨_,k,i,w,fl,xs,l,rfl,h1,h2,rfl⟩
 unfold Qcf
 rw [dif_pos hex]
 obtain ⟨k',i',w',fl',xs',l',e1,e2,e3,e4⟩:=hex.choose_spec
 obtain ⟨rfl,rfl⟩:=Y4 e1
 rw [h1] at e2; cases e2
 rw [h2] at e3; cases e3
 rw [e4]
theorem Xb {objs:List AObj} {k i w:Nat} {fl:Bool} {xs:List (List AV)} {l:List AV} (h1:objs[k]?=some (.fam w fl xs)) (h2:xs[i]?=some l):sto objs (fid k i)=some (.row false false true fl w l):=by
 rw [Qni (Zu k i)]; exact Qxi h1 h2
theorem Qo6 {objs:List AObj} {k i:Nat} (h:∀w fl xs l,objs[k]?=some (.fam w fl xs)→xs[i]?=some l→False):sto objs (fid k i)=none:=by
 rw [Qni (Zu k i)]
 cases hx:Qcf objs (fid k i) with
 | none=>rfl
 | some y =>
  obtain ⟨k',i',w,fl,xs,l,e1,e2,e3,_⟩:=Qk2 hx
  obtain ⟨rfl,rfl⟩:=Y4 e1
  exact (h w fl xs l e2 e3).elim
theorem Yg (objs:List AObj) (id:Nat):(id < BIG∧sto objs id=(objs[id]?).map AObj.plain)∨(BIG≤id∧((∃k i w fl xs l,id=fid k i∧objs[k]?=some (.fam w fl xs)∧xs[i]?=some l∧sto objs id=some (.row false false true fl w l))∨sto objs id=none)):=by
 rcases Nat.lt_or_ge id BIG with h | h
 ·exact .inl ⟨h,Zr h⟩
 ·refine .inr ⟨h,?_⟩
  rw [Qni h]
  cases hx:Qcf objs id with
  | none=>exact .inr rfl
  | some y =>
   obtain ⟨k,i,w,fl,xs,l,e1,e2,e3,e4⟩:=Qk2 hx
   exact .inl ⟨k,i,w,fl,xs,l,e1,e2,e3,by rw [e4]⟩
def AObj.isFam:AObj→Bool
 | .fam _ _ _=>true
 | _=>false
def AObj.isPlain:AObj→Bool
 | .fam _ _ _ | .refs _ _=>false
 | _=>true
theorem Qfz {x:AObj} (h:x.isPlain=true):x.plain=x:=by cases x <;> simp_all [AObj.isPlain,AObj.plain]
theorem Qdd {objs objs':List AObj} (h:∀(k w:Nat) (fl:Bool) (xs:List (List AV)),objs'[k]?=some (AObj.fam w fl xs)↔objs[k]?=some (AObj.fam w fl xs)) {id:Nat} (hb:BIG≤id):sto objs' id=sto objs id:=by
 rcases Yg objs id with ⟨c,_⟩ | ⟨_,⟨k,i,w,fl,xs,l,rfl,e2,e3,e4⟩ | e⟩
 ·omega
 ·rw [e4]; exact Xb ((h _ _ _ _).2 e2) e3
 ·rw [e]
  rcases Yg objs' id with ⟨c,_⟩ | ⟨_,⟨k,i,w,fl,xs,l,rfl,e2,e3,e4⟩ | e'⟩
  ·omega
  ·rw [Xb ((h _ _ _ _).1 e2) e3] at e; cases e
  ·exact e'
theorem Qci {objs:List AObj} {o:Nat} {x y:AObj} (ho:objs[o]?=some y) (hy:y.isFam=false) (hx:x.isPlain=true) (hb:o < BIG):sto (objs.set o x)=(sto objs).put o x:=by
 have hlt:o < objs.length:=(List.getElem?_eq_some_iff.1 ho).1
 funext k
 simp only [Sto.put]
 by_cases e:k=o
 ·subst e; rw [if_pos rfl,Zr hb]; simp [hlt,Qfz hx]
 ·rw [if_neg e]
  rcases Nat.lt_or_ge k BIG with c | c
  ·rw [Zr c,Zr c,List.getElem?_set_ne (Ne.symm e)]
  ·refine Qdd (fun j w fl xs=>?_) c
   by_cases ej:j=o
   ·subst ej
    rw [ho]
    simp only [List.getElem?_set_self hlt,Option.some.injEq]
    exact ⟨fun q=>(by subst q; cases hx),fun q=>(by subst q; cases hy)⟩
   ·rw [List.getElem?_set_ne (Ne.symm ej)]
theorem Qid {objs:List AObj} {x:AObj} (hx:x.isPlain=true) (hb:objs.length < BIG):sto (objs++[x])=(sto objs).put objs.length x:=by
 funext k
 simp only [Sto.put]
 by_cases e:k=objs.length
 ·subst e; rw [if_pos rfl,Zr hb]; simp [Qfz hx]
 ·rw [if_neg e]
  have hk:∀j:Nat,j≠objs.length→(objs++[x])[j]?=objs[j]?:=fun j e=>by
   rcases Nat.lt_or_ge j objs.length with hk | hk
   ·rw [List.getElem?_append_left hk]
   ·rw [List.getElem?_append_right hk,List.getElem?_eq_none (by simp; omega),List.getElem?_eq_none hk]
  rcases Nat.lt_or_ge k BIG with c | c
  ·rw [Zr c,Zr c,hk k e]
  ·refine Qdd (fun j w fl xs=>?_) c
   by_cases ej:j=objs.length
   ·subst ej
    rw [List.getElem?_append_right (Nat.le_refl _),List.getElem?_eq_none (Nat.le_refl objs.length)]
    simp only [Nat.sub_self,List.getElem?_cons_zero,Option.some.injEq]
    exact ⟨fun q=>(by subst q; cases hx),fun q=>(by cases q)⟩
   ·rw [hk j ej]
theorem Q2w:sto []=fun _=>none:=by
 funext k
 rcases Yg [] k with ⟨_,e⟩ | ⟨_,⟨j,i,w,fl,xs,l,_,e2,_⟩ | e⟩
 ·rw [e]; rfl
 ·cases e2
 ·exact e
theorem Q27 {objs:List AObj} {o i w:Nat} {fl:Bool} {xs:List (List AV)} {l l':List AV} (ho:objs[o]?=some (.fam w fl xs)) (hi:xs[i]?=some l) :
  sto (objs.set o (.fam w fl (xs.set i l')))=(sto objs).put (fid o i) (.row false false true fl w l'):=by
 have hlt:o < objs.length:=(List.getElem?_eq_some_iff.1 ho).1
 have hli:i < xs.length:=(List.getElem?_eq_some_iff.1 hi).1
 funext k
 simp only [Sto.put]
 have hset:(objs.set o (AObj.fam w fl (xs.set i l')))[o]?=some (AObj.fam w fl (xs.set i l')):=List.getElem?_set_self hlt
 by_cases e:k=fid o i
 ·subst e; rw [if_pos rfl]; exact Xb hset (List.getElem?_set_self hli)
 ·rw [if_neg e]
  rcases Nat.lt_or_ge k BIG with c | c
  ·rw [Zr c,Zr c]
   by_cases ek:k=o
   ·subst ek; rw [ho]; simp [hlt,AObj.plain]
   ·rw [List.getElem?_set_ne (Ne.symm ek)]
  ·have back:∀j v w' fl' ys z,k=fid j v→(objs.set o (AObj.fam w fl (xs.set i l')))[j]?=some (.fam w' fl' ys)→ys[v]?=some z→sto objs k=some (.row false false true fl' w' z):=fun j v w' fl' ys z e1 e2 e3=>by
    subst e1
    by_cases ej:j=o
    ·subst ej
     simp only [List.getElem?_set_self hlt,Option.some.injEq] at e2
     cases e2
     have hv:v≠i:=fun q=>e (by rw [q])
     rw [List.getElem?_set_ne (Ne.symm hv)] at e3
     exact Xb ho e3
    ·rw [List.getElem?_set_ne (Ne.symm ej)] at e2; exact Xb e2 e3
   rcases Yg (objs.set o (AObj.fam w fl (xs.set i l'))) k with ⟨c',_⟩ | ⟨_,⟨j,v,w',fl',ys,z,e1,e2,e3,e4⟩ | e4⟩
   ·omega
   ·rw [e4,back j v w' fl' ys z e1 e2 e3]
   ·rw [e4]
    rcases Yg objs k with ⟨c',_⟩ | ⟨_,⟨j,v,w',fl',ys,z,e1,e2,e3,e5⟩ | e5⟩
    ·omega
    ·exfalso
     subst e1
     by_cases ej:j=o
     ·subst ej
      rw [ho] at e2; cases e2
      have hv:v≠i:=fun q=>e (by rw [q])
      rw [Xb (k:=j) (i:=v) hset (by rw [List.getElem?_set_ne (Ne.symm hv)]; exact e3)] at e4
      cases e4
     ·rw [Xb (k:=j) (i:=v) (by rw [List.getElem?_set_ne (Ne.symm ej)]; exact e2) e3] at e4; cases e4
    ·rw [e5]
theorem Y0 (k:Nat):∀(i:Nat) (xs:List (List AV)),(Zk k i xs).length=xs.length
 | _,[]=>rfl
 | i,l::r=>by simp [Zk,Y0 k (i+1) r]
theorem Va (k:Nat):∀(i:Nat) (xs:List (List AV)) (j:Nat),(Zk k i xs)[j]?=(xs[j]?).map fun l=>.ref (fid k (i+j)) 0 l.length
 | _,[],j=>by simp [Zk]
 | i,l::r,0=>by simp [Zk]
 | i,l::r,j+1=>by
  simp only [Zk,List.getElem?_cons_succ]
  rw [Va k (i+1) r j,show i+1+j=i+(j+1) by omega]
def InB (n id:Nat):Prop:=id < n∨∃k i,k < n∧id=fid k i
theorem InB.mono {n m id:Nat} (h:InB n id) (hm:n≤m):InB m id:=by
 rcases h with h | ⟨k,i,h,e⟩
 ·exact .inl (by omega)
 ·exact .inr ⟨k,i,by omega,e⟩
theorem InB.not {n id:Nat} (h:n≤id) (hb:id < BIG):¬ InB n id:=by
 rintro (c | ⟨k,i,_,e⟩)
 ·omega
 ·have:=Zu k i; omega
section
variable {P:Program} {B:Nat} {W0 W:World} {D:List Nat} {M:CM} {ι:Inj} {σ:Sto}
theorem Qbt {xs:List AV} {o:Nat}:o∈AV.idsL xs↔∃x∈xs,o∈x.ids:=by
 induction xs with
 | nil=>simp [AV.idsL]
 | cons x xs ih=>simp [AV.idsL,ih]
theorem Qa.congr {M:CM} {ι ι':Inj} {v:Value} {a:AV} (h:Qa M ι v a) (hi:∀o∈a.ids,ι' o=ι o):Qa M ι' v a:=by
 induction h generalizing ι' with
 | undef h=>exact .undef h
 | bool b=>exact .bool b
 | int k n=>exact .int k n
 | str s=>exact .str s
 | nilp=>exact .nilp
 | nils=>exact .nils
 | nilf=>exact .nilf
 | nilm=>exact .nilm
 | nili=>exact .nili
 | emp a=>exact .emp a
 | emn a c=>exact .emn a c
 | lin o i n h ih=>exact .lin o i n (ih (by simpa [AV.ids] using hi))
 | lst0 a fl=>exact .lst0 a fl
 | ref0 a o p hp hc=>exact .ref0 a o p (by rw [hi o (by simp [AV.ids])]; exact hp) hc
 | fz b off cs f hcs hm hr ih=>exact .fz b off cs f hcs hm hr
 | lst b off cap w fl xs f hcap hfl hc hm hr ih=>exact .lst b off cap w fl xs f hcap hfl hc hm hr
 | ref o i n p off cap hp h1 h2 h3=>exact .ref o i n p off cap (by rw [hi o (by simp [AV.ids])]; exact hp) h1 h2 h3
 | ptr o i c p hp=>exact .ptr o i c p (by rw [hi o (by simp [AV.ids])]; exact hp)
 | mp o p hp=>exact .mp o p (by rw [hi o (by simp [AV.ids])]; exact hp)
 | yld o p hp=>exact .yld o p (by rw [hi o (by simp [AV.ids])]; exact hp)
 | ifc t v' v hr ih=>exact .ifc t v' v (ih (fun o ho=>hi o (by simpa [AV.ids] using ho)))
 | fn f first' caps' first caps hy hm h1 h2 hr1 hr2 ih1 ih2 =>
  exact .fn f first' caps' first caps hy hm h1 h2 (fun j v y a b=>ih1 j v y a b (fun o ho=>hi o (by simp only [AV.ids,List.mem_append,Qbt]; exact .inl ⟨y,List.mem_of_getElem? b,ho⟩)))
   (fun j v y a b=>ih2 j v y a b (fun o ho=>hi o (by simp only [AV.ids,List.mem_append,Qbt]; exact .inr ⟨y,List.mem_of_getElem? b,ho⟩)))
 | agg cs' cs h hc hr ih=>exact .agg cs' cs h hc (fun j v y a b=>ih j v y a b (fun o ho=>hi o (by simp only [AV.ids,Qbt]; exact ⟨y,List.mem_of_getElem? b,ho⟩)))
 | tup vs' vs h hr ih=>exact .tup vs' vs h (fun j v y a b=>ih j v y a b (fun o ho=>hi o (by simp only [AV.ids,Qbt]; exact ⟨y,List.mem_of_getElem? b,ho⟩)))
structure TrE (M:CM) (ι ι':Inj) (x x':AV):Prop where
 shaped:∀w,x.shaped w→x'.shaped w
 scs:x.scs=true→x'.scs=true
 cells:∀(j:Nat) (y':AV),x'.flat[j]?=some y'→∃y,x.flat[j]?=some y∧(∀v,Qa M ι v y→Qa M ι' v y')∧∀v,Qa M noInj v y→Qa M noInj v y'
inductive TrO (M:CM) (ι ι':Inj):AObj→AObj→Prop
 | row (bx ro nr fl:Bool) (w:Nat) (xs xs':List AV) (hl:xs'.length=xs.length) (hnr:nr=true→AV.nrL xs=true→AV.nrL xs'=true) (h:∀(i:Nat) (x x':AV),xs[i]?=some x→xs'[i]?=some x'→TrE M ι ι' x x'):TrO M ι ι' (.row bx ro nr fl w xs) (.row bx ro nr fl w xs')
 | loop (nt:Nat) (sl sl':List (Nat × AV)) (ps:List Tmp) (as bd:Code) (st:LoopState) (pe:Option Code) (h:∀t y',lk sl' t=some y'→∃y,lk sl t=some y∧∀v,Qa M ι v y→Qa M ι' v y'):TrO M ι ι' (.loop nt sl ps as bd st pe) (.loop nt sl' ps as bd st pe)
theorem Rel.via {σ':Sto} {ι':Inj} (h:Rel P B W0 D M ι σ W) (g:Nat → Option Nat) (hinj:∀o o' k,g o=some k→g o'=some k→o=o') (hι:∀o k,g o=some k→ι' o=ι k)
  (hobj:∀o x',σ' o=some x'→x'≠.dead→∃k x,g o=some k∧σ k=some x∧TrO M ι ι' x x') (hused:∀o,ι' o=none→σ' o=none∨σ' o=some .dead):Rel P B W0 D M ι' σ' W:=by
 have row:∀o bx ro nr fl w xs',σ' o=some (.row bx ro nr fl w xs')→∃k xs p,g o=some k∧σ k=some (.row bx ro nr fl w xs)∧ι k=some p∧ι' o=some p∧Qgq B M ι W ro nr fl w xs p∧xs'.length=xs.length∧(nr=true→AV.nrL xs=true→AV.nrL xs'=true) ∧
   ∀(i:Nat) (x x':AV),xs[i]?=some x→xs'[i]?=some x'→TrE M ι ι' x x':=by
  intro o bx ro nr fl w xs' ho
  obtain ⟨k,x,h1,h2,h3⟩:=hobj o _ ho (by simp)
  cases h3 with
  | row _ _ _ _ _ xs _ hl hnr ht =>
   obtain ⟨p,hp,hr⟩:=h.row k _ _ _ _ _ _ h2
   exact ⟨k,xs,p,h1,h2,hp,by rw [hι o k h1]; exact hp,hr,hl,hnr,ht⟩
 have loop:∀o fn sl' ps as bd st pe,σ' o=some (.loop fn sl' ps as bd st pe)→∃k sl,g o=some k∧σ k=some (.loop fn sl ps as bd st pe)∧∀t y',lk sl' t=some y'→∃y,lk sl t=some y∧∀v,Qa M ι v y→Qa M ι' v y':=by
  intro o fn sl' ps as bd st pe ho
  obtain ⟨k,x,h1,h2,h3⟩:=hobj o _ ho (by simp)
  cases h3 with
  | loop _ sl _ _ _ _ _ _ ht=>exact ⟨k,sl,h1,h2,ht⟩
 refine ⟨h.size,h.below,h.defs,h.agree,fun k bx1 nr1 fl1 w1 xs1 q j hk hq hj=>?_,?_,?_,?_,?_,hused⟩
 ·obtain ⟨m,xs,p,h1,h2,h3,h4,hr,hl,hnr,ht⟩:=row k _ _ _ _ _ _ hk
  rw [h4] at hq; cases hq
  exact h.cool _ _ _ _ _ _ _ _ h2 h3 hj
 ·intro o bx ro nr fl w xs' ho
  obtain ⟨k,xs,p,h1,h2,h3,h4,hr,hl,hnr,ht⟩:=row o bx ro nr fl w xs' ho
  have back:∀(i:Nat) (x':AV),xs'[i]?=some x'→∃x,xs[i]?=some x∧TrE M ι ι' x x':=fun i x' hi=>by
   have hlt:i < xs.length:=by rw [←hl]; exact (List.getElem?_eq_some_iff.1 hi).1
   exact ⟨_,List.getElem?_eq_getElem hlt,ht i _ _ (List.getElem?_eq_getElem hlt) hi⟩
  refine ⟨p,h4,⟨hr.pw,hr.pos,hr.cpos,by rw [hl]; exact hr.len,fun x' hx'=>?_,fun hn=>hnr hn (hr.nr hn),fun hf x' hx'=>?_,fun i j x' y' hi hj=>?_,hr.own,fun hro i j x' y' hi hj=>?_⟩⟩
  ·obtain ⟨i,hi,rfl⟩:=List.mem_iff_getElem.1 hx'
   obtain ⟨x,hx,t⟩:=back i _ (List.getElem?_eq_getElem hi)
   exact t.shaped w (hr.shaped x (List.mem_of_getElem? hx))
  ·obtain ⟨i,hi,rfl⟩:=List.mem_iff_getElem.1 hx'
   obtain ⟨x,hx,t⟩:=back i _ (List.getElem?_eq_getElem hi)
   exact t.scs (hr.fl hf x (List.mem_of_getElem? hx))
  ·obtain ⟨x,hx,t⟩:=back i x' hi
   obtain ⟨y,hy,t1,_⟩:=t.cells j y' hj
   obtain ⟨v,hv,hrep⟩:=hr.cells i j x y hx hy
   exact ⟨v,hv,t1 v hrep⟩
  ·obtain ⟨x,hx,t⟩:=back i x' hi
   obtain ⟨y,hy,_,t2⟩:=t.cells j y' hj
   obtain ⟨v,hv,hrep⟩:=hr.imm hro i j x y hx hy
   exact ⟨v,hv,t2 v hrep⟩
 ·intro o fn sl' ps as bd st pe ho
  obtain ⟨k,sl,h1,h2,ht⟩:=loop o fn sl' ps as bd st pe ho
  obtain ⟨q,nt,hq,hnt,hb,tmps,hsz,hrec,hsl⟩:=h.loop k fn sl ps as bd st pe h2
  refine ⟨q,nt,by rw [hι o k h1]; exact hq,hnt,hb,tmps,hsz,hrec,fun t y' hy'=>?_⟩
  obtain ⟨y,hy,t1⟩:=ht t y' hy'
  exact t1 _ (hsl t y hy)
 ·intro o o' bx nr fl w xs bx' nr' fl' w' xs' p p' hne ho ho' hp hp'
  obtain ⟨k,ys,q,h1,h2,h3,h4,_⟩:=row o _ _ _ _ _ _ ho
  obtain ⟨k',ys',q',h1',h2',h3',h4',_⟩:=row o' _ _ _ _ _ _ ho'
  rw [hp] at h4; cases h4
  rw [hp'] at h4'; cases h4'
  exact h.apart k k' _ _ _ _ _ _ _ _ _ _ _ _ (fun e=>hne (hinj o o' k h1 (e ▸ h1'))) h2 h2' h3 h3'
 ·intro o o' fn sl ps as bd st pe fn' sl' ps' as' bd' st' pe' p p' hne ho ho' hp hp'
  obtain ⟨k,s1,h1,h2,_⟩:=loop o fn sl ps as bd st pe ho
  obtain ⟨k',s1',h1',h2',_⟩:=loop o' fn' sl' ps' as' bd' st' pe' ho'
  exact h.loops k k' _ _ _ _ _ _ _ _ _ _ _ _ _ _ _ _ (fun e=>hne (hinj o o' k h1 (e ▸ h1'))) h2 h2' (by rw [←hι o k h1]; exact hp) (by rw [←hι o' k' h1']; exact hp')
end
end Go.Ab
namespace Go.Ab
open Go.RowKit
section
variable {P:Program} {B:Nat} {W0 W W':World} {D:List Nat} {M:CM} {ι:Inj} {σ:Sto} {s:Slots} {a:Act}
def Qi (M:CM) (ι:Inj) (s:Slots) (tmps:Array Value):Prop:=∀t x,s t=some x→Qa M ι (tmps.getD t undef) x
theorem Qi.mono {M':CM} {ι':Inj} {tmps:Array Value} (h:Qi M ι s tmps) (hM:M.le M') (hι:ι.le ι'):Qi M' ι' s tmps:=fun t x hx=>(h t x hx).mono hM hι
theorem Qjp {v:Value} {x:AV} (h:Qfr v=some x):Qa M ι v x:=by
 unfold Qfr at h
 split at h <;> first | cases h | skip
 ·exact .bool _
 ·exact .int _ _
 ·exact .str _
 ·exact .nilp
 ·exact .nils
 ·exact .nilf
 ·exact .nilm
 ·exact .nili
 ·exact .fn _ _ _ _ _ (by simp) (by simp) rfl rfl (fun j v y h1 h2=>by simp at h2) (fun j v y h1 h2=>by simp at h2)
 ·rename_i h1 h2
  exact .undef (by cases v <;> first | rfl | (exfalso; exact h1 _ rfl) | (exfalso; exact h2 _ rfl))
theorem Qke {v:Value} {x:AV} (h:Qfr v=some x):x.cell=true:=by
 unfold Qfr at h
 split at h <;> first | cases h; rfl | cases h
theorem Qdt:∀{vs:List Value} {xs:List AV},Qb8 vs=some xs→xs.length=vs.length∧(∀(j:Nat) (v:Value) (y:AV),vs[j]?=some v→xs[j]?=some y→Qa M ι v y)∧∀y∈xs,AV.cell y=true
 | [],xs,h=>by simp [Qb8] at h; subst h; simp
 | v::vs,xs,h=>by
  simp only [Qb8] at h
  split at h
  ·rename_i a as h1 h2
   cases h
   obtain ⟨e1,e2,e3⟩:=Qdt h2
   refine ⟨by simp [e1],fun j u y hu hy=>?_,fun y hy=>?_⟩
   ·cases j with
    | zero=>simp at hu hy; subst hu; subst hy; exact Qjp h1
    | succ j=>exact e2 j u y (by simpa using hu) (by simpa using hy)
   ·rcases List.mem_cons.1 hy with rfl | hy
    ·exact Qke h1
    ·exact e3 y hy
  ·cases h
theorem Qfw {v:Value} {x:AV} (h:Qkf v=some x):Qa M ι v x∧x.shaped v.cells.size:=by
 unfold Qkf at h
 split at h
 ·rename_i cs
  cases hc:Qb8 cs.toList with
  | none=>simp [hc] at h
  | some xs =>
   simp [hc] at h
   subst h
   obtain ⟨e1,e2,e3⟩:=Qdt (M:=M) (ι:=ι) hc
   exact ⟨.agg cs xs (by simpa using e1.symm) e3 (fun j u y hu hy=>e2 j u y (by simpa using hu) hy),⟨.inl rfl,by simpa [AV.flat,Value.cells] using e1,by simpa [AV.flat] using e3⟩⟩
 ·have hc:=Qke h
  have hr:Qa M ι v x:=Qjp h
  refine ⟨hr,⟨.inr hc,?_,fun y hy=>?_⟩⟩
  ·rw [AV.flat_cell hc]
   have:=(hr.cells (.inr hc)).1
   rw [AV.flat_cell hc] at this; exact this.symm
  ·rw [AV.flat_cell hc] at hy; simp at hy; subst hy; exact hc
theorem Qg (hs:Qi M ι s a.tmps) {x:Operand} {y:AV} (h:evo s x=some y):Qa M ι (a.eval x) y:=by
 cases x with
 | tmp t=>exact hs t y h
 | const v=>exact (Qfw (M:=M) (ι:=ι) h).1
 | global g =>
  simp only [evo] at h
  cases hg:Qh1 g with
  | none=>rw [hg] at h; cases h
  | some xs =>
   rw [hg] at h
   simp only [Option.map_eq_some_iff] at h
   obtain ⟨cs,hc,rfl⟩:=h
   obtain ⟨e1,e2,e3⟩:=Qdt (M:=M) (ι:=noInj) hc
   refine .fz g 0 cs (fun j=>xs.getD j undef) e3 (fun j y hy=>?_) (fun j y hy=>?_)
   ·have hj:=(List.getElem?_eq_some_iff.1 hy).1
    rw [Nat.zero_add,show xs.getD j undef=xs[j]'(by omega) by simp [List.getD,show j < xs.length by omega]]
    exact M.ok g xs hg j _ (List.getElem?_eq_getElem (by omega))
   ·have hj:=(List.getElem?_eq_some_iff.1 hy).1
    rw [show xs.getD j undef=xs[j]'(by omega) by simp [List.getD,show j < xs.length by omega]]
    exact e2 j _ y (List.getElem?_eq_getElem (by omega)) hy
 | func f =>
  simp [evo] at h
  subst h
  exact .fn _ _ _ _ _ (by simp) (by simp) rfl rfl (fun j v y h1 h2=>by simp at h2) (fun j v y h1 h2=>by simp at h2)
theorem Vn (hs:Qi M ι s a.tmps):∀{xs:List Operand} {ys:List AV},Jw s xs=some ys→ys.length=xs.length∧∀(j:Nat) (x:Operand) (y:AV),xs[j]?=some x→ys[j]?=some y→evo s x=some y∧Qa M ι (a.eval x) y
 | [],ys,h=>by simp [Jw] at h; subst h; simp
 | x::xs,ys,h=>by
  simp only [Jw] at h
  split at h
  ·rename_i b bs h1 h2
   cases h
   obtain ⟨e1,e2⟩:=Vn hs h2
   refine ⟨by simp [e1],fun j u y hu hy=>?_⟩
   cases j with
   | zero=>simp at hu hy; subst hu; subst hy; exact ⟨h1,Qg hs h1⟩
   | succ j=>exact e2 j u y (by simpa using hu) (by simpa using hy)
  ·cases h
theorem Zy {t:TypeId} {T:TI} (h:ti P t=some T):∃d i,P.underlying t=some d∧P.info? t=some i∧T.kind=Yz d∧T.size=i.size∧T.bytes=i.bytes ∧
  T.agg=Qvx d∧T.zero=i.zero.bind Qkf∧T.eqok=eqDeep P t∧T.fok=(match d with | .struct fs=>fs.toList.all fun f=>(P.info? f.type).isSome | _=>true):=by
 unfold ti at h
 split at h
 ·rename_i d i h1 h2
  cases h
  exact ⟨d,i,h1,h2,rfl,rfl,rfl,rfl,rfl,rfl,rfl⟩
 ·cases h
theorem Qrl {t:TypeId} {i:TypeInfo} (h:P.info? t=some i) (W:World):(typeInfo t).run P W=.ok i W:=by simp [typeInfo,h]
theorem Xv {t:TypeId} {i:TypeInfo} (h:P.info? t=some i) (W:World):(sizeOf t).run P W=.ok i.size W:=by simp [sizeOf,Qrl h]
theorem Qfc {t:TypeId} {T:TI} (h:ti P t=some T) (W:World):(isAgg t).run P W=.ok T.agg W:=by
 obtain ⟨d,i,h1,h2,h3,h4,h5,h6,_⟩:=Zy h
 simp only [isAgg,Sem.run_bind,run_underlying h1,Result.andThen_ok,h6]
 cases d <;> rfl
theorem Zt {d:TypeDesc} {e:TypeId} (h:Yz d=.slice e):d=.slice e:=by cases d <;> simp [Yz] at h; subst h; rfl
theorem Qcw {d:TypeDesc} {n:Nat} {e:TypeId} (h:Yz d=.array n e):d=.array n e:=by cases d <;> simp [Yz] at h; obtain ⟨rfl,rfl⟩:=h; rfl
theorem Qxf {d:TypeDesc} {k:IntKind} (h:Yz d=.int k):d=.int k:=by cases d <;> simp [Yz] at h; subst h; rfl
theorem Qu5 {d:TypeDesc} (h:Yz d=.bool):d=.bool:=by cases d <;> simp [Yz] at h; rfl
theorem Qer {d:TypeDesc} {fs:List (Nat × TypeId)} (h:Yz d=.struct fs):∃gs,d=.struct gs∧fs=gs.toList.map fun f=>(f.offset,f.type):=by cases d <;> simp [Yz] at h; exact ⟨_,rfl,h.symm⟩
theorem Qwc {d:TypeDesc} (h:Yz d=.ptr):∃e,d=.pointer e:=by cases d <;> simp [Yz] at h; exact ⟨_,rfl⟩
theorem Qux {d:TypeDesc} (h:Yz d=.func):∃a b c,d=.func a b c:=by cases d <;> simp [Yz] at h; exact ⟨_,_,_,rfl⟩
theorem Qa.bool_inv {M:CM} {ι:Inj} {v:Value} {b:Bool} (h:Qa M ι v (.bool b)):v=.bool b:=by cases h; rfl
theorem Qa.int_inv {M:CM} {ι:Inj} {v:Value} {k:IntKind} {n:Int} (h:Qa M ι v (.int k n)):v=.int k n:=by cases h; rfl
theorem Qa.nils_inv {M:CM} {ι:Inj} {v:Value} (h:Qa M ι v .nils):v=.slice none 0 0:=by cases h; rfl
theorem Qa.emp_inv {M:CM} {ι:Inj} {v:Value} (h:Qa M ι v .emp):∃a,v=.slice a 0 0:=by cases h; exact ⟨_,rfl⟩
theorem Qa.str_inv {M:CM} {ι:Inj} {v:Value} {x:ByteArray} (h:Qa M ι v (.str x)):v=.string x:=by cases h; rfl
theorem Qfn {M:CM} {ι:Inj} {v:Value} {x:AV} {n:Nat} (h:Qa M ι v x) (hn:asN x=some n):∃k,v=.int k n:=by
 unfold asN at hn
 split at hn
 ·rename_i k m
  split at hn
  ·cases hn
  ·simp only [Option.some.injEq] at hn
   rw [h.int_inv]
   exact ⟨k,by congr; omega⟩
 ·cases hn
theorem Qms {t:TypeId} {T:TI} (ht:ti P t=some T) {cs:List AV} {x:AV} (h:Qbg T cs=some x) (hc:∀y∈cs,AV.cell y=true) :
  (T.agg=true∧T.size≤cs.length∧x=.agg (cs.take T.size))∨(T.agg=false∧∃r,cs=x::r):=by
 unfold Qbg at h
 split at h
 ·rename_i hT
  split at h
  ·cases h; exact .inl ⟨hT,by assumption,rfl⟩
  ·cases h
 ·rename_i hT
  cases cs with
  | nil=>simp at h
  | cons c r=>simp at h; subst h; exact .inr ⟨by simpa using hT,r,rfl⟩
theorem Qdc {t:TypeId} {T:TI} (ht:ti P t=some T) {cs:List AV} {x:AV} (h:Qbg T cs=some x) (hc:∀y∈cs,AV.cell y=true) {b off:Nat}
  (hcell:∀(j:Nat) (y:AV),cs[j]?=some y→∃v,W.cell? ⟨b,off+j,none⟩=some v∧Qa M ι v y) :
  ∃v,(loadVar t ⟨b,off,none⟩).run P W=.ok v W∧Qa M ι v x:=by
 obtain ⟨d,i,h1,h2,h3,h4,_⟩:=Zy ht
 have hadd:∀j,(⟨b,off,none⟩:Addr).add j=⟨b,off+j,none⟩:=fun j=>by unfold Addr.add; split <;> simp_all
 rcases Qms ht h hc with ⟨hT,hlen,rfl⟩ | ⟨hT,r,rfl⟩
 ·have hv:∀j,j < T.size→∃v,W.cell? ⟨b,off+j,none⟩=some v∧∀y,cs[j]?=some y→Qa M ι v y:=fun j hj=>by
   obtain ⟨v,hv,hr⟩:=hcell j cs[j] (List.getElem?_eq_getElem (by omega))
   exact ⟨v,hv,fun y hy=>by rw [List.getElem?_eq_getElem (by omega)] at hy; cases hy; exact hr⟩
  have hrun:=run_loadCells (P:=P) W ⟨b,off,none⟩ T.size (fun j=>(W.cell? ⟨b,off+j,none⟩).getD undef) (fun j hj=>by
   obtain ⟨v,hv,_⟩:=hv j hj
   rw [hadd,hv]; rfl)
  refine ⟨_,by simp only [loadVar,Sem.run_bind,Qfc ht,hT,Result.andThen_ok,if_true,Xv h2,←h4,hrun,Sem.run_pure]; rfl,?_⟩
  refine .agg _ _ (by simp; omega) (fun y hy=>hc y (List.mem_of_mem_take hy)) (fun j v y hv' hy=>?_)
  have hj:j < T.size:=by have:=(List.getElem?_eq_some_iff.1 hy).1; simp at this; omega
  obtain ⟨u,hu,hr⟩:=hv j hj
  rw [List.getElem?_take,if_pos hj] at hy
  simp [hj] at hv'
  rw [hu] at hv'
  simp at hv'; subst hv'
  exact hr y hy
 ·obtain ⟨v,hv,hr⟩:=hcell 0 x rfl
  refine ⟨v,?_,hr⟩
  simp only [loadVar,Sem.run_bind,Qfc ht,hT,Result.andThen_ok,Bool.false_eq_true,if_false]
  rw [run_load]
  simp at hv
  simp [hv]
end
end Go.Ab
namespace Go.Ab
open Go.RowKit
section
variable {P:Program} {B:Nat} {W0 W W':World} {D:List Nat} {M:CM} {ι:Inj} {σ:Sto} {s:Slots} {a:Act}
theorem Qi4 {t:TypeId} {k:SK} (ht:Ki P t=some k) {x y:AV} {b:Bool} (h:Qm2 k x y=some b) {u v:Value} (hu:Qa M ι u x) (hv:Qa M ι v y) (d:Nat) (W:World) :
  (Op.equalIn (d+1) t u v).run P W=.ok b W:=by
 unfold Qm2 at h
 split at h
 ·rw [hu.int_inv,hv.int_inv]
  split at h
  ·rename_i hk
   subst hk
   cases h
   unfold Ki at ht
   split at ht <;> cases ht
   rename_i hd
   exact run_equalIn_int W d t _ _ _ _ hd
  ·cases h
 ·rw [hu.bool_inv,hv.bool_inv]
  cases h
  unfold Ki at ht
  split at ht <;> cases ht
  rename_i hd
  exact run_equalIn_bool' W d t _ _ hd
 ·rw [hu.str_inv,hv.str_inv]
  cases h
  unfold Ki at ht
  split at ht <;> cases ht
  rename_i hd
  exact run_equalIn_string W d t _ _ hd
 ·cases h
theorem Kf {t:TypeId} {k:SK} (ht:Ki P t=some k) {cs:Array Value} {off:Nat} {v:Value} (hv:cs[off]?=some v) (W:World):(part t cs off).run P W=.ok v W:=by
 have hagg:(isAgg t).run P W=.ok false W:=by
  unfold Ki at ht
  split at ht <;> first | cases ht; done | skip
  all_goals
   rename_i hd
   simp [isAgg,run_underlying hd]
 simp [part,hagg,hv]
theorem Qhk {cs cs':Array Value} {as bs:List AV} (hsz:cs.size=as.length) (hsz':cs'.size=bs.length) (hr:∀(j:Nat) (v:Value) (y:AV),cs[j]?=some v→as[j]?=some y→Qa M ι v y)
  (hr':∀(j:Nat) (v:Value) (y:AV),cs'[j]?=some v→bs[j]?=some y→Qa M ι v y) (d:Nat) (W:World) :
  ∀(fs:List Field) (i:Nat) (ks:List SK) (r:Bool),Qaa P i fs=some ks→scEqL ks (as.drop i) (bs.drop i)=some r→(Op.eqFields (d+1) cs cs' fs).run P W=.ok r W
 | [],i,ks,r,hk,he=>by
  simp [Qaa] at hk; subst hk
  cases ha:as.drop i <;> cases hb:bs.drop i <;> simp [ha,hb,scEqL] at he
  subst he; rfl
 | f::fs,i,ks,r,hk,he=>by
  simp only [Qaa] at hk
  split at hk
  ·rename_i hf
   simp only [Bool.and_eq_true,bne_iff_ne,ne_eq,beq_iff_eq] at hf
   split at hk
   ·rename_i k ks' h1 h2
    cases hk
    cases ha:as.drop i with
    | nil=>rw [ha] at he; simp [scEqL] at he
    | cons x xs =>
     cases hb:bs.drop i with
     | nil=>rw [ha,hb] at he; simp [scEqL] at he
     | cons y ys =>
      rw [ha,hb] at he
      simp only [scEqL] at he
      split at he
      ·rename_i p q e1 e2
       cases he
       have hxa:as[i]?=some x:=by have:=List.getElem?_drop (xs:=as) (i:=i) (j:=0); rw [ha] at this; simpa using this.symm
       have hyb:bs[i]?=some y:=by have:=List.getElem?_drop (xs:=bs) (i:=i) (j:=0); rw [hb] at this; simpa using this.symm
       have hi:i < cs.size:=by rw [hsz]; exact (List.getElem?_eq_some_iff.1 hxa).1
       have hi':i < cs'.size:=by rw [hsz']; exact (List.getElem?_eq_some_iff.1 hyb).1
       have hva:=Array.getElem?_eq_getElem hi
       have hvb:=Array.getElem?_eq_getElem hi'
       have hxs:as.drop (i+1)=xs:=by rw [←List.drop_drop,ha]; rfl
       have hys:bs.drop (i+1)=ys:=by rw [←List.drop_drop,hb]; rfl
       have ih:=Qhk hsz hsz' hr hr' d W fs (i+1) ks' q h2 (by rw [hxs,hys]; exact e2)
       simp only [Op.eqFields]
       rw [if_pos hf.1,hf.2]
       simp only [Sem.run_bind,Kf h1 hva,Kf h1 hvb,Result.andThen_ok,Qi4 h1 e1 (hr i _ _ hva hxa) (hr' i _ _ hvb hyb) d W]
       cases p
       ·simp
       ·simpa using ih
      ·cases he
   ·cases hk
  ·cases hk
theorem Qe5 {e:TypeId} {k:SK} (hk:Ki P e=some k) (hc:P.cellsOf e=1) {cs cs':Array Value} {as bs:List AV} (hsz:cs.size=as.length) (hsz':cs'.size=bs.length) (hr:∀(j:Nat) (v:Value) (y:AV),cs[j]?=some v→as[j]?=some y→Qa M ι v y)
  (hr':∀(j:Nat) (v:Value) (y:AV),cs'[j]?=some v→bs[j]?=some y→Qa M ι v y) (d:Nat) (W:World) :
  ∀(n i:Nat) (r:Bool),scEqL (List.replicate n k) (as.drop i) (bs.drop i)=some r→(Op.eqItems (d+1) e (P.cellsOf e) cs cs' (List.range' i n)).run P W=.ok r W
 | 0,i,r,he=>by
  cases ha:as.drop i <;> cases hb:bs.drop i <;> simp [ha,hb,scEqL] at he
  subst he; simp [Op.eqItems]
 | n+1,i,r,he=>by
  rw [List.replicate_succ] at he
  cases ha:as.drop i with
  | nil=>rw [ha] at he; simp [scEqL] at he
  | cons x xs =>
   cases hb:bs.drop i with
   | nil=>rw [ha,hb] at he; simp [scEqL] at he
   | cons y ys =>
    rw [ha,hb] at he
    simp only [scEqL] at he
    split at he
    ·rename_i p q e1 e2
     cases he
     have hxa:as[i]?=some x:=by have:=List.getElem?_drop (xs:=as) (i:=i) (j:=0); rw [ha] at this; simpa using this.symm
     have hyb:bs[i]?=some y:=by have:=List.getElem?_drop (xs:=bs) (i:=i) (j:=0); rw [hb] at this; simpa using this.symm
     have hi:i < cs.size:=by rw [hsz]; exact (List.getElem?_eq_some_iff.1 hxa).1
     have hi':i < cs'.size:=by rw [hsz']; exact (List.getElem?_eq_some_iff.1 hyb).1
     have hva:=Array.getElem?_eq_getElem hi
     have hvb:=Array.getElem?_eq_getElem hi'
     have hxs:as.drop (i+1)=xs:=by rw [←List.drop_drop,ha]; rfl
     have hys:bs.drop (i+1)=ys:=by rw [←List.drop_drop,hb]; rfl
     have ih:=Qe5 hk hc hsz hsz' hr hr' d W n (i+1) q (by rw [hxs,hys]; exact e2)
     have hii:i*P.cellsOf e=i:=by rw [hc,Nat.mul_one]
     simp only [List.range'_succ,Op.eqItems]
     simp only [Sem.run_bind,hii,Kf hk hva,Kf hk hvb,Result.andThen_ok,Qi4 hk e1 (hr i _ _ hva hxa) (hr' i _ _ hvb hyb) d W]
     cases p
     ·simp
     ·simpa using ih
    ·cases he
theorem Qmq {t:TypeId} {ks:List SK} (ht:eqT P t=some ks) {as bs:List AV} {r:Bool} (he:scEqL ks as bs=some r) {u v:Value} (hu:Qa M ι u (.agg as)) (hv:Qa M ι v (.agg bs)) (d:Nat) (W:World) :
  (Op.equalIn (d+2) t u v).run P W=.ok r W∧P.eqGuardType P.depth t=false:=by
 cases hu with
 | agg cs _ h1 hc1 r1 =>
 cases hv with
 | agg cs' _ h2 hc2 r2 =>
 unfold eqT at ht
 split at ht
 ·cases ht
 ·rename_i hg
  refine ⟨?_,by simpa using hg⟩
  split at ht
  ·rename_i fs hd
   split at ht
   ·cases ht
   ·rename_i hst
    have hf:P.underlying t=some (.struct (P.fieldsOf t)):=by simp [Program.fieldsOf,hd]
    have hff:P.fieldsOf t=fs:=by simp [Program.fieldsOf,hd]
    rw [run_equalIn_agg W (d+1) t cs cs' hf (by simpa using hst),hff]
    exact Qhk h1 h2 r1 r2 d W fs.toList 0 ks r ht (by simpa using he)
  ·rename_i n e hd
   split at ht
   ·rename_i hce
    cases hk:Ki P e with
    | none=>simp [hk] at ht
    | some k =>
     simp [hk] at ht
     subst ht
     have hce':P.cellsOf e=1:=by simpa using hce
     cases hi:P.info? e with
     | none=>simp [Program.cellsOf,hi] at hce'
     | some i =>
      rw [run_equalIn_array W (d+1) cs cs' hd hi,List.range_eq_range']
      exact Qe5 hk hce' h1 h2 r1 r2 d W n 0 r (by simpa using he)
   ·cases ht
  ·cases ht
theorem Qj5:∀(ks ks':List SK) (as bs:List AV) (r:Bool),scEqL (ks++ks') as bs=some r→∃p q,scEqL ks (as.take ks.length) (bs.take ks.length)=some p∧scEqL ks' (as.drop ks.length) (bs.drop ks.length)=some q∧r=(p && q)∧ks.length≤as.length∧ks.length≤bs.length
 | [],ks',as,bs,r,h=>⟨true,r,rfl,h,rfl,Nat.zero_le _,Nat.zero_le _⟩
 | k::ks,ks',[],bs,r,h=>by simp [scEqL] at h
 | k::ks,ks',a::as,[],r,h=>by simp [scEqL] at h
 | k::ks,ks',a::as,b::bs,r,h=>by
  simp only [List.cons_append,scEqL] at h
  split at h
  ·rename_i x y h1 h2
   cases h
   obtain ⟨p,q,g1,g2,g3,g4,g5⟩:=Qj5 ks ks' as bs y h2
   refine ⟨x && p,q,?_,g2,by rw [g3,Bool.and_assoc],by simpa using g4,by simpa using g5⟩
   simp only [List.length_cons,List.take_succ_cons,scEqL,h1,g1]
  ·cases h
theorem Qb5 {cs cs':Array Value} {as bs:List AV} (hsz:cs.size=as.length) (hsz':cs'.size=bs.length) (hr:∀(j:Nat) (v:Value) (y:AV),cs[j]?=some v→as[j]?=some y→Qa M ι v y)
  (hr':∀(j:Nat) (v:Value) (y:AV),cs'[j]?=some v→bs[j]?=some y→Qa M ι v y) (d:Nat) (W:World) :
  ∀(fs:List Field) (i:Nat) (ks:List SK) (r:Bool),Qcb P i fs=some ks→scEqL ks (as.drop i) (bs.drop i)=some r→(Op.eqFields (d+2) cs cs' fs).run P W=.ok r W
 | [],i,ks,r,hk,he=>by
  simp [Qcb] at hk; subst hk
  cases ha:as.drop i <;> cases hb:bs.drop i <;> simp [ha,hb,scEqL] at he
  subst he; rfl
 | f::fs,i,ks,r,hk,he=>by
  simp only [Qcb] at hk
  split at hk
  ·rename_i hf
   simp only [Bool.and_eq_true,bne_iff_ne,ne_eq,beq_iff_eq] at hf
   split at hk
   ·rename_i k h1
    split at hk
    ·rename_i ks' h2
     cases hk
     cases ha:as.drop i with
     | nil=>rw [ha] at he; simp [scEqL] at he
     | cons x xs =>
      cases hb:bs.drop i with
      | nil=>rw [ha,hb] at he; simp [scEqL] at he
      | cons y ys =>
       rw [ha,hb] at he
       simp only [scEqL] at he
       split at he
       ·rename_i p q e1 e2
        cases he
        have hxa:as[i]?=some x:=by have:=List.getElem?_drop (xs:=as) (i:=i) (j:=0); rw [ha] at this; simpa using this.symm
        have hyb:bs[i]?=some y:=by have:=List.getElem?_drop (xs:=bs) (i:=i) (j:=0); rw [hb] at this; simpa using this.symm
        have hi:i < cs.size:=by rw [hsz]; exact (List.getElem?_eq_some_iff.1 hxa).1
        have hi':i < cs'.size:=by rw [hsz']; exact (List.getElem?_eq_some_iff.1 hyb).1
        have hva:=Array.getElem?_eq_getElem hi
        have hvb:=Array.getElem?_eq_getElem hi'
        have hxs:as.drop (i+1)=xs:=by rw [←List.drop_drop,ha]; rfl
        have hys:bs.drop (i+1)=ys:=by rw [←List.drop_drop,hb]; rfl
        have ih:=Qb5 hsz hsz' hr hr' d W fs (i+1) ks' q h2 (by rw [hxs,hys]; exact e2)
        simp only [Op.eqFields]
        rw [if_pos hf.1,hf.2]
        simp only [Sem.run_bind,Kf h1 hva,Kf h1 hvb,Result.andThen_ok,Qi4 h1 e1 (hr i _ _ hva hxa) (hr' i _ _ hvb hyb) (d+1) W]
        cases p
        ·simp
        ·simpa using ih
       ·cases he
    ·cases hk
   ·rename_i hno
    split at hk
    ·rename_i n e hu
     split at hk
     ·rename_i hc
      simp only [Bool.and_eq_true,beq_iff_eq,decide_eq_true_eq] at hc
      obtain ⟨⟨hc1,hc2⟩,hn⟩:=hc
      split at hk
      ·rename_i k ks' h1 h2
       cases hk
       obtain ⟨p,q,g1,g2,g3,g4,g5⟩:=Qj5 _ _ _ _ _ he
       simp only [List.length_replicate,List.length_drop] at g1 g2 g4 g5
       subst g3
       have hin:i+n≤cs.size:=by rw [hsz]; omega
       have hin':i+n≤cs'.size:=by rw [hsz']; omega
       cases hi:P.info? f.type with
       | none=>simp [Program.cellsOf,hi] at hc2; omega
       | some inf =>
       have hsize:inf.size=n:=by simpa [Program.cellsOf,hi] using hc2
       have hpart:∀(xs:Array Value),(part f.type xs i).run P W=.ok (.agg (xs.extract i (i+n))) W:=fun xs=>by
        have hagg:(isAgg f.type).run P W=.ok true W:=by simp [isAgg,run_underlying hu]
        have hs:=run_sizeOf (P:=P) W hi
        rw [hc2] at hs
        unfold part
        simp only [Sem.run_bind,hagg,Result.andThen_ok,if_true,hs]
        rfl
       cases hie:P.info? e with
       | none=>simp [Program.cellsOf,hie] at hc1
       | some ie =>
       have hitems:=Qe5 (M:=M) (ι:=ι) h1 hc1 (cs:=cs.extract i (i+n)) (cs':=cs'.extract i (i+n)) (as:=(as.drop i).take n) (bs:=(bs.drop i).take n) (by simp; omega) (by simp; omega)
        (fun j v y hv hy=>by
         have hj:j < n:=by have:=(List.getElem?_eq_some_iff.1 hy).1; simp at this; omega
         refine hr (i+j) v y ?_ ?_
         ·rw [Array.getElem?_extract] at hv; simpa [hj,show j < min (i+n) cs.size - i by omega] using hv
         ·rw [List.getElem?_take,if_pos hj,List.getElem?_drop] at hy; exact hy)
        (fun j v y hv hy=>by
         have hj:j < n:=by have:=(List.getElem?_eq_some_iff.1 hy).1; simp at this; omega
         refine hr' (i+j) v y ?_ ?_
         ·rw [Array.getElem?_extract] at hv; simpa [hj,show j < min (i+n) cs'.size - i by omega] using hv
         ·rw [List.getElem?_take,if_pos hj,List.getElem?_drop] at hy; exact hy) d W n 0 p (by simpa using g1)
       have harr:=run_equalIn_array W (d+1) (cs.extract i (i+n)) (cs'.extract i (i+n)) hu hie
       rw [List.range_eq_range',hitems] at harr
       have ih:=Qb5 hsz hsz' hr hr' d W fs (i+n) ks' q h2 (by rw [List.drop_drop,List.drop_drop] at g2; exact g2)
       simp only [Op.eqFields]
       rw [if_pos hf.1,hf.2]
       simp only [Sem.run_bind,hpart,Result.andThen_ok,harr]
       cases p
       ·simp
       ·simpa using ih
      ·cases hk
     ·cases hk
    ·cases hk
  ·cases hk
theorem Qt9 {t:TypeId} {ks:List SK} (ht:eqDeep P t=some ks) {as bs:List AV} {r:Bool} (he:scEqL ks as bs=some r) {u v:Value} (hu:Qa M ι u (.agg as)) (hv:Qa M ι v (.agg bs)) (d:Nat) (W:World) :
  (Op.equalIn (d+3) t u v).run P W=.ok r W∧P.eqGuardType P.depth t=false:=by
 unfold eqDeep at ht
 split at ht
 ·rename_i ks' h; cases ht; exact Qmq h he hu hv (d+1) W
 ·split at ht
  ·cases ht
  ·rename_i hg
   split at ht
   ·rename_i fs hd
    split at ht
    ·cases ht
    ·rename_i hst
     cases hu with
     | agg cs _ h1 hc1 r1 =>
     cases hv with
     | agg cs' _ h2 hc2 r2 =>
     refine ⟨?_,by simpa using hg⟩
     have hf:P.underlying t=some (.struct (P.fieldsOf t)):=by simp [Program.fieldsOf,hd]
     have hff:P.fieldsOf t=fs:=by simp [Program.fieldsOf,hd]
     rw [run_equalIn_agg W (d+2) t cs cs' hf (by simpa using hst),hff]
     exact Qb5 h1 h2 r1 r2 d W fs.toList 0 ks r ht (by simpa using he)
   ·cases ht
theorem Qod (t:TypeId) (u v:Value) (W:World):(Op.equal t u v).run P W=(Op.equalIn 10000 t u v).run P W:=rfl
set_option maxHeartbeats 2000000 in
theorem Qme {t:TypeId} {T:TI} (ht:ti P t=some T) {x y:AV} {r:Bool} (he:absEq T x y=some r) {u v:Value} (hu:Qa M ι u x) (hv:Qa M ι v y) (op:BinOp) (xo yo:Operand) (W:World) :
  (eqGuard op t xo yo u v).run P W=.ok () W∧(binOp .eql t u v).run P W=.ok (.bool r) W∧(binOp .neq t u v).run P W=.ok (.bool (!r)) W:=by
 obtain ⟨d,i,h1,h2,h3,h4,h5,h6,h7,h8,_⟩:=Zy ht
 unfold absEq at he
 have kp:T.kind=.ptr→∃e,P.underlying t=some (.pointer e):=fun h=>by rw [h3] at h; obtain ⟨e,rfl⟩:=Qwc h; exact ⟨e,h1⟩
 have ks:∀e,T.kind=.slice e→P.underlying t=some (.slice e):=fun e h=>by rw [h3] at h; rw [Zt h] at h1; exact h1
 have kf:T.kind=.func→∃a b c,P.underlying t=some (.func a b c):=fun h=>by rw [h3] at h; obtain ⟨a,b,c,rfl⟩:=Qux h; exact ⟨a,b,c,h1⟩
 have kb:T.kind=.bool→P.underlying t=some .bool:=fun h=>by rw [h3] at h; rw [Qu5 h] at h1; exact h1
 split at he
 ·rename_i as bs
  split at he
  ·rename_i ks hks
   rw [h8] at hks
   obtain ⟨e1,e2⟩:=Qt9 hks he hu hv 9997 W
   cases hu with
   | agg cs _ _ _ _ =>
   cases hv with
   | agg cs' _ _ _ _ =>
   refine ⟨run_eqGuard_agg W op t xo yo cs cs' e2,?_,?_⟩
   ·rw [run_eql_struct W t cs cs',e1]; rfl
   ·rw [run_neq_struct W t cs cs',e1]; rfl
  ·cases he
 all_goals (first | (cases he; done) | (split at he <;> first | (cases he; done) | skip))
 all_goals (rename_i hk0)
 all_goals (first | (have hk1:=kp hk0; obtain ⟨e,hk⟩:=hk1) | (have hk:=ks _ hk0) | (have hk1:=kf hk0; obtain ⟨e1,e2,e3,hk⟩:=hk1) | (have hk:=kb hk0))
 all_goals cases he
 all_goals cases hu
 all_goals cases hv
 all_goals (refine ⟨by cases op <;> simp [eqGuard],?_,?_⟩)
 all_goals (simp only [binOp,Sem.run_bind,Op.equal,Op.maxDepth])
 all_goals (rw [show (10000:Nat)=9999+1 from rfl]; generalize 9999=d')
 all_goals (simp [Op.equalIn,run_underlying hk])
end
end Go.Ab
namespace Go.Ab
open Go.RowKit
def Zc (P:Program) (B:Nat) (W0:World) (D:List Nat) (M:CM) (ι:Inj) (σ:Sto) (fr:Nat) (a:Act) (o:Oper) (W:World) (res:Res):Prop :=
 ∃v W' M' ι',((execOp a.eval o).run P W=.ok (.value v) W'∨((execOp a.eval o).run P W=.ok .skip W'∧v=undef))∧CM.Grow B M M'∧ι.le ι' ∧
  (∀k,k < fr∨res.fr≤k→ι' k=ι k)∧Rel P B W0 D M' ι' (σ.puts res.eff) W'∧∀x,res.v=some x→Qa M' ι' v x
section
variable {P:Program} {nf:Bool} {C:FuncId→List AV→Option Xp} {B:Nat} {W0 W W':World} {D:List Nat} {M:CM} {ι:Inj} {σ:Sto} {s:Slots} {a:Act} {fr:Nat} {o:Oper} {res:Res}
theorem Qr (h:Rel P B W0 D M ι σ W) {v:Value} {x:AV} {rd:List Nat} (hr:(execOp a.eval o).run P W=.ok (.value v) W) (hv:Qa M ι v x):Zc P B W0 D M ι σ fr a o W ⟨some x,[],fr,rd⟩ :=
 ⟨v,W,M,ι,.inl hr,.refl _ _,Inj.le_refl _,fun _ _=>rfl,h,fun y hy=>by cases hy; exact hv⟩
theorem Za {x:Option AV} {r:J5} (h:Xa fr x=some r):∃y,x=some y∧r=.val ⟨some y,[],fr,[]⟩:=by
 cases x with
 | none=>cases h
 | some y=>cases h; exact ⟨y,rfl,rfl⟩
theorem Qqs (h:Rel P B W0 D M ι σ W) (hs:Qi M ι s a.tmps) {x:Operand} (ho:o.op=.move x∨o.op=.assign x) (he:evalOp P nf C σ fr s o=some (.val res)):Zc P B W0 D M ι σ fr a o W res:=by
 have hrun:(execOp a.eval o).run P W=.ok (.value (a.eval x)) W:=by rcases ho with ho | ho <;> simp [execOp,ho]
 have he':Xa fr (evo s x)=some (.val res):=by rcases ho with ho | ho <;> (unfold evalOp at he; rw [ho] at he; exact he)
 obtain ⟨y,hy,hr⟩:=Za he'
 cases hr
 exact Qr h hrun (Qg hs hy)
theorem Qzq (h:Rel P B W0 D M ι σ W) (hs:Qi M ι s a.tmps) {c x y:Operand} (ho:o.op=.pick c x y) (he:evalOp P nf C σ fr s o=some (.val res)):Zc P B W0 D M ι σ fr a o W res:=by
 unfold evalOp at he
 rw [ho] at he
 simp only at he
 split at he
 ·rename_i hc
  have hb:=(Qg hs hc).bool_inv
  obtain ⟨z,hz,hr⟩:=Za he
  cases hr
  exact Qr h (by simp [execOp,ho,hb,asBool]) (Qg hs hz)
 ·rename_i hc
  have hb:=(Qg hs hc).bool_inv
  obtain ⟨z,hz,hr⟩:=Za he
  cases hr
  exact Qr h (by simp [execOp,ho,hb,asBool]) (Qg hs hz)
 ·cases he
theorem Qsr (h:Rel P B W0 D M ι σ W) (hs:Qi M ι s a.tmps) {x:Operand} {i:Nat} (ho:o.op=.extract x i) (he:evalOp P nf C σ fr s o=some (.val res)):Zc P B W0 D M ι σ fr a o W res:=by
 unfold evalOp at he
 rw [ho] at he
 simp only at he
 split at he
 ·rename_i vs hx
  obtain ⟨y,hy,hr⟩:=Za he
  cases hr
  have hv:=Qg hs hx
  generalize hu:a.eval x=u at hv
  cases hv with
  | tup vs' _ hsz hr =>
  have hi:i < vs'.size:=by rw [hsz]; exact (List.getElem?_eq_some_iff.1 hy).1
  have hg:=Array.getElem?_eq_getElem hi
  exact Qr h (v:=vs'[i]) (by simp [execOp,ho,hu,Instr.extract,hg]) (hr i _ _ hg hy)
 ·cases he
theorem Qrc (h:Rel P B W0 D M ι σ W) (hs:Qi M ι s a.tmps) {x:Operand} (ho:o.op=.nilCheck x) (he:evalOp P nf C σ fr s o=some (.val res)):Zc P B W0 D M ι σ fr a o W res:=by
 unfold evalOp at he
 rw [ho] at he
 simp only at he
 split at he
 ·rename_i cs hx
  obtain ⟨y,hy,hr⟩:=Za he
  cases hy; cases hr
  have hv:=Qg hs hx
  refine Qr h (v:=a.eval x) ?_ hv
  generalize hu:a.eval x=u at hv
  cases hv
  simp [execOp,ho,hu]
 ·rename_i cs hx
  obtain ⟨y,hy,hr⟩:=Za he
  cases hy; cases hr
  have hv:=Qg hs hx
  refine Qr h (v:=a.eval x) ?_ hv
  generalize hu:a.eval x=u at hv
  cases hv
  simp [execOp,ho,hu]
 ·rename_i f p q hx
  obtain ⟨y,hy,hr⟩:=Za he
  cases hy; cases hr
  have hv:=Qg hs hx
  refine Qr h (v:=a.eval x) ?_ hv
  generalize hu:a.eval x=u at hv
  cases hv with
  | fn f first' caps' first caps hy hm h1 h2 hr1 hr2 =>
  simp only [execOp,ho,hu]
  cases f with
  | method nm=>exact absurd rfl (hm nm)
  | _=>rfl
 ·cases he
theorem Qn5 {op:BinOp} (h:op≠.eql∧op≠.neq) (t:TypeId) (x y:Operand) (u v:Value):(eqGuard op t x y u v).run P W=.ok () W:=by
 cases op <;> first | (simp at h; done) | simp [eqGuard]
theorem Qup (op:BinOp) (t:TypeId) (x y:Operand) (k k':IntKind) (n m:Int):(eqGuard op t x y (.int k n) (.int k' m)).run P W=.ok () W:=by
 cases op <;> simp [eqGuard]
theorem Qso {op:BinOp} {k:IntKind} {n m:Int} {x:AV} (h:Qki op k n m=some x) (t:TypeId):∃v,(binOp op t (.int k n) (.int k m)).run P W=.ok v W∧Qa M ι v x:=by
 unfold Qki at h
 split at h
 all_goals first | (cases h; done) | skip
 ·cases h; exact ⟨_,by simp [binOp,Op.intArith],.int _ _⟩
 ·cases h; exact ⟨_,by simp [binOp,Op.intArith],.int _ _⟩
 ·cases h; exact ⟨_,by simp [binOp,Op.intArith],.int _ _⟩
 ·split at h
  ·cases h
  ·rename_i hm
   cases h; exact ⟨_,by simp [binOp,Op.intDiv,hm],.int _ _⟩
 ·split at h
  ·cases h
  ·rename_i hm
   cases h; exact ⟨_,by simp [binOp,Op.intDiv,hm],.int _ _⟩
 ·cases h; exact ⟨_,by simp only [binOp,ne_eq,not_true_eq_false,if_false,Op.intBits]; rfl,.int _ _⟩
 ·cases h; exact ⟨_,by simp only [binOp,ne_eq,not_true_eq_false,if_false,Op.intBits]; rfl,.int _ _⟩
 ·cases h; exact ⟨_,by simp only [binOp,ne_eq,not_true_eq_false,if_false,Op.intBits]; rfl,.int _ _⟩
 ·cases h; exact ⟨_,by simp only [binOp,ne_eq,not_true_eq_false,if_false,Op.intBits]; rfl,.int _ _⟩
 all_goals (cases h; exact ⟨_,by simp only [binOp,ne_eq,not_true_eq_false,if_false,Op.intCmp]; rfl,.bool _⟩)
theorem Qxk (h:Rel P B W0 D M ι σ W) (hs:Qi M ι s a.tmps) {op:BinOp} {t u:TypeId} {x y:Operand} (ho:o.op=.binOp op t x y u) (he:evalOp P nf C σ fr s o=some (.val res)):Zc P B W0 D M ι σ fr a o W res:=by
 unfold evalOp at he
 rw [ho] at he
 simp only at he
 split at he
 ·rename_i p q hp hq
  obtain ⟨z,hz,hr⟩:=Za he
  cases hr
  have vp:=Qg hs hp
  have vq:=Qg hs hq
  suffices hk:∃v,(eqGuard op t x y (a.eval x) (a.eval y)).run P W=.ok () W∧(binOp op t (a.eval x) (a.eval y)).run P W=.ok v W∧Qa M ι v z by
   obtain ⟨v,h1,h2,h3⟩:=hk
   exact Qr h (v:=v) (by simp [execOp,ho,h1,h2]) h3
  unfold Qh8 at hz
  split at hz
  ·rw [vp.int_inv,vq.int_inv]
   split at hz
   ·cases hz
   ·rename_i hb
    cases hz
    exact ⟨_,Qn5 (by simp) _ _ _ _ _,by simp [binOp,Op.shift,hb],.int _ _⟩
  ·rw [vp.int_inv,vq.int_inv]
   split at hz
   ·cases hz
   ·rename_i hb
    cases hz
    exact ⟨_,Qn5 (by simp) _ _ _ _ _,by simp [binOp,Op.shift,hb],.int _ _⟩
  ·rw [vp.int_inv,vq.int_inv]
   split at hz
   ·rename_i hk
    subst hk
    obtain ⟨v,h1,h2⟩:=Qso (W:=W) (M:=M) (ι:=ι) (P:=P) hz t
    exact ⟨v,Qup _ _ _ _ _ _ _ _,h1,h2⟩
   ·cases hz
  ·split at hz
   ·rename_i T hT
    cases hb:absEq T p q with
    | none=>simp [hb] at hz
    | some r =>
     simp [hb] at hz
     subst hz
     obtain ⟨h1,h2,_⟩:=Qme hT hb vp vq .eql x y W
     exact ⟨_,h1,h2,.bool _⟩
   ·cases hz
  ·split at hz
   ·rename_i T hT
    cases hb:absEq T p q with
    | none=>simp [hb] at hz
    | some r =>
     simp [hb] at hz
     subst hz
     obtain ⟨h1,_,h2⟩:=Qme hT hb vp vq .neq x y W
     exact ⟨_,h1,h2,.bool _⟩
   ·cases hz
  ·cases hz
 ·cases he
theorem Qyb (h:Rel P B W0 D M ι σ W) (hs:Qi M ι s a.tmps) {op:UnOp} {t:TypeId} {x:Operand} (ho:o.op=.unOp op t x) (he:evalOp P nf C σ fr s o=some (.val res)):Zc P B W0 D M ι σ fr a o W res:=by
 unfold evalOp at he
 rw [ho] at he
 simp only at he
 split at he
 ·rename_i p hp
  obtain ⟨z,hz,hr⟩:=Za he
  cases hr
  have vp:=Qg hs hp
  unfold Q19 at hz
  split at hz
  ·cases hz
   exact Qr h (v:=_) (by rw [execOp,ho]; simp only [vp.int_inv,Op.unary,Op.intArith]; rfl) (.int _ _)
  ·cases hz
   exact Qr h (v:=_) (by rw [execOp,ho]; simp only [vp.int_inv,Op.unary,Op.intBits]; rfl) (.int _ _)
  ·cases hz
   exact Qr h (v:=_) (by rw [execOp,ho]; simp only [vp.bool_inv,Op.unary]; rfl) (.bool _)
  ·cases hz
 ·cases he
theorem Qtg (h:Rel P B W0 D M ι σ W) (hs:Qi M ι s a.tmps) {t u:TypeId} {x:Operand} (ho:o.op=.convert u t x) (he:evalOp P nf C σ fr s o=some (.val res)):Zc P B W0 D M ι σ fr a o W res:=by
 unfold evalOp at he
 rw [ho] at he
 simp only at he
 split at he
 ·rename_i U T k n hU hT hx
  split at he
  ·rename_i k' hk
   obtain ⟨z,hz,hr⟩:=Za he
   cases hr; cases hz
   have vp:=(Qg hs hx).int_inv
   obtain ⟨d,i,h1,h2,h3,_⟩:=Zy hT
   obtain ⟨d',i',h1',_⟩:=Zy hU
   rw [h3] at hk
   rw [Qxf hk] at h1
   refine Qr h (v:=.int k' (k'.wrap n)) ?_ (.int _ _)
   simp [execOp,ho,vp,convert,run_underlying h1,run_underlying h1',Conv.intToInt]
  ·cases he
 ·cases he
end
end Go.Ab
namespace Go.Ab
open Go.RowKit
section
variable {P:Program} {nf:Bool} {C:FuncId→List AV→Option Xp} {B:Nat} {W0 W W':World} {D:List Nat} {M:CM} {ι:Inj} {σ:Sto} {s:Slots} {a:Act} {fr:Nat} {o:Oper} {res:Res}
theorem Qbu (b off j:Nat):(⟨b,off,none⟩:Addr).add j=⟨b,off+j,none⟩:=by unfold Addr.add; split <;> simp_all
theorem Qrd (h:Rel P B W0 D M ι σ W) (hs:Qi M ι s a.tmps) {f:Fn} {x y:Array Operand} (ho:o.op=.makeFunc f x y) (he:evalOp P nf C σ fr s o=some (.val res)):Zc P B W0 D M ι σ fr a o W res:=by
 unfold evalOp at he
 rw [ho] at he
 simp only at he
 split at he
 ·rename_i p q hp hq
  obtain ⟨l1,g1⟩:=Vn hs hp
  obtain ⟨l2,g2⟩:=Vn hs hq
  have key:∀f,(∀l,f≠Fn.yield l)→(∀m,f≠Fn.method m)→Qa M ι (.func f (x.map a.eval) (y.map a.eval)) (.fn f p q):=fun f hy hm =>
   .fn f _ _ p q hy hm (by simp [l1]) (by simp [l2]) (fun j v z hv hz=>by
    simp only [Array.getElem?_map,Option.map_eq_some_iff] at hv
    obtain ⟨w,hw,rfl⟩:=hv
    exact (g1 j w z (by simpa using hw) hz).2) (fun j v z hv hz=>by
    simp only [Array.getElem?_map,Option.map_eq_some_iff] at hv
    obtain ⟨w,hw,rfl⟩:=hv
    exact (g2 j w z (by simpa using hw) hz).2)
  split at he
  ·obtain ⟨z,hz,hr⟩:=Za he
   cases hr; cases hz
   exact Qr h (by rw [execOp,ho]; rfl) (key _ (by simp) (by simp))
  ·obtain ⟨z,hz,hr⟩:=Za he
   cases hr; cases hz
   exact Qr h (by rw [execOp,ho]; rfl) (key _ (by simp) (by simp))
  ·cases he
 ·cases he
theorem Qax (hs:Qi M ι s a.tmps) {x:Option Operand} {y:Option AV} (h:Km s x=some y):(x=none∧y=none)∨∃u v,x=some u∧y=some v∧Qa M ι (a.eval u) v:=by
 cases x with
 | none=>simp [Km] at h; subst h; exact .inl ⟨rfl,rfl⟩
 | some u =>
  simp only [Km,Option.map_eq_some_iff] at h
  obtain ⟨v,hv,rfl⟩:=h
  exact .inr ⟨u,v,rfl,rfl,Qg hs hv⟩
theorem Xl {k:IntKind} {n y:Nat} (h:n≤y) (c:BoundsCode) (W:World):(Instr.sliceBound (.int k n) y c).run P W=.ok n W:=by
 have h0:(0:Int)≤(n:Int)∧(n:Int)≤(y:Int):=⟨by omega,by omega⟩
 simp only [Instr.sliceBound,Sem.run_bind,asIntOf,Sem.run_pure,Result.andThen_ok]
 rw [if_pos h0]; rfl
theorem Qa2 {x:Option Operand} {y:Option AV} (hs:Qi M ι s a.tmps) (hx:Km s x=some y) {d n:Nat} (hn:Y3 y d=some n) :
  (x=none∧n=d)∨∃u k,x=some u∧a.eval u=.int k n:=by
 rcases Qax hs hx with ⟨rfl,rfl⟩ | ⟨u,v,rfl,rfl,hr⟩
 ·simp [Y3] at hn; exact .inl ⟨rfl,hn.symm⟩
 ·simp only [Y3] at hn
  obtain ⟨k,hk⟩:=Qfn hr hn
  exact .inr ⟨u,k,rfl,hk⟩
theorem V9 (hs:Qi M ι s a.tmps) {lo hi mx:Option Operand} {lo' hi' mx':Option AV} (h1:Km s lo=some lo') (h2:Km s hi=some hi') (h3:Km s mx=some mx') {len cap l h m:Nat}
  (e1:Y3 lo' 0=some l) (e2:Y3 hi' len=some h) (e3:(mx'=none∧m=cap)∨(mx'.isSome=true∧hi'.isSome=true∧Y3 mx' 0=some m)) (b1:l≤h) (b2:h≤m) (b3:m≤cap) (W:World) :
  (Instr.sliceBounds true len cap (lo.map a.eval) (hi.map a.eval) (mx.map a.eval)).run P W=.ok (l,h,m) W:=by
 have hm:(mx=none∧m=cap)∨∃u k,mx=some u∧a.eval u=.int k m∧hi.isSome=true:=by
  rcases e3 with ⟨rfl,rfl⟩ | ⟨g1,g2,g3⟩
  ·rcases Qax hs h3 with ⟨rfl,_⟩ | ⟨u,v,rfl,e,_⟩
   ·exact .inl ⟨rfl,rfl⟩
   ·cases e
  ·rcases Qa2 hs h3 g3 with ⟨rfl,_⟩ | ⟨u,k,rfl,hk⟩
   ·rcases Qax hs h3 with ⟨_,rfl⟩ | ⟨u,v,e,_,_⟩
    ·cases g1
    ·cases e
   ·refine .inr ⟨u,k,rfl,hk,?_⟩
    rcases Qax hs h2 with ⟨_,rfl⟩ | ⟨u,v,rfl,_,_⟩
    ·cases g2
    ·rfl
 rcases hm with ⟨rfl,rfl⟩ | ⟨u,k,rfl,hk,hhi⟩
 ·rcases Qa2 hs h2 e2 with ⟨rfl,rfl⟩ | ⟨v,k2,rfl,hk2⟩
  ·rcases Qa2 hs h1 e1 with ⟨rfl,rfl⟩ | ⟨z,k3,rfl,hk3⟩
   ·simp [Instr.sliceBounds]
   ·simp [Instr.sliceBounds,hk3,Xl b1]
  ·rcases Qa2 hs h1 e1 with ⟨rfl,rfl⟩ | ⟨z,k3,rfl,hk3⟩
   ·simp [Instr.sliceBounds,hk2,Xl b2]
   ·simp [Instr.sliceBounds,hk2,hk3,Xl b1,Xl b2]
 ·rcases Qa2 hs h2 e2 with ⟨rfl,rfl⟩ | ⟨v,k2,rfl,hk2⟩
  ·cases hhi
  ·rcases Qa2 hs h1 e1 with ⟨rfl,rfl⟩ | ⟨z,k3,rfl,hk3⟩
   ·simp [Instr.sliceBounds,hk,hk2,Xl b2,Xl b3]
   ·simp [Instr.sliceBounds,hk,hk2,hk3,Xl b1,Xl b2,Xl b3]
end
end Go.Ab
