/- Rules. No conditions. -/
import Derived.Test.YtapoljjoedcknaaEng0
import Derived.Laws.StructEq
import Derived.ChangeKeysEq
set_option linter.all false
namespace Go.Ab
open Go.RowKit
theorem Inj.noInj_le (ι:Inj):noInj.le ι:=fun _ _ h=>by cases h
theorem Sto.puts_at (σ:Sto):∀(es:List (Nat × AObj)) (k:Nat),(σ.puts es k=σ k∧∀e∈es,e.1≠k)∨∃y,σ.puts es k=some y∧(k,y)∈es
 | [],k=>.inl ⟨rfl,by simp⟩
 | (o,x)::es,k=>by
  rcases Sto.puts_at (σ.put o x) es k with ⟨h1,h2⟩ | ⟨y,h1,h2⟩
  ·by_cases e:k=o
   ·subst e; exact .inr ⟨x,by simp only [Sto.puts]; rw [h1,Sto.put_same],by simp⟩
   ·refine .inl ⟨by simp only [Sto.puts]; rw [h1,Sto.put_ne _ _ e],fun z hz=>?_⟩
    rcases List.mem_cons.1 hz with rfl | hz
    ·exact fun e'=>e e'.symm
    ·exact h2 z hz
  ·exact .inr ⟨y,by simp only [Sto.puts]; exact h1,by simp [h2]⟩
theorem Sto.puts_append (σ:Sto):∀(a b:List (Nat × AObj)),σ.puts (a++b)=(σ.puts a).puts b
 | [],b=>rfl
 | (o,x)::a,b=>by simp only [List.cons_append,Sto.puts]; exact Sto.puts_append _ a b
def Qlx (σ:Sto) (all:List Nat) (k:Nat) (y:AObj):Prop :=
 ∃bx ro nr fl w xs,σ k=some (.row bx ro nr fl w xs) ∧
  ((nr=true∧y=.row bx true true fl w xs)∨∃ys is,Q4 (Qt σ Qn) xs=some (ys,is)∧(∀k∈is,k∈all)∧y=.row bx true true false w ys)
theorem Qrn {σ:Sto} {all:List Nat}:∀{ids:List Nat} {es:List (Nat × AObj)},Qay σ all ids=some es →
  (∀e∈es,e.1∈ids∧Qlx σ all e.1 e.2)∧∀k∈ids,∃y,(k,y)∈es
 | [],es,h=>by simp [Qay] at h; subst h; simp
 | o::os,es,h=>by
  simp only [Qay] at h
  split at h
  ·rename_i bx ro nr fl w xs es' h1 h2
   obtain ⟨g1,g2⟩:=Qrn h2
   have fin:∀y,Qlx σ all o y→es=(o,y)::es'→(∀e∈es,e.1∈o::os∧Qlx σ all e.1 e.2)∧∀k∈o::os,∃y,(k,y)∈es:=by
    rintro y hy rfl
    refine ⟨fun e he=>?_,fun k hk=>?_⟩
    ·rcases List.mem_cons.1 he with rfl | he
     ·exact ⟨by simp,hy⟩
     ·exact ⟨by simp [(g1 e he).1],(g1 e he).2⟩
    ·rcases List.mem_cons.1 hk with rfl | hk
     ·exact ⟨y,by simp⟩
     ·obtain ⟨z,hz⟩:=g2 k hk; exact ⟨z,by simp [hz]⟩
   split at h
   ·rename_i hnr
    cases h
    exact fin _ ⟨bx,ro,nr,fl,w,xs,h1,.inl ⟨hnr,rfl⟩⟩ rfl
   ·split at h
    ·rename_i ys is hm
     split at h
     ·rename_i hall
      cases h
      refine fin _ ⟨bx,ro,nr,fl,w,xs,h1,.inr ⟨ys,is,hm,fun k hk=>?_,rfl⟩⟩ rfl
      have:=List.all_eq_true.1 hall k hk
      simpa using this
     ·cases h
    ·cases h
  ·cases h
section
variable {P:Program} {B:Nat} {W0 W W':World} {D:List Nat} {M:CM} {ι:Inj} {σ:Sto}
theorem Qd5 {ids:List Nat} {es:List (Nat × AObj)} (hf:frz σ ids=some es) (k:Nat):(σ.puts es k=σ k∧k ∉ ids)∨(k∈ids∧∃y,σ.puts es k=some y∧Qlx σ ids k y):=by
 obtain ⟨h1,h2⟩:=Qrn hf
 rcases σ.puts_at es k with ⟨a,b⟩ | ⟨y,a,b⟩
 ·refine .inl ⟨a,fun hk=>?_⟩
  obtain ⟨y,hy⟩:=h2 k hk
  exact b _ hy rfl
 ·exact .inr ⟨(h1 _ b).1,y,a,(h1 _ b).2⟩
theorem Jz (h:Rel P B W0 D M ι σ W) {ids:List Nat} {es:List (Nat × AObj)} (hf:frz σ ids=some es):Rel P B W0 D (Zg M W (inC σ ι ids)) ι (σ.puts es) W:=by
 have hle:=addM_le M W (inC σ ι ids)
 refine ⟨h.size,h.below,h.defs,Qbh h.agree,fun k bx1 nr1 fl1 w1 xs1 q j hk hq hj=>?_,?_,?_,?_,?_,?_⟩
 ·rcases Qd5 hf k with ⟨a,hn⟩ | ⟨hin,y,a,bx',ro',nr',fl',w',xs',hσ,hy⟩
  ·rw [a] at hk; exact h.cool _ _ _ _ _ _ _ _ hk hq hj
  ·rw [a] at hk
   rcases hy with ⟨_,rfl⟩ | ⟨_,_,_,_,rfl⟩ <;> cases hk
 ·intro k bx ro nr fl w xs hk
  rcases Qd5 hf k with ⟨a,hn⟩ | ⟨hin,y,a,bx',ro',nr',fl',w',xs',hσ,hy⟩
  ·rw [a] at hk
   obtain ⟨p,hp,hr⟩:=h.row k bx ro nr fl w xs hk
   refine ⟨p,hp,⟨hr.pw,hr.pos,hr.cpos,hr.len,hr.shaped,hr.nr,hr.fl,fun i j x y hi hj=>?_,fun hro=>⟨(hr.own hro).1,fun m hm=>⟨((hr.own hro).2 m hm).1,Qgk ((hr.own hro).2 m hm).2 ?_⟩⟩,fun hro i j x y hi hj=>?_⟩⟩
   ·obtain ⟨v,hv,hrep⟩:=hr.cells i j x y hi hj
    exact ⟨v,hv,hrep.mono hle (Inj.le_refl _)⟩
   ·rintro ⟨o,ho,q,bx2,nr2,fl2,w2,xs2,hσ2,hq,hb,h3,h4⟩
    have hne:k≠o:=fun e=>hn (e ▸ ho)
    subst hro
    obtain ⟨q',hq',hr2⟩:=h.row o bx2 false nr2 fl2 w2 xs2 hσ2
    rw [hq] at hq'; cases hq'
    have hlt:xs2.length*w2≤q.cap*q.w:=by rw [hr2.pw]; exact Nat.mul_le_mul_right _ hr2.len
    have:=h.apart k o _ _ _ _ _ _ _ _ _ _ p q hne hk hσ2 hp hq
    rw [hr.pw] at this
    rcases this with e | e | e
    ·exact e hb
    ·omega
    ·omega
   ·obtain ⟨v,hv,hrep⟩:=hr.imm hro i j x y hi hj
    exact ⟨v,hle _ _ _ hv,hrep.mono hle (Inj.le_refl _)⟩
  ·rw [a] at hk
   obtain ⟨p,hp,hr⟩:=h.row k bx' ro' nr' fl' w' xs' hσ
   have fin:∀(ys:List AV) (fl2:Bool),ys.length=xs'.length→(fl2=true→∀x∈ys,AV.scs x=true)→(∀x∈ys,AV.shaped x w') →
     (∀(i j:Nat) (x y:AV),ys[i]?=some x→x.flat[j]?=some y→∃v,Zg M W (inC σ ι ids) p.blk (p.base+i*w'+j)=some v∧Qa (Zg M W (inC σ ι ids)) noInj v y) →
     Qeu B (Zg M W (inC σ ι ids)) ι W true true fl2 w' ys p:=by
    intro ys fl2 hl hfl hsh hc
    refine ⟨hr.pw,hr.pos,hr.cpos,by rw [hl]; exact hr.len,hsh,fun _=>Q1.2 fun x hx=>?_,hfl,fun i j x y hi hj=>?_,fun hf=>(by cases hf),fun _=>hc⟩
    ·obtain ⟨i,hi,rfl⟩:=List.mem_iff_getElem.1 hx
     have hcells:∀y∈ys[i].flat,AV.nr y=true:=fun y hy=>by
      obtain ⟨j,hj,rfl⟩:=List.mem_iff_getElem.1 hy
      obtain ⟨v,_,hrep⟩:=hc i j _ _ (List.getElem?_eq_getElem hi) (List.getElem?_eq_getElem hj)
      exact hrep.nr_of_noInj
     rcases (hsh _ hx).form with e | e
     ·rw [e]; simp only [AV.nr,Q1]; exact hcells
     ·exact hcells _ (by rw [AV.flat_cell e]; simp)
    ·obtain ⟨v,hv,hrep⟩:=hc i j x y hi hj
     exact ⟨v,Qbh h.agree _ _ _ hv,hrep.mono (CM.le_refl _) (Inj.noInj_le _)⟩
   rcases hy with ⟨hnr,rfl⟩ | ⟨ys,is,hm,hsub,rfl⟩
   ·cases hk
    refine ⟨p,hp,fin _ _ rfl hr.fl hr.shaped (fun i j x y hi hj=>?_)⟩
    obtain ⟨v,hv,_,hrep⟩:=h.content hσ hp hin hi hj
    exact ⟨v,hv,(hrep.of_nr (ι':=noInj) (AV.nr_flat (Q1.1 (hr.nr hnr) x (List.mem_of_getElem? hi)) y (List.mem_of_getElem? hj))).mono hle (Inj.le_refl _)⟩
   ·cases hk
    refine ⟨p,hp,fin _ _ (Vl hm).1 (by simp) (fun y hy=>?_) (fun i j x y hi hj=>?_)⟩
    ·obtain ⟨i,hi,rfl⟩:=List.mem_iff_getElem.1 hy
     obtain ⟨x,is',e1,e2,e3⟩:=Z7 hm (List.getElem?_eq_getElem hi)
     exact (V8 e2 (hr.shaped x (List.mem_of_getElem? e1))).1
    ·obtain ⟨x0,is',e1,e2,e3⟩:=Z7 hm hi
     obtain ⟨c,d',is2,f1,f2,f3,f4⟩:=(V8 e2 (hr.shaped x0 (List.mem_of_getElem? e1))).2 j y hj
     obtain ⟨u,hu,_,hrep⟩:=h.content hσ hp hin e1 f1
     exact ⟨u,hu,X4 h ids d' c y is2 u f3 (fun k hk=>hsub k (e3 k (f4 k hk))) hrep⟩
 ·intro k fn sl ps as bd st pe hk
  rcases Qd5 hf k with ⟨a,hn⟩ | ⟨hin,y,a,bx',ro',nr',fl',w',xs',hσ,hy⟩
  ·rw [a] at hk
   obtain ⟨q,nt,hq,hnt,hb,tmps,hsz,hrec,hsl⟩:=h.loop k fn sl ps as bd st pe hk
   exact ⟨q,nt,hq,hnt,hb,tmps,hsz,hrec,Qbo hle (Inj.le_refl _) hsl⟩
  ·rw [a] at hk
   rcases hy with ⟨_,rfl⟩ | ⟨_,_,_,_,rfl⟩ <;> cases hk
 ·intro k k' bx1 nr1 fl1 w1 xs1 bx2 nr2 fl2 w2 xs2 q q' hkk h1 h2 hq hq'
  have g:∀k bx1 nr1 fl1 w1 xs1,σ.puts es k=some (.row bx1 false nr1 fl1 w1 xs1)→σ k=some (.row bx1 false nr1 fl1 w1 xs1):=fun k _ _ _ _ _ hk=>by
   rcases Qd5 hf k with ⟨a,hn⟩ | ⟨hin,y,a,bx',ro',nr',fl',w',xs',hσ,hy⟩
   ·rw [←a]; exact hk
   ·rw [a] at hk
    rcases hy with ⟨_,rfl⟩ | ⟨_,_,_,_,rfl⟩ <;> cases hk
  exact h.apart _ _ _ _ _ _ _ _ _ _ _ _ _ _ hkk (g _ _ _ _ _ _ h1) (g _ _ _ _ _ _ h2) hq hq'
 ·intro k k' fn sl ps as bd st pe fn' sl' ps' as' bd' st' pe' q q' hkk h1 h2 hq hq'
  have g:∀k fn sl ps as bd st pe,σ.puts es k=some (.loop fn sl ps as bd st pe)→σ k=some (.loop fn sl ps as bd st pe):=fun k _ _ _ _ _ _ _ hk=>by
   rcases Qd5 hf k with ⟨a,hn⟩ | ⟨hin,y,a,bx',ro',nr',fl',w',xs',hσ,hy⟩
   ·rw [←a]; exact hk
   ·rw [a] at hk
    rcases hy with ⟨_,rfl⟩ | ⟨_,_,_,_,rfl⟩ <;> cases hk
  exact h.loops _ _ _ _ _ _ _ _ _ _ _ _ _ _ _ _ _ _ hkk (g _ _ _ _ _ _ _ _ h1) (g _ _ _ _ _ _ _ _ h2) hq hq'
 ·intro k hk
  rcases Qd5 hf k with ⟨a,hn⟩ | ⟨hin,y,a,bx',ro',nr',fl',w',xs',hσ,hy⟩
  ·rw [a]; exact h.used k hk
  ·obtain ⟨p,hp,_⟩:=h.row k bx' ro' nr' fl' w' xs' hσ
   rw [hk] at hp; cases hp
structure CM.Grow (B:Nat) (M M':CM):Prop where
 le:M.le M'
 old:∀b k,b < B→M' b k=M b k
 keep:M'.blk=M.blk
 keepC:M'.kc=M.kc
 keepF:∀b o v,M.kc b o=some v→M' b o=M b o
theorem CM.Grow.refl (B:Nat) (M:CM):CM.Grow B M M:=⟨CM.le_refl M,fun _ _ _=>rfl,rfl,rfl,fun _ _ _ _=>rfl⟩
theorem CM.Grow.trans {B:Nat} {M M' M'':CM} (h:CM.Grow B M M') (k:CM.Grow B M' M''):CM.Grow B M M'' :=
 ⟨CM.le_trans h.le k.le,fun b o hb=>(k.old b o hb).trans (h.old b o hb),k.keep.trans h.keep,k.keepC.trans h.keepC,fun b o v hv=>(k.keepF b o v (by rw [h.keepC]; exact hv)).trans (h.keepF b o v hv)⟩
theorem CM.Grow.mono {B B':Nat} {M M':CM} (h:CM.Grow B M M') (hB:B'≤B):CM.Grow B' M M':=⟨h.le,fun b o hb=>h.old b o (by omega),h.keep,h.keepC,h.keepF⟩
theorem Rel.growC (h:Rel P B W0 D M ι σ W) (ids:List Nat):CM.Grow B M (Zg M W (inC σ ι ids)) :=
 ⟨addM_le _ _ _,fun b k hb=>by
  cases hm:M b k with
  | some v=>exact addM_le _ _ _ _ _ _ hm
  | none =>
   refine Qgk hm ?_
   rintro ⟨o,ho,p,bx,nr,fl,w,xs,hσ,hp,rfl,_⟩
   obtain ⟨q,hq,hr⟩:=h.row o bx false nr fl w xs hσ
   rw [hp] at hq; cases hq
   have:=(hr.own rfl).1
   omega,rfl,rfl,fun b o v hv=>by
  cases hm:M b o with
  | some u=>exact addM_le _ _ _ _ _ _ hm
  | none =>
   refine Qgk hm ?_
   rintro ⟨k,ho,p,bx,nr,fl,w,xs,hσ,hp,rfl,h1,h2⟩
   obtain ⟨q,hq,hr⟩:=h.row k bx false nr fl w xs hσ
   rw [hp] at hq; cases hq
   have h3:xs.length*w≤p.cap*w:=Nat.mul_le_mul_right _ hr.len
   have:=(h.cool k bx nr fl w xs p (o - p.base) hσ hp (by omega)).2
   rw [show p.base+(o - p.base)=o by omega,hv] at this; cases this⟩
def Zb (P:Program) (f:FuncId) (args:List AV) (out:Z2):Prop :=
 ∀(W:World) (M:CM) (vs:Array Value),(K9 M W)→vs.size=args.length →
  (∀(j:Nat) (v:Value) (a:AV),vs[j]?=some v→args[j]?=some a→Qa M noInj v a) →
  Calls P f vs W fun e W'=>match out with
   | .ret r objs=>∃v M' ι',e=.returned v∧CM.Grow W.heap.size M M'∧Rel P W.heap.size W [] M' ι' (fun k=>objs[k]?) W'∧(∀k,objs.length≤k→ι' k=none)∧Qa M' ι' v r
   | .pan pv=>∃v M',e=.panicked [{ v,recovered:=false }]∧CM.Grow W.heap.size M M'∧Rel P W.heap.size W [] M' noInj (fun _=>none) W'∧Qa M' noInj v pv
def Qgr (P:Program) (C:FuncId→List AV→Option Z2):Prop:=∀f args out,C f args=some out →
 Zb P f args out∧∃fn,P.funcs[f]?=some fn∧fn.body.isSome=true∧(fn.name == "runtime.NumGoroutine")=false
end
end Go.Ab
namespace Go.Ab
open Go.RowKit
theorem Zn (k i:Nat):BIG≤fid k i:=by unfold fid; omega
theorem Yq {k i k' i':Nat} (h:fid k i=fid k' i'):k=k'∧i=i':=by
 unfold fid at h
 have h:(k+i)*(k+i)+i=(k'+i')*(k'+i')+i':=by omega
 have key:∀s s' a b:Nat,a≤s→s < s'→s*s+a < s'*s'+b:=fun s s' a b ha hs=>by
  have h1:(s+1)*(s+1)≤s'*s':=Nat.mul_le_mul hs hs
  have h2:(s+1)*(s+1)=s*s+s+s+1:=by rw [Nat.add_mul,Nat.mul_add]; omega
  omega
 have hs:k+i=k'+i':=by
  rcases Nat.lt_trichotomy (k+i) (k'+i') with e | e | e
  ·have:=key _ _ i i' (by omega) e; omega
  ·exact e
  ·have:=key _ _ i' i (by omega) e; omega
 rw [hs] at h
 exact ⟨by omega,by omega⟩
open Classical in
noncomputable def Qb1 (objs:List AObj) (id:Nat):Option AObj :=
 if h:∃(y:AObj) (k i w:Nat) (fl:Bool) (xs:List (List AV)) (l:List AV),id=fid k i∧objs[k]?=some (.fam w fl xs)∧xs[i]?=some l∧y=.row false false true fl w l then some h.choose else none
noncomputable def sto (objs:List AObj):Sto:=fun id=>if Nat.blt id BIG then (objs[id]?).map AObj.plain else Qb1 objs id
theorem Qib {a b:Nat} (h:b≤a):Nat.blt a b=false:=by
 rw [Bool.eq_false_iff]; intro e
 have:a+1≤b:=Nat.le_of_ble_eq_true e
 omega
theorem Qku {a b:Nat} (h:a < b):Nat.blt a b=true:=Nat.ble_eq_true_of_le h
theorem Yc {a b:Nat} (h:Nat.blt a b=true):a < b:=Nat.le_of_ble_eq_true h
theorem Zh {objs:List AObj} {id:Nat} (h:id < BIG):sto objs id=(objs[id]?).map AObj.plain:=by unfold sto; rw [if_pos (Qku h)]
theorem Qo2 {objs:List AObj} {id:Nat} (h:BIG≤id):sto objs id=Qb1 objs id:=by unfold sto; rw [if_neg (by rw [Qib h]; simp)]
theorem Qp1 {objs:List AObj} {id:Nat} {y:AObj} (h:Qb1 objs id=some y):∃(k i w:Nat) (fl:Bool) (xs:List (List AV)) (l:List AV),id=fid k i∧objs[k]?=some (.fam w fl xs)∧xs[i]?=some l∧y=.row false false true fl w l:=by
 unfold Qb1 at h
 split at h
 ·rename_i hx
  obtain ⟨k,i,w,fl,xs,l,h1,h2,h3,h4⟩:=hx.choose_spec
  simp only [Option.some.injEq] at h
  exact ⟨k,i,w,fl,xs,l,h1,h2,h3,by rw [←h]; exact h4⟩
 ·cases h
theorem Qss {objs:List AObj} {k i w:Nat} {fl:Bool} {xs:List (List AV)} {l:List AV} (h1:objs[k]?=some (.fam w fl xs)) (h2:xs[i]?=some l):Qb1 objs (fid k i)=some (.row false false true fl w l):=by
 have hex:∃(y:AObj) (k' i' w:Nat) (fl:Bool) (xs:List (List AV)) (l:List AV),fid k i=fid k' i'∧objs[k']?=some (.fam w fl xs)∧xs[i']?=some l∧y=.row false false true fl w l:=⟨_,k,i,w,fl,xs,l,rfl,h1,h2,rfl⟩
 unfold Qb1
 rw [dif_pos hex]
 obtain ⟨k',i',w',fl',xs',l',e1,e2,e3,e4⟩:=hex.choose_spec
 obtain ⟨rfl,rfl⟩:=Yq e1
 rw [h1] at e2; cases e2
 rw [h2] at e3; cases e3
 rw [e4]
theorem Xk {objs:List AObj} {k i w:Nat} {fl:Bool} {xs:List (List AV)} {l:List AV} (h1:objs[k]?=some (.fam w fl xs)) (h2:xs[i]?=some l):sto objs (fid k i)=some (.row false false true fl w l):=by
 rw [Qo2 (Zn k i)]; exact Qss h1 h2
theorem Vp (objs:List AObj) (id:Nat):(id < BIG∧sto objs id=(objs[id]?).map AObj.plain)∨(BIG≤id∧((∃k i w fl xs l,id=fid k i∧objs[k]?=some (.fam w fl xs)∧xs[i]?=some l∧sto objs id=some (.row false false true fl w l))∨sto objs id=none)):=by
 rcases Nat.lt_or_ge id BIG with h | h
 ·exact .inl ⟨h,Zh h⟩
 ·refine .inr ⟨h,?_⟩
  rw [Qo2 h]
  cases hx:Qb1 objs id with
  | none=>exact .inr rfl
  | some y =>
   obtain ⟨k,i,w,fl,xs,l,e1,e2,e3,e4⟩:=Qp1 hx
   exact .inl ⟨k,i,w,fl,xs,l,e1,e2,e3,by rw [e4]⟩
def AObj.isFam:AObj→Bool
 | .fam _ _ _=>true
 | _=>false
def AObj.isPlain:AObj→Bool
 | .fam _ _ _ | .refs _ _=>false
 | _=>true
theorem Qds {x:AObj} (h:x.isPlain=true):x.plain=x:=by cases x <;> simp_all [AObj.isPlain,AObj.plain]
theorem Qbf {objs objs':List AObj} (h:∀(k w:Nat) (fl:Bool) (xs:List (List AV)),objs'[k]?=some (AObj.fam w fl xs)↔objs[k]?=some (AObj.fam w fl xs)) {id:Nat} (hb:BIG≤id):sto objs' id=sto objs id:=by
 rcases Vp objs id with ⟨c,_⟩ | ⟨_,⟨k,i,w,fl,xs,l,rfl,e2,e3,e4⟩ | e⟩
 ·omega
 ·rw [e4]; exact Xk ((h _ _ _ _).2 e2) e3
 ·rw [e]
  rcases Vp objs' id with ⟨c,_⟩ | ⟨_,⟨k,i,w,fl,xs,l,rfl,e2,e3,e4⟩ | e'⟩
  ·omega
  ·rw [Xk ((h _ _ _ _).1 e2) e3] at e; cases e
  ·exact e'
theorem Qb5 {objs:List AObj} {o:Nat} {x y:AObj} (ho:objs[o]?=some y) (hy:y.isFam=false) (hx:x.isPlain=true) (hb:o < BIG):sto (objs.set o x)=(sto objs).put o x:=by
 have hlt:o < objs.length:=(List.getElem?_eq_some_iff.1 ho).1
 funext k
 simp only [Sto.put]
 by_cases e:k=o
 ·subst e; rw [if_pos rfl,Zh hb]; simp [hlt,Qds hx]
 ·rw [if_neg e]
  rcases Nat.lt_or_ge k BIG with c | c
  ·rw [Zh c,Zh c,List.getElem?_set_ne (Ne.symm e)]
  ·refine Qbf (fun j w fl xs=>?_) c
   by_cases ej:j=o
   ·subst ej
    rw [ho]
    simp only [List.getElem?_set_self hlt,Option.some.injEq]
    exact ⟨fun q=>(by subst q; cases hx),fun q=>(by subst q; cases hy)⟩
   ·rw [List.getElem?_set_ne (Ne.symm ej)]
theorem Qfh {objs:List AObj} {x:AObj} (hx:x.isPlain=true) (hb:objs.length < BIG):sto (objs++[x])=(sto objs).put objs.length x:=by
 funext k
 simp only [Sto.put]
 by_cases e:k=objs.length
 ·subst e; rw [if_pos rfl,Zh hb]; simp [Qds hx]
 ·rw [if_neg e]
  have hk:∀j:Nat,j≠objs.length→(objs++[x])[j]?=objs[j]?:=fun j e=>by
   rcases Nat.lt_or_ge j objs.length with hk | hk
   ·rw [List.getElem?_append_left hk]
   ·rw [List.getElem?_append_right hk,List.getElem?_eq_none (by simp; omega),List.getElem?_eq_none hk]
  rcases Nat.lt_or_ge k BIG with c | c
  ·rw [Zh c,Zh c,hk k e]
  ·refine Qbf (fun j w fl xs=>?_) c
   by_cases ej:j=objs.length
   ·subst ej
    rw [List.getElem?_append_right (Nat.le_refl _),List.getElem?_eq_none (Nat.le_refl objs.length)]
    simp only [Nat.sub_self,List.getElem?_cons_zero,Option.some.injEq]
    exact ⟨fun q=>(by subst q; cases hx),fun q=>(by cases q)⟩
   ·rw [hk j ej]
theorem Qzr:sto []=fun _=>none:=by
 funext k
 rcases Vp [] k with ⟨_,e⟩ | ⟨_,⟨j,i,w,fl,xs,l,_,e2,_⟩ | e⟩
 ·rw [e]; rfl
 ·cases e2
 ·exact e
theorem Qzy {objs:List AObj} {o i w:Nat} {fl:Bool} {xs:List (List AV)} {l l':List AV} (ho:objs[o]?=some (.fam w fl xs)) (hi:xs[i]?=some l) :
  sto (objs.set o (.fam w fl (xs.set i l')))=(sto objs).put (fid o i) (.row false false true fl w l'):=by
 have hlt:o < objs.length:=(List.getElem?_eq_some_iff.1 ho).1
 have hli:i < xs.length:=(List.getElem?_eq_some_iff.1 hi).1
 funext k
 simp only [Sto.put]
 have hset:(objs.set o (AObj.fam w fl (xs.set i l')))[o]?=some (AObj.fam w fl (xs.set i l')):=List.getElem?_set_self hlt
 by_cases e:k=fid o i
 ·subst e; rw [if_pos rfl]; exact Xk hset (List.getElem?_set_self hli)
 ·rw [if_neg e]
  rcases Nat.lt_or_ge k BIG with c | c
  ·rw [Zh c,Zh c]
   by_cases ek:k=o
   ·subst ek; rw [ho]; simp [hlt,AObj.plain]
   ·rw [List.getElem?_set_ne (Ne.symm ek)]
  ·have back:∀j v w' fl' ys z,k=fid j v→(objs.set o (AObj.fam w fl (xs.set i l')))[j]?=some (.fam w' fl' ys)→ys[v]?=some z→sto objs k=some (.row false false true fl' w' z):=fun j v w' fl' ys z e1 e2 e3=>by
    subst e1
    by_cases ej:j=o
    ·subst ej
     simp only [List.getElem?_set_self hlt,Option.some.injEq] at e2
     cases e2
     have hv:v≠i:=fun q=>e (by rw [q])
     rw [List.getElem?_set_ne (Ne.symm hv)] at e3
     exact Xk ho e3
    ·rw [List.getElem?_set_ne (Ne.symm ej)] at e2; exact Xk e2 e3
   rcases Vp (objs.set o (AObj.fam w fl (xs.set i l'))) k with ⟨c',_⟩ | ⟨_,⟨j,v,w',fl',ys,z,e1,e2,e3,e4⟩ | e4⟩
   ·omega
   ·rw [e4,back j v w' fl' ys z e1 e2 e3]
   ·rw [e4]
    rcases Vp objs k with ⟨c',_⟩ | ⟨_,⟨j,v,w',fl',ys,z,e1,e2,e3,e5⟩ | e5⟩
    ·omega
    ·exfalso
     subst e1
     by_cases ej:j=o
     ·subst ej
      rw [ho] at e2; cases e2
      have hv:v≠i:=fun q=>e (by rw [q])
      rw [Xk (k:=j) (i:=v) hset (by rw [List.getElem?_set_ne (Ne.symm hv)]; exact e3)] at e4
      cases e4
     ·rw [Xk (k:=j) (i:=v) (by rw [List.getElem?_set_ne (Ne.symm ej)]; exact e2) e3] at e4; cases e4
    ·rw [e5]
theorem Yd (k:Nat):∀(i:Nat) (xs:List (List AV)),(Zi k i xs).length=xs.length
 | _,[]=>rfl
 | i,l::r=>by simp [Zi,Yd k (i+1) r]
theorem Yi (k:Nat):∀(i:Nat) (xs:List (List AV)) (j:Nat),(Zi k i xs)[j]?=(xs[j]?).map fun l=>.ref (fid k (i+j)) 0 l.length
 | _,[],j=>by simp [Zi]
 | i,l::r,0=>by simp [Zi]
 | i,l::r,j+1=>by
  simp only [Zi,List.getElem?_cons_succ]
  rw [Yi k (i+1) r j,show i+1+j=i+(j+1) by omega]
def InB (n id:Nat):Prop:=id < n∨∃k i,k < n∧id=fid k i
theorem InB.mono {n m id:Nat} (h:InB n id) (hm:n≤m):InB m id:=by
 rcases h with h | ⟨k,i,h,e⟩
 ·exact .inl (by omega)
 ·exact .inr ⟨k,i,by omega,e⟩
theorem InB.not {n id:Nat} (h:n≤id) (hb:id < BIG):¬ InB n id:=by
 rintro (c | ⟨k,i,_,e⟩)
 ·omega
 ·have:=Zn k i; omega
section
variable {P:Program} {B:Nat} {W0 W:World} {D:List Nat} {M:CM} {ι:Inj} {σ:Sto}
theorem Qaj {xs:List AV} {o:Nat}:o∈AV.idsL xs↔∃x∈xs,o∈x.ids:=by
 induction xs with
 | nil=>simp [AV.idsL]
 | cons x xs ih=>simp [AV.idsL,ih]
theorem Qa.congr {M:CM} {ι ι':Inj} {v:Value} {a:AV} (h:Qa M ι v a) (hi:∀o∈a.ids,ι' o=ι o):Qa M ι' v a:=by
 induction h generalizing ι' with
 | undef h=>exact .undef h
 | bool b=>exact .bool b
 | int k n=>exact .int k n
 | str s=>exact .str s
 | nilp=>exact .nilp
 | nils=>exact .nils
 | nilf=>exact .nilf
 | nilm=>exact .nilm
 | nili=>exact .nili
 | emp a=>exact .emp a
 | emn a c=>exact .emn a c
 | lin o i n h ih=>exact .lin o i n (ih (by simpa [AV.ids] using hi))
 | lst0 a fl=>exact .lst0 a fl
 | ref0 a o p hp hc=>exact .ref0 a o p (by rw [hi o (by simp [AV.ids])]; exact hp) hc
 | fz b off cs f hcs hm hr ih=>exact .fz b off cs f hcs hm hr
 | lst b off cap w fl xs f hcap hfl hc hm hr ih=>exact .lst b off cap w fl xs f hcap hfl hc hm hr
 | ref o i n p off cap hp h1 h2 h3=>exact .ref o i n p off cap (by rw [hi o (by simp [AV.ids])]; exact hp) h1 h2 h3
 | ptr o i c p hp=>exact .ptr o i c p (by rw [hi o (by simp [AV.ids])]; exact hp)
 | mp o p hp=>exact .mp o p (by rw [hi o (by simp [AV.ids])]; exact hp)
 | yld o p hp=>exact .yld o p (by rw [hi o (by simp [AV.ids])]; exact hp)
 | ifc t v' v hr ih=>exact .ifc t v' v (ih (fun o ho=>hi o (by simpa [AV.ids] using ho)))
 | fn f first' caps' first caps hy hm h1 h2 hr1 hr2 ih1 ih2 =>
  exact .fn f first' caps' first caps hy hm h1 h2 (fun j v y a b=>ih1 j v y a b (fun o ho=>hi o (by simp only [AV.ids,List.mem_append,Qaj]; exact .inl ⟨y,List.mem_of_getElem? b,ho⟩)))
   (fun j v y a b=>ih2 j v y a b (fun o ho=>hi o (by simp only [AV.ids,List.mem_append,Qaj]; exact .inr ⟨y,List.mem_of_getElem? b,ho⟩)))
 | agg cs' cs h hc hr ih=>exact .agg cs' cs h hc (fun j v y a b=>ih j v y a b (fun o ho=>hi o (by simp only [AV.ids,Qaj]; exact ⟨y,List.mem_of_getElem? b,ho⟩)))
 | tup vs' vs h hr ih=>exact .tup vs' vs h (fun j v y a b=>ih j v y a b (fun o ho=>hi o (by simp only [AV.ids,Qaj]; exact ⟨y,List.mem_of_getElem? b,ho⟩)))
structure TrE (M:CM) (ι ι':Inj) (x x':AV):Prop where
 shaped:∀w,x.shaped w→x'.shaped w
 scs:x.scs=true→x'.scs=true
 cells:∀(j:Nat) (y':AV),x'.flat[j]?=some y'→∃y,x.flat[j]?=some y∧(∀v,Qa M ι v y→Qa M ι' v y')∧∀v,Qa M noInj v y→Qa M noInj v y'
inductive TrO (M:CM) (ι ι':Inj):AObj→AObj→Prop
 | row (bx ro nr fl:Bool) (w:Nat) (xs xs':List AV) (hl:xs'.length=xs.length) (hnr:nr=true→AV.nrL xs=true→AV.nrL xs'=true) (h:∀(i:Nat) (x x':AV),xs[i]?=some x→xs'[i]?=some x'→TrE M ι ι' x x'):TrO M ι ι' (.row bx ro nr fl w xs) (.row bx ro nr fl w xs')
 | loop (nt:Nat) (sl sl':List (Nat × AV)) (ps:List Tmp) (as bd:Code) (st:LoopState) (pe:Option Code) (h:∀t y',lk sl' t=some y'→∃y,lk sl t=some y∧∀v,Qa M ι v y→Qa M ι' v y'):TrO M ι ι' (.loop nt sl ps as bd st pe) (.loop nt sl' ps as bd st pe)
theorem Rel.via {σ':Sto} {ι':Inj} (h:Rel P B W0 D M ι σ W) (g:Nat → Option Nat) (hinj:∀o o' k,g o=some k→g o'=some k→o=o') (hι:∀o k,g o=some k→ι' o=ι k)
  (hobj:∀o x',σ' o=some x'→x'≠.dead→∃k x,g o=some k∧σ k=some x∧TrO M ι ι' x x') (hused:∀o,ι' o=none→σ' o=none∨σ' o=some .dead):Rel P B W0 D M ι' σ' W:=by
 have row:∀o bx ro nr fl w xs',σ' o=some (.row bx ro nr fl w xs')→∃k xs p,g o=some k∧σ k=some (.row bx ro nr fl w xs)∧ι k=some p∧ι' o=some p∧Qeu B M ι W ro nr fl w xs p∧xs'.length=xs.length∧(nr=true→AV.nrL xs=true→AV.nrL xs'=true) ∧
   ∀(i:Nat) (x x':AV),xs[i]?=some x→xs'[i]?=some x'→TrE M ι ι' x x':=by
  intro o bx ro nr fl w xs' ho
  obtain ⟨k,x,h1,h2,h3⟩:=hobj o _ ho (by simp)
  cases h3 with
  | row _ _ _ _ _ xs _ hl hnr ht =>
   obtain ⟨p,hp,hr⟩:=h.row k _ _ _ _ _ _ h2
   exact ⟨k,xs,p,h1,h2,hp,by rw [hι o k h1]; exact hp,hr,hl,hnr,ht⟩
 have loop:∀o fn sl' ps as bd st pe,σ' o=some (.loop fn sl' ps as bd st pe)→∃k sl,g o=some k∧σ k=some (.loop fn sl ps as bd st pe)∧∀t y',lk sl' t=some y'→∃y,lk sl t=some y∧∀v,Qa M ι v y→Qa M ι' v y':=by
  intro o fn sl' ps as bd st pe ho
  obtain ⟨k,x,h1,h2,h3⟩:=hobj o _ ho (by simp)
  cases h3 with
  | loop _ sl _ _ _ _ _ _ ht=>exact ⟨k,sl,h1,h2,ht⟩
 refine ⟨h.size,h.below,h.defs,h.agree,fun k bx1 nr1 fl1 w1 xs1 q j hk hq hj=>?_,?_,?_,?_,?_,hused⟩
 ·obtain ⟨m,xs,p,h1,h2,h3,h4,hr,hl,hnr,ht⟩:=row k _ _ _ _ _ _ hk
  rw [h4] at hq; cases hq
  exact h.cool _ _ _ _ _ _ _ _ h2 h3 hj
 ·intro o bx ro nr fl w xs' ho
  obtain ⟨k,xs,p,h1,h2,h3,h4,hr,hl,hnr,ht⟩:=row o bx ro nr fl w xs' ho
  have back:∀(i:Nat) (x':AV),xs'[i]?=some x'→∃x,xs[i]?=some x∧TrE M ι ι' x x':=fun i x' hi=>by
   have hlt:i < xs.length:=by rw [←hl]; exact (List.getElem?_eq_some_iff.1 hi).1
   exact ⟨_,List.getElem?_eq_getElem hlt,ht i _ _ (List.getElem?_eq_getElem hlt) hi⟩
  refine ⟨p,h4,⟨hr.pw,hr.pos,hr.cpos,by rw [hl]; exact hr.len,fun x' hx'=>?_,fun hn=>hnr hn (hr.nr hn),fun hf x' hx'=>?_,fun i j x' y' hi hj=>?_,hr.own,fun hro i j x' y' hi hj=>?_⟩⟩
  ·obtain ⟨i,hi,rfl⟩:=List.mem_iff_getElem.1 hx'
   obtain ⟨x,hx,t⟩:=back i _ (List.getElem?_eq_getElem hi)
   exact t.shaped w (hr.shaped x (List.mem_of_getElem? hx))
  ·obtain ⟨i,hi,rfl⟩:=List.mem_iff_getElem.1 hx'
   obtain ⟨x,hx,t⟩:=back i _ (List.getElem?_eq_getElem hi)
   exact t.scs (hr.fl hf x (List.mem_of_getElem? hx))
  ·obtain ⟨x,hx,t⟩:=back i x' hi
   obtain ⟨y,hy,t1,_⟩:=t.cells j y' hj
   obtain ⟨v,hv,hrep⟩:=hr.cells i j x y hx hy
   exact ⟨v,hv,t1 v hrep⟩
  ·obtain ⟨x,hx,t⟩:=back i x' hi
   obtain ⟨y,hy,_,t2⟩:=t.cells j y' hj
   obtain ⟨v,hv,hrep⟩:=hr.imm hro i j x y hx hy
   exact ⟨v,hv,t2 v hrep⟩
 ·intro o fn sl' ps as bd st pe ho
  obtain ⟨k,sl,h1,h2,ht⟩:=loop o fn sl' ps as bd st pe ho
  obtain ⟨q,nt,hq,hnt,hb,tmps,hsz,hrec,hsl⟩:=h.loop k fn sl ps as bd st pe h2
  refine ⟨q,nt,by rw [hι o k h1]; exact hq,hnt,hb,tmps,hsz,hrec,fun t y' hy'=>?_⟩
  obtain ⟨y,hy,t1⟩:=ht t y' hy'
  exact t1 _ (hsl t y hy)
 ·intro o o' bx nr fl w xs bx' nr' fl' w' xs' p p' hne ho ho' hp hp'
  obtain ⟨k,ys,q,h1,h2,h3,h4,_⟩:=row o _ _ _ _ _ _ ho
  obtain ⟨k',ys',q',h1',h2',h3',h4',_⟩:=row o' _ _ _ _ _ _ ho'
  rw [hp] at h4; cases h4
  rw [hp'] at h4'; cases h4'
  exact h.apart k k' _ _ _ _ _ _ _ _ _ _ _ _ (fun e=>hne (hinj o o' k h1 (e ▸ h1'))) h2 h2' h3 h3'
 ·intro o o' fn sl ps as bd st pe fn' sl' ps' as' bd' st' pe' p p' hne ho ho' hp hp'
  obtain ⟨k,s1,h1,h2,_⟩:=loop o fn sl ps as bd st pe ho
  obtain ⟨k',s1',h1',h2',_⟩:=loop o' fn' sl' ps' as' bd' st' pe' ho'
  exact h.loops k k' _ _ _ _ _ _ _ _ _ _ _ _ _ _ _ _ (fun e=>hne (hinj o o' k h1 (e ▸ h1'))) h2 h2' (by rw [←hι o k h1]; exact hp) (by rw [←hι o' k' h1']; exact hp')
end
end Go.Ab
namespace Go.Ab
open Go.RowKit
section
variable {P:Program} {B:Nat} {W0 W W':World} {D:List Nat} {M:CM} {ι:Inj} {σ:Sto} {s:Slots} {a:Act}
def Qg (M:CM) (ι:Inj) (s:Slots) (tmps:Array Value):Prop:=∀t x,s t=some x→Qa M ι (tmps.getD t undef) x
theorem Qg.mono {M':CM} {ι':Inj} {tmps:Array Value} (h:Qg M ι s tmps) (hM:M.le M') (hι:ι.le ι'):Qg M' ι' s tmps:=fun t x hx=>(h t x hx).mono hM hι
theorem Qg8 {v:Value} {x:AV} (h:Qdi v=some x):Qa M ι v x:=by
 unfold Qdi at h
 split at h <;> first | cases h | skip
 ·exact .bool _
 ·exact .int _ _
 ·exact .str _
 ·exact .nilp
 ·exact .nils
 ·exact .nilf
 ·exact .nilm
 ·exact .nili
 ·exact .fn _ _ _ _ _ (by simp) (by simp) rfl rfl (fun j v y h1 h2=>by simp at h2) (fun j v y h1 h2=>by simp at h2)
 ·rename_i h1 h2
  exact .undef (by cases v <;> first | rfl | (exfalso; exact h1 _ rfl) | (exfalso; exact h2 _ rfl))
theorem Qic {v:Value} {x:AV} (h:Qdi v=some x):x.cell=true:=by
 unfold Qdi at h
 split at h <;> first | cases h; rfl | cases h
theorem Qb2:∀{vs:List Value} {xs:List AV},Qai vs=some xs→xs.length=vs.length∧(∀(j:Nat) (v:Value) (y:AV),vs[j]?=some v→xs[j]?=some y→Qa M ι v y)∧∀y∈xs,AV.cell y=true
 | [],xs,h=>by simp [Qai] at h; subst h; simp
 | v::vs,xs,h=>by
  simp only [Qai] at h
  split at h
  ·rename_i a as h1 h2
   cases h
   obtain ⟨e1,e2,e3⟩:=Qb2 h2
   refine ⟨by simp [e1],fun j u y hu hy=>?_,fun y hy=>?_⟩
   ·cases j with
    | zero=>simp at hu hy; subst hu; subst hy; exact Qg8 h1
    | succ j=>exact e2 j u y (by simpa using hu) (by simpa using hy)
   ·rcases List.mem_cons.1 hy with rfl | hy
    ·exact Qic h1
    ·exact e3 y hy
  ·cases h
theorem Qd1 {v:Value} {x:AV} (h:Qhv v=some x):Qa M ι v x∧x.shaped v.cells.size:=by
 unfold Qhv at h
 split at h
 ·rename_i cs
  cases hc:Qai cs.toList with
  | none=>simp [hc] at h
  | some xs =>
   simp [hc] at h
   subst h
   obtain ⟨e1,e2,e3⟩:=Qb2 (M:=M) (ι:=ι) hc
   exact ⟨.agg cs xs (by simpa using e1.symm) e3 (fun j u y hu hy=>e2 j u y (by simpa using hu) hy),⟨.inl rfl,by simpa [AV.flat,Value.cells] using e1,by simpa [AV.flat] using e3⟩⟩
 ·have hc:=Qic h
  have hr:Qa M ι v x:=Qg8 h
  refine ⟨hr,⟨.inr hc,?_,fun y hy=>?_⟩⟩
  ·rw [AV.flat_cell hc]
   have:=(hr.cells (.inr hc)).1
   rw [AV.flat_cell hc] at this; exact this.symm
  ·rw [AV.flat_cell hc] at hy; simp at hy; subst hy; exact hc
theorem Qe (hs:Qg M ι s a.tmps) {x:Operand} {y:AV} (h:evo s x=some y):Qa M ι (a.eval x) y:=by
 cases x with
 | tmp t=>exact hs t y h
 | const v=>exact (Qd1 (M:=M) (ι:=ι) h).1
 | global g =>
  simp only [evo] at h
  cases hg:Qfn g with
  | none=>rw [hg] at h; cases h
  | some xs =>
   rw [hg] at h
   simp only [Option.map_eq_some_iff] at h
   obtain ⟨cs,hc,rfl⟩:=h
   obtain ⟨e1,e2,e3⟩:=Qb2 (M:=M) (ι:=noInj) hc
   refine .fz g 0 cs (fun j=>xs.getD j undef) e3 (fun j y hy=>?_) (fun j y hy=>?_)
   ·have hj:=(List.getElem?_eq_some_iff.1 hy).1
    rw [Nat.zero_add,show xs.getD j undef=xs[j]'(by omega) by simp [List.getD,show j < xs.length by omega]]
    exact M.ok g xs hg j _ (List.getElem?_eq_getElem (by omega))
   ·have hj:=(List.getElem?_eq_some_iff.1 hy).1
    rw [show xs.getD j undef=xs[j]'(by omega) by simp [List.getD,show j < xs.length by omega]]
    exact e2 j _ y (List.getElem?_eq_getElem (by omega)) hy
 | func f =>
  simp [evo] at h
  subst h
  exact .fn _ _ _ _ _ (by simp) (by simp) rfl rfl (fun j v y h1 h2=>by simp at h2) (fun j v y h1 h2=>by simp at h2)
theorem Vo (hs:Qg M ι s a.tmps):∀{xs:List Operand} {ys:List AV},Ja s xs=some ys→ys.length=xs.length∧∀(j:Nat) (x:Operand) (y:AV),xs[j]?=some x→ys[j]?=some y→evo s x=some y∧Qa M ι (a.eval x) y
 | [],ys,h=>by simp [Ja] at h; subst h; simp
 | x::xs,ys,h=>by
  simp only [Ja] at h
  split at h
  ·rename_i b bs h1 h2
   cases h
   obtain ⟨e1,e2⟩:=Vo hs h2
   refine ⟨by simp [e1],fun j u y hu hy=>?_⟩
   cases j with
   | zero=>simp at hu hy; subst hu; subst hy; exact ⟨h1,Qe hs h1⟩
   | succ j=>exact e2 j u y (by simpa using hu) (by simpa using hy)
  ·cases h
theorem Zq {t:TypeId} {T:TI} (h:ti P t=some T):∃d i,P.underlying t=some d∧P.info? t=some i∧T.kind=Ym d∧T.size=i.size∧T.bytes=i.bytes ∧
  T.agg=Qrs d∧T.zero=i.zero.bind Qhv∧T.eqok=eqDeep P t∧T.fok=(match d with | .struct fs=>fs.toList.all fun f=>(P.info? f.type).isSome | _=>true):=by
 unfold ti at h
 split at h
 ·rename_i d i h1 h2
  cases h
  exact ⟨d,i,h1,h2,rfl,rfl,rfl,rfl,rfl,rfl,rfl⟩
 ·cases h
theorem Qob {t:TypeId} {i:TypeInfo} (h:P.info? t=some i) (W:World):(typeInfo t).run P W=.ok i W:=by simp [typeInfo,h]
theorem Z9 {t:TypeId} {i:TypeInfo} (h:P.info? t=some i) (W:World):(sizeOf t).run P W=.ok i.size W:=by simp [sizeOf,Qob h]
theorem Qc9 {t:TypeId} {T:TI} (h:ti P t=some T) (W:World):(isAgg t).run P W=.ok T.agg W:=by
 obtain ⟨d,i,h1,h2,h3,h4,h5,h6,_⟩:=Zq h
 simp only [isAgg,Sem.run_bind,run_underlying h1,Result.andThen_ok,h6]
 cases d <;> rfl
theorem Zk {d:TypeDesc} {e:TypeId} (h:Ym d=.slice e):d=.slice e:=by cases d <;> simp [Ym] at h; subst h; rfl
theorem Qa4 {d:TypeDesc} {n:Nat} {e:TypeId} (h:Ym d=.array n e):d=.array n e:=by cases d <;> simp [Ym] at h; obtain ⟨rfl,rfl⟩:=h; rfl
theorem Qse {d:TypeDesc} {k:IntKind} (h:Ym d=.int k):d=.int k:=by cases d <;> simp [Ym] at h; subst h; rfl
theorem Qq7 {d:TypeDesc} (h:Ym d=.bool):d=.bool:=by cases d <;> simp [Ym] at h; rfl
theorem Qcz {d:TypeDesc} {fs:List (Nat × TypeId)} (h:Ym d=.struct fs):∃gs,d=.struct gs∧fs=gs.toList.map fun f=>(f.offset,f.type):=by cases d <;> simp [Ym] at h; exact ⟨_,rfl,h.symm⟩
theorem Qtk {d:TypeDesc} (h:Ym d=.ptr):∃e,d=.pointer e:=by cases d <;> simp [Ym] at h; exact ⟨_,rfl⟩
theorem Qra {d:TypeDesc} (h:Ym d=.func):∃a b c,d=.func a b c:=by cases d <;> simp [Ym] at h; exact ⟨_,_,_,rfl⟩
theorem Qa.bool_inv {M:CM} {ι:Inj} {v:Value} {b:Bool} (h:Qa M ι v (.bool b)):v=.bool b:=by cases h; rfl
theorem Qa.int_inv {M:CM} {ι:Inj} {v:Value} {k:IntKind} {n:Int} (h:Qa M ι v (.int k n)):v=.int k n:=by cases h; rfl
theorem Qa.nils_inv {M:CM} {ι:Inj} {v:Value} (h:Qa M ι v .nils):v=.slice none 0 0:=by cases h; rfl
theorem Qa.emp_inv {M:CM} {ι:Inj} {v:Value} (h:Qa M ι v .emp):∃a,v=.slice a 0 0:=by cases h; exact ⟨_,rfl⟩
theorem Qa.str_inv {M:CM} {ι:Inj} {v:Value} {x:ByteArray} (h:Qa M ι v (.str x)):v=.string x:=by cases h; rfl
theorem Qdk {M:CM} {ι:Inj} {v:Value} {x:AV} {n:Nat} (h:Qa M ι v x) (hn:asN x=some n):∃k,v=.int k n:=by
 unfold asN at hn
 split at hn
 ·rename_i k m
  split at hn
  ·cases hn
  ·simp only [Option.some.injEq] at hn
   rw [h.int_inv]
   exact ⟨k,by congr; omega⟩
 ·cases hn
theorem Qjq {t:TypeId} {T:TI} (ht:ti P t=some T) {cs:List AV} {x:AV} (h:K6 T cs=some x) (hc:∀y∈cs,AV.cell y=true) :
  (T.agg=true∧T.size≤cs.length∧x=.agg (cs.take T.size))∨(T.agg=false∧∃r,cs=x::r):=by
 unfold K6 at h
 split at h
 ·rename_i hT
  split at h
  ·cases h; exact .inl ⟨hT,by assumption,rfl⟩
  ·cases h
 ·rename_i hT
  cases cs with
  | nil=>simp at h
  | cons c r=>simp at h; subst h; exact .inr ⟨by simpa using hT,r,rfl⟩
theorem Qbg {t:TypeId} {T:TI} (ht:ti P t=some T) {cs:List AV} {x:AV} (h:K6 T cs=some x) (hc:∀y∈cs,AV.cell y=true) {b off:Nat}
  (hcell:∀(j:Nat) (y:AV),cs[j]?=some y→∃v,W.cell? ⟨b,off+j,none⟩=some v∧Qa M ι v y) :
  ∃v,(loadVar t ⟨b,off,none⟩).run P W=.ok v W∧Qa M ι v x:=by
 obtain ⟨d,i,h1,h2,h3,h4,_⟩:=Zq ht
 have hadd:∀j,(⟨b,off,none⟩:Addr).add j=⟨b,off+j,none⟩:=fun j=>by unfold Addr.add; split <;> simp_all
 rcases Qjq ht h hc with ⟨hT,hlen,rfl⟩ | ⟨hT,r,rfl⟩
 ·have hv:∀j,j < T.size→∃v,W.cell? ⟨b,off+j,none⟩=some v∧∀y,cs[j]?=some y→Qa M ι v y:=fun j hj=>by
   obtain ⟨v,hv,hr⟩:=hcell j cs[j] (List.getElem?_eq_getElem (by omega))
   exact ⟨v,hv,fun y hy=>by rw [List.getElem?_eq_getElem (by omega)] at hy; cases hy; exact hr⟩
  have hrun:=run_loadCells (P:=P) W ⟨b,off,none⟩ T.size (fun j=>(W.cell? ⟨b,off+j,none⟩).getD undef) (fun j hj=>by
   obtain ⟨v,hv,_⟩:=hv j hj
   rw [hadd,hv]; rfl)
  refine ⟨_,by simp only [loadVar,Sem.run_bind,Qc9 ht,hT,Result.andThen_ok,if_true,Z9 h2,←h4,hrun,Sem.run_pure]; rfl,?_⟩
  refine .agg _ _ (by simp; omega) (fun y hy=>hc y (List.mem_of_mem_take hy)) (fun j v y hv' hy=>?_)
  have hj:j < T.size:=by have:=(List.getElem?_eq_some_iff.1 hy).1; simp at this; omega
  obtain ⟨u,hu,hr⟩:=hv j hj
  rw [List.getElem?_take,if_pos hj] at hy
  simp [hj] at hv'
  rw [hu] at hv'
  simp at hv'; subst hv'
  exact hr y hy
 ·obtain ⟨v,hv,hr⟩:=hcell 0 x rfl
  refine ⟨v,?_,hr⟩
  simp only [loadVar,Sem.run_bind,Qc9 ht,hT,Result.andThen_ok,Bool.false_eq_true,if_false]
  rw [run_load]
  simp at hv
  simp [hv]
end
end Go.Ab
namespace Go.Ab
open Go.RowKit
section
variable {P:Program} {B:Nat} {W0 W W':World} {D:List Nat} {M:CM} {ι:Inj} {σ:Sto} {s:Slots} {a:Act}
theorem Qf5 {t:TypeId} {k:SK} (ht:Jf P t=some k) {x y:AV} {b:Bool} (h:Qj4 k x y=some b) {u v:Value} (hu:Qa M ι u x) (hv:Qa M ι v y) (d:Nat) (W:World) :
  (Op.equalIn (d+1) t u v).run P W=.ok b W:=by
 unfold Qj4 at h
 split at h
 ·rw [hu.int_inv,hv.int_inv]
  split at h
  ·rename_i hk
   subst hk
   cases h
   unfold Jf at ht
   split at ht <;> cases ht
   rename_i hd
   exact run_equalIn_int W d t _ _ _ _ hd
  ·cases h
 ·rw [hu.bool_inv,hv.bool_inv]
  cases h
  unfold Jf at ht
  split at ht <;> cases ht
  rename_i hd
  exact run_equalIn_bool' W d t _ _ hd
 ·rw [hu.str_inv,hv.str_inv]
  cases h
  unfold Jf at ht
  split at ht <;> cases ht
  rename_i hd
  exact run_equalIn_string W d t _ _ hd
 ·cases h
theorem V6 {t:TypeId} {k:SK} (ht:Jf P t=some k) {cs:Array Value} {off:Nat} {v:Value} (hv:cs[off]?=some v) (W:World):(part t cs off).run P W=.ok v W:=by
 have hagg:(isAgg t).run P W=.ok false W:=by
  unfold Jf at ht
  split at ht <;> first | cases ht; done | skip
  all_goals
   rename_i hd
   simp [isAgg,run_underlying hd]
 simp [part,hagg,hv]
theorem Qfg {cs cs':Array Value} {as bs:List AV} (hsz:cs.size=as.length) (hsz':cs'.size=bs.length) (hr:∀(j:Nat) (v:Value) (y:AV),cs[j]?=some v→as[j]?=some y→Qa M ι v y)
  (hr':∀(j:Nat) (v:Value) (y:AV),cs'[j]?=some v→bs[j]?=some y→Qa M ι v y) (d:Nat) (W:World) :
  ∀(fs:List Field) (i:Nat) (ks:List SK) (r:Bool),J6 P i fs=some ks→scEqL ks (as.drop i) (bs.drop i)=some r→(Op.eqFields (d+1) cs cs' fs).run P W=.ok r W
 | [],i,ks,r,hk,he=>by
  simp [J6] at hk; subst hk
  cases ha:as.drop i <;> cases hb:bs.drop i <;> simp [ha,hb,scEqL] at he
  subst he; rfl
 | f::fs,i,ks,r,hk,he=>by
  simp only [J6] at hk
  split at hk
  ·rename_i hf
   simp only [Bool.and_eq_true,bne_iff_ne,ne_eq,beq_iff_eq] at hf
   split at hk
   ·rename_i k ks' h1 h2
    cases hk
    cases ha:as.drop i with
    | nil=>rw [ha] at he; simp [scEqL] at he
    | cons x xs =>
     cases hb:bs.drop i with
     | nil=>rw [ha,hb] at he; simp [scEqL] at he
     | cons y ys =>
      rw [ha,hb] at he
      simp only [scEqL] at he
      split at he
      ·rename_i p q e1 e2
       cases he
       have hxa:as[i]?=some x:=by have:=List.getElem?_drop (xs:=as) (i:=i) (j:=0); rw [ha] at this; simpa using this.symm
       have hyb:bs[i]?=some y:=by have:=List.getElem?_drop (xs:=bs) (i:=i) (j:=0); rw [hb] at this; simpa using this.symm
       have hi:i < cs.size:=by rw [hsz]; exact (List.getElem?_eq_some_iff.1 hxa).1
       have hi':i < cs'.size:=by rw [hsz']; exact (List.getElem?_eq_some_iff.1 hyb).1
       have hva:=Array.getElem?_eq_getElem hi
       have hvb:=Array.getElem?_eq_getElem hi'
       have hxs:as.drop (i+1)=xs:=by rw [←List.drop_drop,ha]; rfl
       have hys:bs.drop (i+1)=ys:=by rw [←List.drop_drop,hb]; rfl
       have ih:=Qfg hsz hsz' hr hr' d W fs (i+1) ks' q h2 (by rw [hxs,hys]; exact e2)
       simp only [Op.eqFields]
       rw [if_pos hf.1,hf.2]
       simp only [Sem.run_bind,V6 h1 hva,V6 h1 hvb,Result.andThen_ok,Qf5 h1 e1 (hr i _ _ hva hxa) (hr' i _ _ hvb hyb) d W]
       cases p
       ·simp
       ·simpa using ih
      ·cases he
   ·cases hk
  ·cases hk
theorem Qc0 {e:TypeId} {k:SK} (hk:Jf P e=some k) (hc:P.cellsOf e=1) {cs cs':Array Value} {as bs:List AV} (hsz:cs.size=as.length) (hsz':cs'.size=bs.length) (hr:∀(j:Nat) (v:Value) (y:AV),cs[j]?=some v→as[j]?=some y→Qa M ι v y)
  (hr':∀(j:Nat) (v:Value) (y:AV),cs'[j]?=some v→bs[j]?=some y→Qa M ι v y) (d:Nat) (W:World) :
  ∀(n i:Nat) (r:Bool),scEqL (List.replicate n k) (as.drop i) (bs.drop i)=some r→(Op.eqItems (d+1) e (P.cellsOf e) cs cs' (List.range' i n)).run P W=.ok r W
 | 0,i,r,he=>by
  cases ha:as.drop i <;> cases hb:bs.drop i <;> simp [ha,hb,scEqL] at he
  subst he; simp [Op.eqItems]
 | n+1,i,r,he=>by
  rw [List.replicate_succ] at he
  cases ha:as.drop i with
  | nil=>rw [ha] at he; simp [scEqL] at he
  | cons x xs =>
   cases hb:bs.drop i with
   | nil=>rw [ha,hb] at he; simp [scEqL] at he
   | cons y ys =>
    rw [ha,hb] at he
    simp only [scEqL] at he
    split at he
    ·rename_i p q e1 e2
     cases he
     have hxa:as[i]?=some x:=by have:=List.getElem?_drop (xs:=as) (i:=i) (j:=0); rw [ha] at this; simpa using this.symm
     have hyb:bs[i]?=some y:=by have:=List.getElem?_drop (xs:=bs) (i:=i) (j:=0); rw [hb] at this; simpa using this.symm
     have hi:i < cs.size:=by rw [hsz]; exact (List.getElem?_eq_some_iff.1 hxa).1
     have hi':i < cs'.size:=by rw [hsz']; exact (List.getElem?_eq_some_iff.1 hyb).1
     have hva:=Array.getElem?_eq_getElem hi
     have hvb:=Array.getElem?_eq_getElem hi'
     have hxs:as.drop (i+1)=xs:=by rw [←List.drop_drop,ha]; rfl
     have hys:bs.drop (i+1)=ys:=by rw [←List.drop_drop,hb]; rfl
     have ih:=Qc0 hk hc hsz hsz' hr hr' d W n (i+1) q (by rw [hxs,hys]; exact e2)
     have hii:i*P.cellsOf e=i:=by rw [hc,Nat.mul_one]
     simp only [List.range'_succ,Op.eqItems]
     simp only [Sem.run_bind,hii,V6 hk hva,V6 hk hvb,Result.andThen_ok,Qf5 hk e1 (hr i _ _ hva hxa) (hr' i _ _ hvb hyb) d W]
     cases p
     ·simp
     ·simpa using ih
    ·cases he
theorem Qjr {t:TypeId} {ks:List SK} (ht:eqT P t=some ks) {as bs:List AV} {r:Bool} (he:scEqL ks as bs=some r) {u v:Value} (hu:Qa M ι u (.agg as)) (hv:Qa M ι v (.agg bs)) (d:Nat) (W:World) :
  (Op.equalIn (d+2) t u v).run P W=.ok r W∧P.eqGuardType P.depth t=false:=by
 cases hu with
 | agg cs _ h1 hc1 r1 =>
 cases hv with
 | agg cs' _ h2 hc2 r2 =>
 unfold eqT at ht
 split at ht
 ·cases ht
 ·rename_i hg
  refine ⟨?_,by simpa using hg⟩
  split at ht
  ·rename_i fs hd
   split at ht
   ·cases ht
   ·rename_i hst
    have hf:P.underlying t=some (.struct (P.fieldsOf t)):=by simp [Program.fieldsOf,hd]
    have hff:P.fieldsOf t=fs:=by simp [Program.fieldsOf,hd]
    rw [run_equalIn_agg W (d+1) t cs cs' hf (by simpa using hst),hff]
    exact Qfg h1 h2 r1 r2 d W fs.toList 0 ks r ht (by simpa using he)
  ·rename_i n e hd
   split at ht
   ·rename_i hce
    cases hk:Jf P e with
    | none=>simp [hk] at ht
    | some k =>
     simp [hk] at ht
     subst ht
     have hce':P.cellsOf e=1:=by simpa using hce
     cases hi:P.info? e with
     | none=>simp [Program.cellsOf,hi] at hce'
     | some i =>
      rw [run_equalIn_array W (d+1) cs cs' hd hi,List.range_eq_range']
      exact Qc0 hk hce' h1 h2 r1 r2 d W n 0 r (by simpa using he)
   ·cases ht
  ·cases ht
theorem Qij:∀(ks ks':List SK) (as bs:List AV) (r:Bool),scEqL (ks++ks') as bs=some r→∃p q,scEqL ks (as.take ks.length) (bs.take ks.length)=some p∧scEqL ks' (as.drop ks.length) (bs.drop ks.length)=some q∧r=(p && q)∧ks.length≤as.length∧ks.length≤bs.length
 | [],ks',as,bs,r,h=>⟨true,r,rfl,h,rfl,Nat.zero_le _,Nat.zero_le _⟩
 | k::ks,ks',[],bs,r,h=>by simp [scEqL] at h
 | k::ks,ks',a::as,[],r,h=>by simp [scEqL] at h
 | k::ks,ks',a::as,b::bs,r,h=>by
  simp only [List.cons_append,scEqL] at h
  split at h
  ·rename_i x y h1 h2
   cases h
   obtain ⟨p,q,g1,g2,g3,g4,g5⟩:=Qij ks ks' as bs y h2
   refine ⟨x && p,q,?_,g2,by rw [g3,Bool.and_assoc],by simpa using g4,by simpa using g5⟩
   simp only [List.length_cons,List.take_succ_cons,scEqL,h1,g1]
  ·cases h
theorem Qac {cs cs':Array Value} {as bs:List AV} (hsz:cs.size=as.length) (hsz':cs'.size=bs.length) (hr:∀(j:Nat) (v:Value) (y:AV),cs[j]?=some v→as[j]?=some y→Qa M ι v y)
  (hr':∀(j:Nat) (v:Value) (y:AV),cs'[j]?=some v→bs[j]?=some y→Qa M ι v y) (d:Nat) (W:World) :
  ∀(fs:List Field) (i:Nat) (ks:List SK) (r:Bool),Qas P i fs=some ks→scEqL ks (as.drop i) (bs.drop i)=some r→(Op.eqFields (d+2) cs cs' fs).run P W=.ok r W
 | [],i,ks,r,hk,he=>by
  simp [Qas] at hk; subst hk
  cases ha:as.drop i <;> cases hb:bs.drop i <;> simp [ha,hb,scEqL] at he
  subst he; rfl
 | f::fs,i,ks,r,hk,he=>by
  simp only [Qas] at hk
  split at hk
  ·rename_i hf
   simp only [Bool.and_eq_true,bne_iff_ne,ne_eq,beq_iff_eq] at hf
   split at hk
   ·rename_i k h1
    split at hk
    ·rename_i ks' h2
     cases hk
     cases ha:as.drop i with
     | nil=>rw [ha] at he; simp [scEqL] at he
     | cons x xs =>
      cases hb:bs.drop i with
      | nil=>rw [ha,hb] at he; simp [scEqL] at he
      | cons y ys =>
       rw [ha,hb] at he
       simp only [scEqL] at he
       split at he
       ·rename_i p q e1 e2
        cases he
        have hxa:as[i]?=some x:=by have:=List.getElem?_drop (xs:=as) (i:=i) (j:=0); rw [ha] at this; simpa using this.symm
        have hyb:bs[i]?=some y:=by have:=List.getElem?_drop (xs:=bs) (i:=i) (j:=0); rw [hb] at this; simpa using this.symm
        have hi:i < cs.size:=by rw [hsz]; exact (List.getElem?_eq_some_iff.1 hxa).1
        have hi':i < cs'.size:=by rw [hsz']; exact (List.getElem?_eq_some_iff.1 hyb).1
        have hva:=Array.getElem?_eq_getElem hi
        have hvb:=Array.getElem?_eq_getElem hi'
        have hxs:as.drop (i+1)=xs:=by rw [←List.drop_drop,ha]; rfl
        have hys:bs.drop (i+1)=ys:=by rw [←List.drop_drop,hb]; rfl
        have ih:=Qac hsz hsz' hr hr' d W fs (i+1) ks' q h2 (by rw [hxs,hys]; exact e2)
        simp only [Op.eqFields]
        rw [if_pos hf.1,hf.2]
        simp only [Sem.run_bind,V6 h1 hva,V6 h1 hvb,Result.andThen_ok,Qf5 h1 e1 (hr i _ _ hva hxa) (hr' i _ _ hvb hyb) (d+1) W]
        cases p
        ·simp
        ·simpa using ih
       ·cases he
    ·cases hk
   ·rename_i hno
    split at hk
    ·rename_i n e hu
     split at hk
     ·rename_i hc
      simp only [Bool.and_eq_true,beq_iff_eq,decide_eq_true_eq] at hc
      obtain ⟨⟨hc1,hc2⟩,hn⟩:=hc
      split at hk
      ·rename_i k ks' h1 h2
       cases hk
       obtain ⟨p,q,g1,g2,g3,g4,g5⟩:=Qij _ _ _ _ _ he
       simp only [List.length_replicate,List.length_drop] at g1 g2 g4 g5
       subst g3
       have hin:i+n≤cs.size:=by rw [hsz]; omega
       have hin':i+n≤cs'.size:=by rw [hsz']; omega
       cases hi:P.info? f.type with
       | none=>simp [Program.cellsOf,hi] at hc2; omega
       | some inf =>
       have hsize:inf.size=n:=by simpa [Program.cellsOf,hi] using hc2
       have hpart:∀(xs:Array Value),(part f.type xs i).run P W=.ok (.agg (xs.extract i (i+n))) W:=fun xs=>by
        have hagg:(isAgg f.type).run P W=.ok true W:=by simp [isAgg,run_underlying hu]
        have hs:=run_sizeOf (P:=P) W hi
        rw [hc2] at hs
        unfold part
        simp only [Sem.run_bind,hagg,Result.andThen_ok,if_true,hs]
        rfl
       cases hie:P.info? e with
       | none=>simp [Program.cellsOf,hie] at hc1
       | some ie =>
       have hitems:=Qc0 (M:=M) (ι:=ι) h1 hc1 (cs:=cs.extract i (i+n)) (cs':=cs'.extract i (i+n)) (as:=(as.drop i).take n) (bs:=(bs.drop i).take n) (by simp; omega) (by simp; omega)
        (fun j v y hv hy=>by
         have hj:j < n:=by have:=(List.getElem?_eq_some_iff.1 hy).1; simp at this; omega
         refine hr (i+j) v y ?_ ?_
         ·rw [Array.getElem?_extract] at hv; simpa [hj,show j < min (i+n) cs.size - i by omega] using hv
         ·rw [List.getElem?_take,if_pos hj,List.getElem?_drop] at hy; exact hy)
        (fun j v y hv hy=>by
         have hj:j < n:=by have:=(List.getElem?_eq_some_iff.1 hy).1; simp at this; omega
         refine hr' (i+j) v y ?_ ?_
         ·rw [Array.getElem?_extract] at hv; simpa [hj,show j < min (i+n) cs'.size - i by omega] using hv
         ·rw [List.getElem?_take,if_pos hj,List.getElem?_drop] at hy; exact hy) d W n 0 p (by simpa using g1)
       have harr:=run_equalIn_array W (d+1) (cs.extract i (i+n)) (cs'.extract i (i+n)) hu hie
       rw [List.range_eq_range',hitems] at harr
       have ih:=Qac hsz hsz' hr hr' d W fs (i+n) ks' q h2 (by rw [List.drop_drop,List.drop_drop] at g2; exact g2)
       simp only [Op.eqFields]
       rw [if_pos hf.1,hf.2]
       simp only [Sem.run_bind,hpart,Result.andThen_ok,harr]
       cases p
       ·simp
       ·simpa using ih
      ·cases hk
     ·cases hk
    ·cases hk
  ·cases hk
theorem Qpt {t:TypeId} {ks:List SK} (ht:eqDeep P t=some ks) {as bs:List AV} {r:Bool} (he:scEqL ks as bs=some r) {u v:Value} (hu:Qa M ι u (.agg as)) (hv:Qa M ι v (.agg bs)) (d:Nat) (W:World) :
  (Op.equalIn (d+3) t u v).run P W=.ok r W∧P.eqGuardType P.depth t=false:=by
 unfold eqDeep at ht
 split at ht
 ·rename_i ks' h; cases ht; exact Qjr h he hu hv (d+1) W
 ·split at ht
  ·cases ht
  ·rename_i hg
   split at ht
   ·rename_i fs hd
    split at ht
    ·cases ht
    ·rename_i hst
     cases hu with
     | agg cs _ h1 hc1 r1 =>
     cases hv with
     | agg cs' _ h2 hc2 r2 =>
     refine ⟨?_,by simpa using hg⟩
     have hf:P.underlying t=some (.struct (P.fieldsOf t)):=by simp [Program.fieldsOf,hd]
     have hff:P.fieldsOf t=fs:=by simp [Program.fieldsOf,hd]
     rw [run_equalIn_agg W (d+2) t cs cs' hf (by simpa using hst),hff]
     exact Qac h1 h2 r1 r2 d W fs.toList 0 ks r ht (by simpa using he)
   ·cases ht
theorem Qlu (t:TypeId) (u v:Value) (W:World):(Op.equal t u v).run P W=(Op.equalIn 10000 t u v).run P W:=rfl
set_option maxHeartbeats 2000000 in
theorem Qjt {t:TypeId} {T:TI} (ht:ti P t=some T) {x y:AV} {r:Bool} (he:absEq T x y=some r) {u v:Value} (hu:Qa M ι u x) (hv:Qa M ι v y) (op:BinOp) (xo yo:Operand) (W:World) :
  (eqGuard op t xo yo u v).run P W=.ok () W∧(binOp .eql t u v).run P W=.ok (.bool r) W∧(binOp .neq t u v).run P W=.ok (.bool (!r)) W:=by
 obtain ⟨d,i,h1,h2,h3,h4,h5,h6,h7,h8,_⟩:=Zq ht
 unfold absEq at he
 have kp:T.kind=.ptr→∃e,P.underlying t=some (.pointer e):=fun h=>by rw [h3] at h; obtain ⟨e,rfl⟩:=Qtk h; exact ⟨e,h1⟩
 have ks:∀e,T.kind=.slice e→P.underlying t=some (.slice e):=fun e h=>by rw [h3] at h; rw [Zk h] at h1; exact h1
 have kf:T.kind=.func→∃a b c,P.underlying t=some (.func a b c):=fun h=>by rw [h3] at h; obtain ⟨a,b,c,rfl⟩:=Qra h; exact ⟨a,b,c,h1⟩
 have kb:T.kind=.bool→P.underlying t=some .bool:=fun h=>by rw [h3] at h; rw [Qq7 h] at h1; exact h1
 split at he
 ·rename_i as bs
  split at he
  ·rename_i ks hks
   rw [h8] at hks
   obtain ⟨e1,e2⟩:=Qpt hks he hu hv 9997 W
   cases hu with
   | agg cs _ _ _ _ =>
   cases hv with
   | agg cs' _ _ _ _ =>
   refine ⟨run_eqGuard_agg W op t xo yo cs cs' e2,?_,?_⟩
   ·rw [run_eql_struct W t cs cs',e1]; rfl
   ·rw [run_neq_struct W t cs cs',e1]; rfl
  ·cases he
 all_goals (first | (cases he; done) | (split at he <;> first | (cases he; done) | skip))
 all_goals (rename_i hk0)
 all_goals (first | (have hk1:=kp hk0; obtain ⟨e,hk⟩:=hk1) | (have hk:=ks _ hk0) | (have hk1:=kf hk0; obtain ⟨e1,e2,e3,hk⟩:=hk1) | (have hk:=kb hk0))
 all_goals cases he
 all_goals cases hu
 all_goals cases hv
 all_goals (refine ⟨by cases op <;> simp [eqGuard],?_,?_⟩)
 all_goals (simp only [binOp,Sem.run_bind,Op.equal,Op.maxDepth])
 all_goals (rw [show (10000:Nat)=9999+1 from rfl]; generalize 9999=d')
 all_goals (simp [Op.equalIn,run_underlying hk])
end
end Go.Ab
namespace Go.Ab
open Go.RowKit
def Q8 (P:Program) (B:Nat) (W0:World) (D:List Nat) (M:CM) (ι:Inj) (σ:Sto) (fr:Nat) (a:Act) (o:Oper) (W:World) (res:Res):Prop :=
 ∃v W' M' ι',((execOp a.eval o).run P W=.ok (.value v) W'∨((execOp a.eval o).run P W=.ok .skip W'∧v=undef))∧CM.Grow B M M'∧ι.le ι' ∧
  (∀k,k < fr∨res.fr≤k→ι' k=ι k)∧Rel P B W0 D M' ι' (σ.puts res.eff) W'∧∀x,res.v=some x→Qa M' ι' v x
section
variable {P:Program} {nf:Bool} {C:FuncId→List AV→Option Z2} {B:Nat} {W0 W W':World} {D:List Nat} {M:CM} {ι:Inj} {σ:Sto} {s:Slots} {a:Act} {fr:Nat} {o:Oper} {res:Res}
theorem Ql (h:Rel P B W0 D M ι σ W) {v:Value} {x:AV} {rd:List Nat} (hr:(execOp a.eval o).run P W=.ok (.value v) W) (hv:Qa M ι v x):Q8 P B W0 D M ι σ fr a o W ⟨some x,[],fr,rd⟩ :=
 ⟨v,W,M,ι,.inl hr,.refl _ _,Inj.le_refl _,fun _ _=>rfl,h,fun y hy=>by cases hy; exact hv⟩
theorem Q5 {x:Option AV} {r:Vy} (h:Zt fr x=some r):∃y,x=some y∧r=.val ⟨some y,[],fr,[]⟩:=by
 cases x with
 | none=>cases h
 | some y=>cases h; exact ⟨y,rfl,rfl⟩
theorem Qnc (h:Rel P B W0 D M ι σ W) (hs:Qg M ι s a.tmps) {x:Operand} (ho:o.op=.move x∨o.op=.assign x) (he:evalOp P nf C σ fr s o=some (.val res)):Q8 P B W0 D M ι σ fr a o W res:=by
 have hrun:(execOp a.eval o).run P W=.ok (.value (a.eval x)) W:=by rcases ho with ho | ho <;> simp [execOp,ho]
 have he':Zt fr (evo s x)=some (.val res):=by rcases ho with ho | ho <;> (unfold evalOp at he; rw [ho] at he; exact he)
 obtain ⟨y,hy,hr⟩:=Q5 he'
 cases hr
 exact Ql h hrun (Qe hs hy)
theorem Qur (h:Rel P B W0 D M ι σ W) (hs:Qg M ι s a.tmps) {c x y:Operand} (ho:o.op=.pick c x y) (he:evalOp P nf C σ fr s o=some (.val res)):Q8 P B W0 D M ι σ fr a o W res:=by
 unfold evalOp at he
 rw [ho] at he
 simp only at he
 split at he
 ·rename_i hc
  have hb:=(Qe hs hc).bool_inv
  obtain ⟨z,hz,hr⟩:=Q5 he
  cases hr
  exact Ql h (by simp [execOp,ho,hb,asBool]) (Qe hs hz)
 ·rename_i hc
  have hb:=(Qe hs hc).bool_inv
  obtain ⟨z,hz,hr⟩:=Q5 he
  cases hr
  exact Ql h (by simp [execOp,ho,hb,asBool]) (Qe hs hz)
 ·cases he
theorem Qpv (h:Rel P B W0 D M ι σ W) (hs:Qg M ι s a.tmps) {x:Operand} {i:Nat} (ho:o.op=.extract x i) (he:evalOp P nf C σ fr s o=some (.val res)):Q8 P B W0 D M ι σ fr a o W res:=by
 unfold evalOp at he
 rw [ho] at he
 simp only at he
 split at he
 ·rename_i vs hx
  obtain ⟨y,hy,hr⟩:=Q5 he
  cases hr
  have hv:=Qe hs hx
  generalize hu:a.eval x=u at hv
  cases hv with
  | tup vs' _ hsz hr =>
  have hi:i < vs'.size:=by rw [hsz]; exact (List.getElem?_eq_some_iff.1 hy).1
  have hg:=Array.getElem?_eq_getElem hi
  exact Ql h (v:=vs'[i]) (by simp [execOp,ho,hu,Instr.extract,hg]) (hr i _ _ hg hy)
 ·cases he
theorem Qny (h:Rel P B W0 D M ι σ W) (hs:Qg M ι s a.tmps) {x:Operand} (ho:o.op=.nilCheck x) (he:evalOp P nf C σ fr s o=some (.val res)):Q8 P B W0 D M ι σ fr a o W res:=by
 unfold evalOp at he
 rw [ho] at he
 simp only at he
 split at he
 ·rename_i cs hx
  obtain ⟨y,hy,hr⟩:=Q5 he
  cases hy; cases hr
  have hv:=Qe hs hx
  refine Ql h (v:=a.eval x) ?_ hv
  generalize hu:a.eval x=u at hv
  cases hv
  simp [execOp,ho,hu]
 ·rename_i cs hx
  obtain ⟨y,hy,hr⟩:=Q5 he
  cases hy; cases hr
  have hv:=Qe hs hx
  refine Ql h (v:=a.eval x) ?_ hv
  generalize hu:a.eval x=u at hv
  cases hv
  simp [execOp,ho,hu]
 ·rename_i f p q hx
  obtain ⟨y,hy,hr⟩:=Q5 he
  cases hy; cases hr
  have hv:=Qe hs hx
  refine Ql h (v:=a.eval x) ?_ hv
  generalize hu:a.eval x=u at hv
  cases hv with
  | fn f first' caps' first caps hy hm h1 h2 hr1 hr2 =>
  simp only [execOp,ho,hu]
  cases f with
  | method nm=>exact absurd rfl (hm nm)
  | _=>rfl
 ·cases he
theorem Qlh {op:BinOp} (h:op≠.eql∧op≠.neq) (t:TypeId) (x y:Operand) (u v:Value):(eqGuard op t x y u v).run P W=.ok () W:=by
 cases op <;> first | (simp at h; done) | simp [eqGuard]
theorem Qq3 (op:BinOp) (t:TypeId) (x y:Operand) (k k':IntKind) (n m:Int):(eqGuard op t x y (.int k n) (.int k' m)).run P W=.ok () W:=by
 cases op <;> simp [eqGuard]
theorem Qo6 {op:BinOp} {k:IntKind} {n m:Int} {x:AV} (h:Qh6 op k n m=some x) (t:TypeId):∃v,(binOp op t (.int k n) (.int k m)).run P W=.ok v W∧Qa M ι v x:=by
 unfold Qh6 at h
 split at h
 all_goals first | (cases h; done) | skip
 ·cases h; exact ⟨_,by simp [binOp,Op.intArith],.int _ _⟩
 ·cases h; exact ⟨_,by simp [binOp,Op.intArith],.int _ _⟩
 ·cases h; exact ⟨_,by simp [binOp,Op.intArith],.int _ _⟩
 ·split at h
  ·cases h
  ·rename_i hm
   cases h; exact ⟨_,by simp [binOp,Op.intDiv,hm],.int _ _⟩
 ·split at h
  ·cases h
  ·rename_i hm
   cases h; exact ⟨_,by simp [binOp,Op.intDiv,hm],.int _ _⟩
 ·cases h; exact ⟨_,by simp only [binOp,ne_eq,not_true_eq_false,if_false,Op.intBits]; rfl,.int _ _⟩
 ·cases h; exact ⟨_,by simp only [binOp,ne_eq,not_true_eq_false,if_false,Op.intBits]; rfl,.int _ _⟩
 ·cases h; exact ⟨_,by simp only [binOp,ne_eq,not_true_eq_false,if_false,Op.intBits]; rfl,.int _ _⟩
 ·cases h; exact ⟨_,by simp only [binOp,ne_eq,not_true_eq_false,if_false,Op.intBits]; rfl,.int _ _⟩
 all_goals (cases h; exact ⟨_,by simp only [binOp,ne_eq,not_true_eq_false,if_false,Op.intCmp]; rfl,.bool _⟩)
theorem Qso (h:Rel P B W0 D M ι σ W) (hs:Qg M ι s a.tmps) {op:BinOp} {t u:TypeId} {x y:Operand} (ho:o.op=.binOp op t x y u) (he:evalOp P nf C σ fr s o=some (.val res)):Q8 P B W0 D M ι σ fr a o W res:=by
 unfold evalOp at he
 rw [ho] at he
 simp only at he
 split at he
 ·rename_i p q hp hq
  obtain ⟨z,hz,hr⟩:=Q5 he
  cases hr
  have vp:=Qe hs hp
  have vq:=Qe hs hq
  suffices hk:∃v,(eqGuard op t x y (a.eval x) (a.eval y)).run P W=.ok () W∧(binOp op t (a.eval x) (a.eval y)).run P W=.ok v W∧Qa M ι v z by
   obtain ⟨v,h1,h2,h3⟩:=hk
   exact Ql h (v:=v) (by simp [execOp,ho,h1,h2]) h3
  unfold Qfw at hz
  split at hz
  ·rw [vp.int_inv,vq.int_inv]
   split at hz
   ·cases hz
   ·rename_i hb
    cases hz
    exact ⟨_,Qlh (by simp) _ _ _ _ _,by simp [binOp,Op.shift,hb],.int _ _⟩
  ·rw [vp.int_inv,vq.int_inv]
   split at hz
   ·cases hz
   ·rename_i hb
    cases hz
    exact ⟨_,Qlh (by simp) _ _ _ _ _,by simp [binOp,Op.shift,hb],.int _ _⟩
  ·rw [vp.int_inv,vq.int_inv]
   split at hz
   ·rename_i hk
    subst hk
    obtain ⟨v,h1,h2⟩:=Qo6 (W:=W) (M:=M) (ι:=ι) (P:=P) hz t
    exact ⟨v,Qq3 _ _ _ _ _ _ _ _,h1,h2⟩
   ·cases hz
  ·split at hz
   ·rename_i T hT
    cases hb:absEq T p q with
    | none=>simp [hb] at hz
    | some r =>
     simp [hb] at hz
     subst hz
     obtain ⟨h1,h2,_⟩:=Qjt hT hb vp vq .eql x y W
     exact ⟨_,h1,h2,.bool _⟩
   ·cases hz
  ·split at hz
   ·rename_i T hT
    cases hb:absEq T p q with
    | none=>simp [hb] at hz
    | some r =>
     simp [hb] at hz
     subst hz
     obtain ⟨h1,_,h2⟩:=Qjt hT hb vp vq .neq x y W
     exact ⟨_,h1,h2,.bool _⟩
   ·cases hz
  ·cases hz
 ·cases he
theorem Qug (h:Rel P B W0 D M ι σ W) (hs:Qg M ι s a.tmps) {op:UnOp} {t:TypeId} {x:Operand} (ho:o.op=.unOp op t x) (he:evalOp P nf C σ fr s o=some (.val res)):Q8 P B W0 D M ι σ fr a o W res:=by
 unfold evalOp at he
 rw [ho] at he
 simp only at he
 split at he
 ·rename_i p hp
  obtain ⟨z,hz,hr⟩:=Q5 he
  cases hr
  have vp:=Qe hs hp
  unfold Qyn at hz
  split at hz
  ·cases hz
   exact Ql h (v:=_) (by rw [execOp,ho]; simp only [vp.int_inv,Op.unary,Op.intArith]; rfl) (.int _ _)
  ·cases hz
   exact Ql h (v:=_) (by rw [execOp,ho]; simp only [vp.int_inv,Op.unary,Op.intBits]; rfl) (.int _ _)
  ·cases hz
   exact Ql h (v:=_) (by rw [execOp,ho]; simp only [vp.bool_inv,Op.unary]; rfl) (.bool _)
  ·cases hz
 ·cases he
theorem Qqe (h:Rel P B W0 D M ι σ W) (hs:Qg M ι s a.tmps) {t u:TypeId} {x:Operand} (ho:o.op=.convert u t x) (he:evalOp P nf C σ fr s o=some (.val res)):Q8 P B W0 D M ι σ fr a o W res:=by
 unfold evalOp at he
 rw [ho] at he
 simp only at he
 split at he
 ·rename_i U T k n hU hT hx
  split at he
  ·rename_i k' hk
   obtain ⟨z,hz,hr⟩:=Q5 he
   cases hr; cases hz
   have vp:=(Qe hs hx).int_inv
   obtain ⟨d,i,h1,h2,h3,_⟩:=Zq hT
   obtain ⟨d',i',h1',_⟩:=Zq hU
   rw [h3] at hk
   rw [Qse hk] at h1
   refine Ql h (v:=.int k' (k'.wrap n)) ?_ (.int _ _)
   simp [execOp,ho,vp,convert,run_underlying h1,run_underlying h1',Conv.intToInt]
  ·cases he
 ·cases he
end
end Go.Ab
namespace Go.Ab
open Go.RowKit
section
variable {P:Program} {nf:Bool} {C:FuncId→List AV→Option Z2} {B:Nat} {W0 W W':World} {D:List Nat} {M:CM} {ι:Inj} {σ:Sto} {s:Slots} {a:Act} {fr:Nat} {o:Oper} {res:Res}
theorem Qan (b off j:Nat):(⟨b,off,none⟩:Addr).add j=⟨b,off+j,none⟩:=by unfold Addr.add; split <;> simp_all
theorem Qnx (h:Rel P B W0 D M ι σ W) (hs:Qg M ι s a.tmps) {f:Fn} {x y:Array Operand} (ho:o.op=.makeFunc f x y) (he:evalOp P nf C σ fr s o=some (.val res)):Q8 P B W0 D M ι σ fr a o W res:=by
 unfold evalOp at he
 rw [ho] at he
 simp only at he
 split at he
 ·rename_i p q hp hq
  obtain ⟨l1,g1⟩:=Vo hs hp
  obtain ⟨l2,g2⟩:=Vo hs hq
  have key:∀f,(∀l,f≠Fn.yield l)→(∀m,f≠Fn.method m)→Qa M ι (.func f (x.map a.eval) (y.map a.eval)) (.fn f p q):=fun f hy hm =>
   .fn f _ _ p q hy hm (by simp [l1]) (by simp [l2]) (fun j v z hv hz=>by
    simp only [Array.getElem?_map,Option.map_eq_some_iff] at hv
    obtain ⟨w,hw,rfl⟩:=hv
    exact (g1 j w z (by simpa using hw) hz).2) (fun j v z hv hz=>by
    simp only [Array.getElem?_map,Option.map_eq_some_iff] at hv
    obtain ⟨w,hw,rfl⟩:=hv
    exact (g2 j w z (by simpa using hw) hz).2)
  split at he
  ·obtain ⟨z,hz,hr⟩:=Q5 he
   cases hr; cases hz
   exact Ql h (by rw [execOp,ho]; rfl) (key _ (by simp) (by simp))
  ·obtain ⟨z,hz,hr⟩:=Q5 he
   cases hr; cases hz
   exact Ql h (by rw [execOp,ho]; rfl) (key _ (by simp) (by simp))
  ·cases he
 ·cases he
theorem Kb (hs:Qg M ι s a.tmps) {x:Option Operand} {y:Option AV} (h:Jd s x=some y):(x=none∧y=none)∨∃u v,x=some u∧y=some v∧Qa M ι (a.eval u) v:=by
 cases x with
 | none=>simp [Jd] at h; subst h; exact .inl ⟨rfl,rfl⟩
 | some u =>
  simp only [Jd,Option.map_eq_some_iff] at h
  obtain ⟨v,hv,rfl⟩:=h
  exact .inr ⟨u,v,rfl,rfl,Qe hs hv⟩
theorem Z0 {k:IntKind} {n y:Nat} (h:n≤y) (c:BoundsCode) (W:World):(Instr.sliceBound (.int k n) y c).run P W=.ok n W:=by
 have h0:(0:Int)≤(n:Int)∧(n:Int)≤(y:Int):=⟨by omega,by omega⟩
 simp only [Instr.sliceBound,Sem.run_bind,asIntOf,Sem.run_pure,Result.andThen_ok]
 rw [if_pos h0]; rfl
theorem Kg {x:Option Operand} {y:Option AV} (hs:Qg M ι s a.tmps) (hx:Jd s x=some y) {d n:Nat} (hn:Yf y d=some n) :
  (x=none∧n=d)∨∃u k,x=some u∧a.eval u=.int k n:=by
 rcases Kb hs hx with ⟨rfl,rfl⟩ | ⟨u,v,rfl,rfl,hr⟩
 ·simp [Yf] at hn; exact .inl ⟨rfl,hn.symm⟩
 ·simp only [Yf] at hn
  obtain ⟨k,hk⟩:=Qdk hr hn
  exact .inr ⟨u,k,rfl,hk⟩
theorem Vb (hs:Qg M ι s a.tmps) {lo hi mx:Option Operand} {lo' hi' mx':Option AV} (h1:Jd s lo=some lo') (h2:Jd s hi=some hi') (h3:Jd s mx=some mx') {len cap l h m:Nat}
  (e1:Yf lo' 0=some l) (e2:Yf hi' len=some h) (e3:(mx'=none∧m=cap)∨(mx'.isSome=true∧hi'.isSome=true∧Yf mx' 0=some m)) (b1:l≤h) (b2:h≤m) (b3:m≤cap) (W:World) :
  (Instr.sliceBounds true len cap (lo.map a.eval) (hi.map a.eval) (mx.map a.eval)).run P W=.ok (l,h,m) W:=by
 have hm:(mx=none∧m=cap)∨∃u k,mx=some u∧a.eval u=.int k m∧hi.isSome=true:=by
  rcases e3 with ⟨rfl,rfl⟩ | ⟨g1,g2,g3⟩
  ·rcases Kb hs h3 with ⟨rfl,_⟩ | ⟨u,v,rfl,e,_⟩
   ·exact .inl ⟨rfl,rfl⟩
   ·cases e
  ·rcases Kg hs h3 g3 with ⟨rfl,_⟩ | ⟨u,k,rfl,hk⟩
   ·rcases Kb hs h3 with ⟨_,rfl⟩ | ⟨u,v,e,_,_⟩
    ·cases g1
    ·cases e
   ·refine .inr ⟨u,k,rfl,hk,?_⟩
    rcases Kb hs h2 with ⟨_,rfl⟩ | ⟨u,v,rfl,_,_⟩
    ·cases g2
    ·rfl
 rcases hm with ⟨rfl,rfl⟩ | ⟨u,k,rfl,hk,hhi⟩
 ·rcases Kg hs h2 e2 with ⟨rfl,rfl⟩ | ⟨v,k2,rfl,hk2⟩
  ·rcases Kg hs h1 e1 with ⟨rfl,rfl⟩ | ⟨z,k3,rfl,hk3⟩
   ·simp [Instr.sliceBounds]
   ·simp [Instr.sliceBounds,hk3,Z0 b1]
  ·rcases Kg hs h1 e1 with ⟨rfl,rfl⟩ | ⟨z,k3,rfl,hk3⟩
   ·simp [Instr.sliceBounds,hk2,Z0 b2]
   ·simp [Instr.sliceBounds,hk2,hk3,Z0 b1,Z0 b2]
 ·rcases Kg hs h2 e2 with ⟨rfl,rfl⟩ | ⟨v,k2,rfl,hk2⟩
  ·cases hhi
  ·rcases Kg hs h1 e1 with ⟨rfl,rfl⟩ | ⟨z,k3,rfl,hk3⟩
   ·simp [Instr.sliceBounds,hk,hk2,Z0 b2,Z0 b3]
   ·simp [Instr.sliceBounds,hk,hk2,hk3,Z0 b1,Z0 b2,Z0 b3]
end
end Go.Ab
namespace Go.Ab
open Go.RowKit
section
variable {P:Program} {nf:Bool} {C:FuncId→List AV→Option Z2} {B:Nat} {W0 W W':World} {D:List Nat} {M:CM} {ι:Inj} {σ:Sto} {s:Slots} {a:Act} {fr:Nat} {o:Oper} {res:Res}
theorem Z8 {a b:Nat} (h:Nat.ble a b=true):a≤b:=Nat.le_of_ble_eq_true h
theorem X0 {a b:Nat} (h:Nat.blt a b=true):a < b:=Nat.le_of_ble_eq_true h
theorem Yj {a b:Nat} (h:Nat.beq a b=true):a=b:=Nat.eq_of_beq_eq_true h
theorem Qmg (h:Rel P B W0 D M ι σ W) (hs:Qg M ι s a.tmps) {e:TypeId} {E:TI} {t:TypeId} (ht:P.underlying t=some (.slice e)) (hE:ti P e=some E)
  {x:Operand} {y:AV} (hx:Qa M ι (a.eval x) y) {lo hi mx:Option Operand} {lo' hi' mx':Option AV} (h1:Jd s lo=some lo') (h2:Jd s hi=some hi') (h3:Jd s mx=some mx') {z:AV × List Nat}
  (he:Jc σ E.size y lo' hi' mx'=some z) (hmx:mx'.isSome=true→hi'.isSome=true) :
  ∃v,(Instr.sliceAt t (a.eval x) (lo.map a.eval) (hi.map a.eval) (mx.map a.eval)).run P W=.ok v W∧Qa M ι v z.1:=by
 obtain ⟨d,i,g1,g2,g3,g4,_⟩:=Zq hE
 have hrun:∀(base:Option Addr) (len cap l h m:Nat),a.eval x=.slice base len cap→(Instr.sliceBounds true len cap (lo.map a.eval) (hi.map a.eval) (mx.map a.eval)).run P W=.ok (l,h,m) W →
   (Instr.sliceAt t (a.eval x) (lo.map a.eval) (hi.map a.eval) (mx.map a.eval)).run P W=.ok (.slice (if m=l then base else base.map (·.add (l*E.size))) (h - l) (m - l)) W:=by
  intro base len cap l h m hb hsb
  simp only [Instr.sliceAt,Sem.run_bind,run_underlying ht,Result.andThen_ok,Instr.slice,hb,hsb,Z9 g2,g4,Sem.run_pure]
 have nz:∀(base:Option Addr),a.eval x=.slice base 0 0→Yf lo' 0=some 0→Yf hi' 0=some 0→Yf mx' 0=some 0→(Instr.sliceAt t (a.eval x) (lo.map a.eval) (hi.map a.eval) (mx.map a.eval)).run P W=.ok (.slice base 0 0) W:=by
  intro base hb e1 e2 e3
  have hsb:=Vb (P:=P) hs h1 h2 h3 (len:=0) (cap:=0) (m:=0) e1 e2 (by
   cases hm:mx' with
   | none=>exact .inl ⟨rfl,rfl⟩
   | some q=>exact .inr ⟨rfl,hmx (by rw [hm]; rfl),by rw [←hm]; exact e3⟩) (Nat.le_refl _) (Nat.le_refl _) (Nat.le_refl _) W
  have:=hrun base 0 0 0 0 0 hb hsb
  simpa using this
 unfold Jc at he
 split at he
 ·split at he
  ·rename_i e1 e2 e3
   cases he
   exact ⟨_,nz _ hx.nils_inv e1 e2 e3,.nils⟩
  ·cases he
 ·split at he
  ·rename_i e1 e2 e3
   cases he
   obtain ⟨ad,had⟩:=hx.emp_inv
   exact ⟨_,nz _ had e1 e2 e3,.emp _⟩
  ·cases he
 ·rename_i fl xs
  split at he
  ·rename_i l hh m e1 e2 e3
   split at he
   ·rename_i hc
    simp only [Bool.and_eq_true] at hc
    obtain ⟨⟨⟨c1,c2⟩,c3⟩,c4⟩:=hc
    have c1:=Z8 c1; have c2:=Z8 c2; have c3:=Z8 c3
    generalize hu:a.eval x=u at hx
    cases hx with
    | lst0 ad _ =>
     have c3':m≤0:=c3
     have l0:l=0:=by omega
     have h0:hh=0:=by omega
     have m0:m=0:=by omega
     subst l0 h0 m0
     have hr0:=nz ad hu e1 e2 e3
     rw [hu] at hr0
     split at he
     ·cases he; exact ⟨_,hr0,.emp _⟩
     ·cases he; exact ⟨_,hr0,.lst0 _ _⟩
    | lst b off cap w _ _ f hcap hfl hcc hM hr =>
    have hsb:∃m',(Instr.sliceBounds true xs.length cap (lo.map a.eval) (hi.map a.eval) (mx.map a.eval)).run P W=.ok (l,hh,m') W∧hh≤m'∧(mx'.isSome=true→m'=m):=by
     cases hm:mx' with
     | none =>
      refine ⟨cap,Vb hs h1 h2 h3 e1 e2 (.inl ⟨hm,rfl⟩) c1 (by omega) (Nat.le_refl _) W,by omega,by simp⟩
     | some q =>
      rw [hm] at e3
      refine ⟨m,Vb hs h1 h2 h3 e1 e2 (.inr ⟨by rw [hm]; rfl,hmx (by rw [hm]; rfl),by rw [hm]; exact e3⟩) c1 c2 (by omega) W,c2,fun _=>rfl⟩
    obtain ⟨m',hsb,hm1,hm2⟩:=hsb
    have hr0:=hrun _ _ _ _ _ _ hu hsb
    rw [hu] at hr0
    split at he
    ·rename_i hme
     simp only [Bool.and_eq_true] at hme
     cases he
     have e4:=Yj hme.2
     have e5:=hm2 hme.1
     have e6:m'=l:=by omega
     have e7:hh=l:=by omega
     rw [if_pos e6,e6,e7] at hr0
     simp only [Nat.sub_self] at hr0
     exact ⟨_,hr0,.emp _⟩
    ·cases he
     refine ⟨_,hr0,?_⟩
     have hlen:((xs.drop l).take (hh - l)).length=hh - l:=by rw [List.length_take,List.length_drop]; omega
     have hw:∀j y,((xs.drop l).take (hh - l))[j]?=some y→xs[l+j]?=some y∧w=E.size∧m'≠l:=by
      intro j y hy
      have hj:j < hh - l:=by rw [←hlen]; exact (List.getElem?_eq_some_iff.1 hy).1
      rw [List.getElem?_take,if_pos hj,List.getElem?_drop] at hy
      refine ⟨hy,?_,by omega⟩
      cases xs with
      | nil=>simp at hy
      | cons x0 r =>
       simp only [Qgq] at c4
       have:=Yj c4
       rw [←this]; exact (hcc x0 (by simp)).len.symm
     have key:Qa M ι (.slice (if m'=l then some ⟨b,off,none⟩ else Option.map (fun (x:Addr)=>x.add (l*E.size)) (some ⟨b,off,none⟩)) ((xs.drop l).take (hh - l)).length (m' - l)) (.lst fl ((xs.drop l).take (hh - l))):=by
      by_cases hml:m'=l
      ·rw [if_pos hml]
       exact .lst b off (m' - l) w fl _ f (by omega) (fun hf y hy=>hfl hf y (List.mem_of_mem_drop (List.mem_of_mem_take hy))) (fun y hy=>hcc y (List.mem_of_mem_drop (List.mem_of_mem_take hy)))
        (fun j k y z hy hz=>absurd hml (hw j y hy).2.2) (fun j k y z hy hz=>absurd hml (hw j y hy).2.2)
      ·rw [if_neg hml]
       simp only [Option.map_some,Qan]
       exact .lst b (off+l*E.size) (m' - l) w fl _ (fun j k=>f (l+j) k) (by omega) (fun hf y hy=>hfl hf y (List.mem_of_mem_drop (List.mem_of_mem_take hy))) (fun y hy=>hcc y (List.mem_of_mem_drop (List.mem_of_mem_take hy)))
        (fun j k y z hy hz=>by
         obtain ⟨q1,q2,_⟩:=hw j y hy
         have:=hM (l+j) k y z q1 hz
         rw [←q2,show off+l*w+j*w+k=off+(l+j)*w+k by rw [Nat.add_mul]; omega]; exact this)
        (fun j k y z hy hz=>hr (l+j) k y z (hw j y hy).1 hz)
     rw [hlen] at key
     exact key
   ·cases he
  ·cases he
 ·rename_i ob ii n
  split at he
  ·rename_i ro nr fl w' xs hσ
   obtain ⟨q,hq,hrow⟩:=h.row _ _ _ _ _ _ _ hσ
   generalize hu:a.eval x=u at hx
   cases hx with
   | ref0 ad _ p hp hz =>
    have hpq:p=q:=by rw [hp] at hq; exact Option.some.inj hq
    subst hpq
    have hlenle:=hrow.len
    split at he
    ·rename_i l hh e1 e2
     split at he
     ·rename_i hc
      simp only [Bool.and_eq_true] at hc
      obtain ⟨⟨c1,c2⟩,c3⟩:=hc
      have c1:=Z8 c1; have c2:=Z8 c2
      have h0:hh=0:=by omega
      have l0:l=0:=by omega
      subst h0 l0
      cases he
      have hr0:=nz ad hu e1 e2 rfl
      rw [hu] at hr0
      exact ⟨_,hr0,.ref0 _ _ _ hp hz⟩
     ·cases he
    ·rename_i l hh m0 e1 e2
     split at he
     ·rename_i m em
      split at he
      ·rename_i hc
       simp only [Bool.and_eq_true] at hc
       obtain ⟨⟨⟨c1,c2⟩,c3⟩,c4⟩:=hc
       have c1:=Z8 c1; have c2:=Z8 c2; have c3:=Z8 c3
       have m0:m=0:=by omega
       have h0:hh=0:=by omega
       have l0:l=0:=by omega
       subst m0 h0 l0
       cases he
       have hr0:=nz ad hu e1 e2 em
       rw [hu] at hr0
       exact ⟨_,hr0,.emp _⟩
      ·cases he
     ·cases he
    ·cases he
   | ref _ _ _ p off cap hp hi' hcap hoff =>
   have hpq:p=q:=by rw [hp] at hq; exact Option.some.inj hq
   subst hpq
   have hlenle:=hrow.len
   split at he
   ·rename_i l hh e1 e2
    split at he
    ·rename_i hc
     simp only [Bool.and_eq_true] at hc
     obtain ⟨⟨c1,c2⟩,c3⟩:=hc
     have c1:=Z8 c1; have c2:=Z8 c2; have c3:=Yj c3
     cases he
     have hsb:=Vb (P:=P) hs h1 h2 h3 e1 e2 (.inl ⟨rfl,rfl⟩) c1 (by omega:hh≤cap) (Nat.le_refl _) W
     have hr0:=hrun _ _ _ _ _ _ hu hsb
     rw [hu] at hr0
     refine ⟨_,hr0,?_⟩
     by_cases hml:cap=l
     ·rw [if_pos hml]
      exact .ref ob (ii+l) (hh - l) p off (cap - l) hp (by omega) (by omega) (.inr (by omega))
     ·rw [if_neg hml]
      simp only [Option.map_some,Qan]
      refine .ref ob (ii+l) (hh - l) p _ (cap - l) hp (by omega) (by omega) (.inl ?_)
      rcases hoff with e | e
      ·rw [e,←c3,hrow.pw,Nat.add_mul]; omega
      ·omega
    ·cases he
   ·rename_i l hh m0 e1 e2
    split at he
    ·rename_i m em
     split at he
     ·rename_i hc
      simp only [Bool.and_eq_true] at hc
      obtain ⟨⟨⟨c1,c2⟩,c3⟩,c4⟩:=hc
      have c1:=Z8 c1; have c2:=Z8 c2; have c3:=Z8 c3; have c4:=Yj c4
      cases he
      have hsb:=Vb (P:=P) hs h1 h2 h3 e1 e2 (.inr ⟨rfl,hmx rfl,em⟩) c1 c2 (by omega:m≤cap) W
      have hr0:=hrun _ _ _ _ _ _ hu hsb
      rw [hu] at hr0
      rw [if_pos c4,show hh - l=0 by omega,show m - l=0 by omega] at hr0
      exact ⟨_,hr0,.emp _⟩
     ·cases he
    ·cases he
   ·cases he
  ·cases he
 ·cases he
theorem Qth (h:Rel P B W0 D M ι σ W) (hs:Qg M ι s a.tmps) {t:TypeId} {x:Operand} {lo hi mx:Option Operand} (ho:o.op=.slice t x lo hi mx) (he:evalOp P nf C σ fr s o=some (.val res)):Q8 P B W0 D M ι σ fr a o W res:=by
 unfold evalOp at he
 rw [ho] at he
 simp only at he
 split at he
 ·cases he
 rename_i hmx0
 have hmx:mx.isSome=true→hi.isSome=true:=fun hm=>by
  cases hi with
  | none=>exact absurd (by simp [hm]) hmx0
  | some _=>rfl
 split at he
 ·rename_i T y lo' hi' mx' hT hx h1 h2 h3
  split at he
  ·rename_i e hk
   split at he
   ·rename_i E hE
    cases hz:Jc σ E.size y lo' hi' mx' with
    | none=>simp [hz] at he
    | some z =>
     simp [hz] at he
     subst he
     obtain ⟨d,i,g1,g2,g3,_⟩:=Zq hT
     rw [g3] at hk
     rw [Zk hk] at g1
     obtain ⟨v,hv,hr⟩:=Qmg h hs g1 hE (Qe hs hx) h1 h2 h3 hz (fun hm=>by
      rcases Kb hs h3 with ⟨_,rfl⟩ | ⟨u,w,rfl,rfl,_⟩
      ·cases hm
      ·rcases Kb hs h2 with ⟨rfl,rfl⟩ | ⟨u',w',rfl,rfl,_⟩
       ·exact absurd (hmx rfl) (by simp)
       ·rfl)
     exact Ql h (v:=v) (by simp [execOp,ho,hv]) hr
   ·cases he
  ·cases he
 ·cases he
theorem Qk3 {u:TypeId} {U:TI} (hU:ti P u=some U) {cs:Array Value} {as:List AV} (hsz:cs.size=as.length) (hc:∀y∈as,AV.cell y=true)
  (hr:∀(j:Nat) (v:Value) (y:AV),cs[j]?=some v→as[j]?=some y→Qa M ι v y) {off:Nat} {x:AV} (hx:K6 U (as.drop off)=some x) (W:World) :
  ∃v,(part u cs off).run P W=.ok v W∧Qa M ι v x:=by
 obtain ⟨d,i,g1,g2,g3,g4,_⟩:=Zq hU
 rcases Qjq hU hx (fun y hy=>hc y (List.mem_of_mem_drop hy)) with ⟨hT,hlen,rfl⟩ | ⟨hT,r,he⟩
 ·refine ⟨.agg (cs.extract off (off+U.size)),by simp only [part,Sem.run_bind,Qc9 hU,hT,Result.andThen_ok,if_true,Z9 g2,g4,Sem.run_pure],?_⟩
  rw [List.length_drop] at hlen
  refine .agg _ _ (by simp; omega) (fun y hy=>hc y (List.mem_of_mem_drop (List.mem_of_mem_take hy))) (fun j v y hv hy=>?_)
  have hj:j < U.size:=by have:=(List.getElem?_eq_some_iff.1 hy).1; simp at this; omega
  rw [List.getElem?_take,if_pos hj,List.getElem?_drop] at hy
  rw [Array.getElem?_extract] at hv
  split at hv
  ·exact hr (off+j) v y hv hy
  ·cases hv
 ·have hx':as[off]?=some x:=by
   have:=List.getElem?_drop (xs:=as) (i:=off) (j:=0)
   rw [he] at this; simpa using this.symm
  have hlt:off < cs.size:=by rw [hsz]; exact (List.getElem?_eq_some_iff.1 hx').1
  have hg:=Array.getElem?_eq_getElem hlt
  refine ⟨cs[off],?_,hr off _ _ hg hx'⟩
  simp only [part,Sem.run_bind,Qc9 hU,hT,Result.andThen_ok,Bool.false_eq_true,if_false,hg,Sem.run_pure]
theorem Qs8 (h:Rel P B W0 D M ι σ W) (hs:Qg M ι s a.tmps) {t:TypeId} {x:Operand} {f:Nat} (ho:o.op=.field t x f) (he:evalOp P nf C σ fr s o=some (.val res)):Q8 P B W0 D M ι σ fr a o W res:=by
 unfold evalOp at he
 rw [ho] at he
 simp only at he
 split at he
 ·rename_i T cs hT hx
  split at he
  ·rename_i fs hk
   split at he
   ·rename_i off u hf
    split at he
    ·rename_i U hU
     obtain ⟨z,hz,hr⟩:=Q5 he
     cases hr
     obtain ⟨d,i,g1,g2,g3,_⟩:=Zq hT
     rw [g3] at hk
     obtain ⟨gs,rfl,rfl⟩:=Qcz hk
     simp only [List.getElem?_map,Option.map_eq_some_iff] at hf
     obtain ⟨fd,hfd,e⟩:=hf
     cases e
     have hv:=Qe hs hx
     generalize hu:a.eval x=w at hv
     cases hv with
     | agg cs' _ hsz hc hrr =>
     obtain ⟨v,hv,hrep⟩:=Qk3 hU hsz hc hrr hz W
     refine Ql h (v:=v) ?_ hrep
     have hfd':gs[f]?=some fd:=by simpa using hfd
     simp [execOp,ho,hu,Instr.field,run_underlying g1,hfd',asAgg,hv]
    ·cases he
   ·cases he
  ·cases he
 ·cases he
theorem Qsh (h:Rel P B W0 D M ι σ W) (hs:Qg M ι s a.tmps) {t:TypeId} {x y:Operand} (ho:o.op=.index t x y) (he:evalOp P nf C σ fr s o=some (.val res)):Q8 P B W0 D M ι σ fr a o W res:=by
 unfold evalOp at he
 rw [ho] at he
 simp only at he
 split at he
 ·rename_i T cs b hT hx hy
  split at he
  ·rename_i n e j hk hj
   split at he
   ·rename_i E hE
    split at he
    ·rename_i hlt
     have hlt:=X0 hlt
     obtain ⟨z,hz,hr⟩:=Q5 he
     cases hr
     obtain ⟨d,i,g1,g2,g3,_⟩:=Zq hT
     rw [g3] at hk
     rw [Qa4 hk] at g1
     obtain ⟨d',i',g1',g2',g3',g4',_⟩:=Zq hE
     obtain ⟨k,hk'⟩:=Qdk (Qe hs hy) hj
     have hv:=Qe hs hx
     generalize hu:a.eval x=w at hv
     cases hv with
     | agg cs' _ hsz hc hrr =>
     obtain ⟨v,hv,hrep⟩:=Qk3 hE hsz hc hrr hz W
     refine Ql h (v:=v) ?_ hrep
     have h0:(0:Int)≤(j:Int)∧(j:Int) < (n:Int):=⟨by omega,by omega⟩
     simp only [execOp,ho,hu,hk',Sem.run_bind,Instr.index,asIntOf,Sem.run_pure,Result.andThen_ok,run_underlying g1,h0,if_true,and_self,Int.toNat_natCast,Z9 g2',←g4',hv]
    ·cases he
   ·cases he
  ·cases he
 ·cases he
theorem Qm3 (h:Rel P B W0 D M ι σ W) (hs:Qg M ι s a.tmps) {t:TypeId} {x:Operand} {f:Nat} (ho:o.op=.fieldAddr t x f) (he:evalOp P nf C σ fr s o=some (.val res)):Q8 P B W0 D M ι σ fr a o W res:=by
 unfold evalOp at he
 rw [ho] at he
 simp only at he
 split at he
 ·rename_i T y hT hx
  split at he
  ·rename_i fs hk
   split at he
   ·rename_i off u hf
    split at he
    ·rename_i U hU
     split at he
     ·cases he
     ·rename_i hsz
      obtain ⟨d,i,g1,g2,g3,_⟩:=Zq hT
      rw [g3] at hk
      obtain ⟨gs,rfl,rfl⟩:=Qcz hk
      simp only [List.getElem?_map,Option.map_eq_some_iff] at hf
      obtain ⟨fd,hfd,e⟩:=hf
      cases e
      obtain ⟨d',i',g1',g2',g3',g4',_⟩:=Zq hU
      have hfd':gs[f]?=some fd:=by simpa using hfd
      have hsz':¬ i'.size=0:=by rw [←g4']; exact hsz
      have hrun:∀b k,a.eval x=.pointer (some ⟨b,k,none⟩)→(execOp a.eval o).run P W=.ok (.value (.pointer (some ⟨b,k+fd.offset,none⟩))) W:=by
       intro b k hb
       simp [execOp,ho,hb,Instr.fieldAt,run_underlying g1,hfd',Instr.sureAddr,fieldPlace,Z9 g2',hsz',Qan]
      have hv:=Qe hs hx
      generalize hu:a.eval x=w at hv hrun
      split at he
      ·obtain ⟨z,hz,hr⟩:=Q5 he
       cases hr; cases hz
       cases hv with
       | fz b k cs g hcs hM hrr =>
       refine Ql h (hrun b k rfl) (.fz b _ _ (fun j=>g (fd.offset+j)) (fun z hz=>hcs z (List.mem_of_mem_drop hz)) (fun j z hz=>?_) (fun j z hz=>?_))
       ·rw [List.getElem?_drop] at hz
        rw [show k+fd.offset+j=k+(fd.offset+j) by omega]; exact hM _ z hz
       ·rw [List.getElem?_drop] at hz
        exact hrr _ z hz
      ·rename_i ob ii c
       obtain ⟨z,hz,hr⟩:=Q5 he
       cases hr; cases hz
       cases hv with
       | ptr _ _ _ p hp =>
       have:=hrun _ _ rfl
       refine Ql h this ?_
       rw [show p.base+ii*p.w+c+fd.offset=p.base+ii*p.w+(c+fd.offset) by omega]
       exact .ptr _ _ _ p hp
      ·cases he
    ·cases he
   ·cases he
  ·cases he
 ·cases he
theorem Qmr (h:Rel P B W0 D M ι σ W) (hs:Qg M ι s a.tmps) {t:TypeId} {x y:Operand} (ho:o.op=.indexAddr t x y) (he:evalOp P nf C σ fr s o=some (.val res)):Q8 P B W0 D M ι σ fr a o W res:=by
 unfold evalOp at he
 rw [ho] at he
 simp only at he
 split at he
 ·rename_i T z b hT hx hy
  obtain ⟨d,i,g1,g2,g3,_⟩:=Zq hT
  have hv:=Qe hs hx
  split at he
  ·rename_i e j hk hj
   rw [g3] at hk
   rw [Zk hk] at g1
   obtain ⟨k,hk'⟩:=Qdk (Qe hs hy) hj
   split at he
   ·rename_i E hE
    obtain ⟨d',i',g1',g2',g3',g4',_⟩:=Zq hE
    have hrun:∀bl off len cap,a.eval x=.slice (some ⟨bl,off,none⟩) len cap→j < len→(execOp a.eval o).run P W=.ok (.value (.pointer (some ⟨bl,off+j*E.size,none⟩))) W:=by
     intro bl off len cap hb hlt
     have h0:(0:Int)≤(j:Int)∧(j:Int) < (len:Int):=⟨by omega,by omega⟩
     simp only [execOp,ho,hb,hk',Instr.indexAt,Sem.run_bind,asIntOf,Sem.run_pure,Result.andThen_ok,run_underlying g1,h0,and_self,if_true,Z9 g2',Int.toNat_natCast,Qan,g4']
    generalize hu:a.eval x=w at hv hrun
    split at he
    ·rename_i fl xs
     split at he
     ·rename_i u hxj
      split at he
      ·rename_i hlen
       obtain ⟨r,hr,hr'⟩:=Q5 he
       cases hr'; cases hr
       cases hv with
       | lst0=>simp at hxj
       | lst bl off cap w fl xs f hcap hfl hc hM hrr =>
       have hw:E.size=w:=by rw [←hlen]; exact (hc u (List.mem_of_getElem? hxj)).len
       refine Ql h (hrun bl off xs.length cap rfl (List.getElem?_eq_some_iff.1 hxj).1) (.fz bl _ _ (f j) (hc u (List.mem_of_getElem? hxj)).cells (fun q z hz=>?_) (fun q z hz=>hrr j q u z hxj hz))
       rw [hw]; exact hM j q u z hxj hz
      ·cases he
     ·cases he
    ·rename_i ob ii n
     split at he
     ·rename_i ro nr fl w' xs hσ
      split at he
      ·rename_i hc
       simp only [Bool.and_eq_true,decide_eq_true_eq] at hc
       obtain ⟨c1,c2⟩:=hc
       have c1:=X0 c1
       cases he
       obtain ⟨q,hq,hrow⟩:=h.row _ _ _ _ _ _ _ hσ
       cases hv with
       | ref0=>omega
       | ref _ _ _ p off cap hp hi' hcap hoff =>
       have hpq:p=q:=by rw [hp] at hq; exact Option.some.inj hq
       subst hpq
       have hr0:=hrun p.blk off n cap rfl c1
       refine Ql h hr0 ?_
       have hoff':off=p.base+ii*p.w:=by
        rcases hoff with e | e
        ·exact e
        ·omega
       rw [hoff',show p.base+ii*p.w+j*E.size=p.base+(ii+j)*p.w+0 by rw [hrow.pw,←c2,Nat.add_mul]; omega]
       exact .ptr _ _ _ p hp
      ·cases he
     ·cases he
    ·cases he
   ·cases he
  ·rename_i n e j hk hj
   rw [g3] at hk
   rw [Qa4 hk] at g1
   obtain ⟨k,hk'⟩:=Qdk (Qe hs hy) hj
   split at he
   ·rename_i E hE
    obtain ⟨d',i',g1',g2',g3',g4',_⟩:=Zq hE
    split at he
    ·rename_i hlt
     have hlt:=X0 hlt
     have hrun:∀bl off,a.eval x=.pointer (some ⟨bl,off,none⟩)→(execOp a.eval o).run P W=.ok (.value (.pointer (some ⟨bl,off+j*E.size,none⟩))) W:=by
      intro bl off hb
      have h0:(0:Int)≤(j:Int)∧(j:Int) < (n:Int):=⟨by omega,by omega⟩
      simp only [execOp,ho,hb,hk',Instr.indexAt,Instr.sureAddr,Sem.run_bind,asIntOf,Sem.run_pure,Result.andThen_ok,run_underlying g1,h0,and_self,if_true,Z9 g2',Int.toNat_natCast,Qan,g4']
     generalize hu:a.eval x=w at hv hrun
     split at he
     ·obtain ⟨r,hr,hr'⟩:=Q5 he
      cases hr'; cases hr
      cases hv with
      | fz b k cs g hcs hM hrr =>
      refine Ql h (hrun b k rfl) (.fz b _ _ (fun q=>g (j*E.size+q)) (fun z hz=>hcs z (List.mem_of_mem_drop hz)) (fun q z hz=>?_) (fun q z hz=>?_))
      ·rw [List.getElem?_drop] at hz
       rw [show k+j*E.size+q=k+(j*E.size+q) by omega]; exact hM _ z hz
      ·rw [List.getElem?_drop] at hz
       exact hrr _ z hz
     ·rename_i ob ii c
      obtain ⟨r,hr,hr'⟩:=Q5 he
      cases hr'; cases hr
      cases hv with
      | ptr _ _ _ p hp =>
      have:=hrun _ _ rfl
      refine Ql h this ?_
      rw [show p.base+ii*p.w+c+j*E.size=p.base+ii*p.w+(c+j*E.size) by omega]
      exact .ptr _ _ _ p hp
     ·cases he
    ·cases he
   ·cases he
  ·cases he
 ·cases he
theorem Qv6 (h:Rel P B W0 D M ι σ W) (hs:Qg M ι s a.tmps) {t:TypeId} {x:Operand} (ho:o.op=.load t x) (he:evalOp P nf C σ fr s o=some (.val res)):Q8 P B W0 D M ι σ fr a o W res:=by
 unfold evalOp at he
 rw [ho] at he
 simp only at he
 split at he
 ·rename_i T cs hT hx
  obtain ⟨z,hz,hr⟩:=Q5 he
  cases hr
  have hv:=Qe hs hx
  generalize hu:a.eval x=w at hv
  cases hv with
  | fz b off cs f hcs hM hrr =>
  obtain ⟨v,h1,h2⟩:=Qbg (W:=W) (M:=M) (ι:=ι) hT hz hcs (b:=b) (off:=off) (fun j y hy=>⟨f j,h.agree _ _ _ (hM j y hy),(hrr j y hy).mono (CM.le_refl _) (Inj.noInj_le _)⟩)
  exact Ql h (v:=v) (by simp [execOp,ho,hu,Instr.loadAt,Instr.sureAddr,h1]) h2
 ·rename_i T ob ii c hT hx
  split at he
  ·rename_i bx ro nr fl w xs hσ
   split at he
   ·rename_i y hy
    cases hz:K6 T (y.flat.drop c) with
    | none=>simp [hz] at he
    | some z =>
     simp [hz] at he
     subst he
     obtain ⟨p,hp,hrow⟩:=h.row _ _ _ _ _ _ _ hσ
     have hv:=Qe hs hx
     generalize hu:a.eval x=u at hv
     cases hv with
     | ptr _ _ _ p' hp' =>
     rw [hp] at hp'; cases hp'
     obtain ⟨v,h1,h2⟩:=Qbg (W:=W) (M:=M) (ι:=ι) hT hz (fun q hq=>(hrow.shaped y (List.mem_of_getElem? hy)).cells q (List.mem_of_mem_drop hq)) (b:=p.blk) (off:=p.base+ii*p.w+c) (fun j q hq=>by
      rw [List.getElem?_drop] at hq
      obtain ⟨v,hv,hr⟩:=hrow.cells ii (c+j) y q hy hq
      refine ⟨v,?_,hr⟩
      rw [hrow.pw,show p.base+ii*w+c+j=p.base+ii*w+(c+j) by omega]; exact hv)
     exact Ql h (v:=v) (by simp [execOp,ho,hu,Instr.loadAt,Instr.sureAddr,h1]) h2
   ·cases he
  ·cases he
 ·cases he
end
end Go.Ab
