/- Rules on plain values. No conditions. -/
import Derived.Test.YtjhfdojgaoapcaaDoorEng7
import Derived.Shelf.SlSortCmp.NoneTotal
import Derived.Test.YtjhfdojgaoapcaaDoorEng8
set_option linter.all false
namespace Go.Ab
open Go.RowKit Go.Shelf Go.Sort Go.Proofs
structure CmpOk {T:Type} (good:T→Bool) (c:T→T→Option Int) (le:T→T→Bool):Prop where
 tot:∀x y,good x=true→good y=true→∃r,c x y=some r∧(r < 0↔le y x=false)
 trans:∀x y z,le x y=true→le y z=true→le x z=true
 total:∀x y,(le x y || le y x)=true
 anti:∀x y,le x y=true→le y x=true→x=y
def insL {T:Type} (le:T→T→Bool) (x:T):List T→List T
 | []=>[x]
 | y::l=>if le x y=true then x::y::l else y::insL le x l
def isort {T:Type} (le:T→T→Bool):List T→List T
 | []=>[]
 | x::l=>insL le x (isort le l)
theorem insL_perm {T:Type} (le:T→T→Bool) (x:T):∀(l:List T),(insL le x l).Perm (x::l)
 | []=>.refl _
 | y::l=>by
  unfold insL
  split
  ·exact .refl _
  ·exact ((insL_perm le x l).cons y).trans (.swap x y l)
theorem isort_perm {T:Type} (le:T→T→Bool):∀(l:List T),(isort le l).Perm l
 | []=>.refl _
 | x::l=>(insL_perm le x (isort le l)).trans ((isort_perm le l).cons x)
theorem insL_sorted {T:Type} {le:T→T→Bool} (trans:∀x y z,le x y=true→le y z=true→le x z=true) (total:∀x y,(le x y || le y x)=true) (x:T):∀(l:List T),l.Pairwise (fun x y=>le x y=true)→(insL le x l).Pairwise (fun x y=>le x y=true)
 | [],_=>by simp [insL]
 | y::l,h=>by
  unfold insL
  rw [List.pairwise_cons] at h
  split
  ·rename_i hxy
   refine List.pairwise_cons.2 ⟨fun z hz=>?_,List.pairwise_cons.2 h⟩
   rcases List.mem_cons.1 hz with rfl | hz
   ·exact hxy
   ·exact trans _ _ _ hxy (h.1 z hz)
  ·rename_i hxy
   refine List.pairwise_cons.2 ⟨fun z hz=>?_,insL_sorted trans total x l h.2⟩
   rcases List.mem_cons.1 ((insL_perm le x l).mem_iff.1 hz) with rfl | hz
   ·have:=total z y
    simp only [Bool.or_eq_true] at this
    exact this.resolve_left hxy
   ·exact h.1 z hz
theorem isort_sorted {T:Type} {le:T→T→Bool} (trans:∀x y z,le x y=true→le y z=true→le x z=true) (total:∀x y,(le x y || le y x)=true):∀(l:List T),(isort le l).Pairwise (fun x y=>le x y=true)
 | []=>.nil
 | x::l=>insL_sorted trans total x _ (isort_sorted trans total l)
theorem sorted_one {T:Type} {le:T→T→Bool} (anti:∀x y,le x y=true→le y x=true→x=y):∀{l l':List T},l.Perm l'→l.Pairwise (fun x y=>le x y=true)→l'.Pairwise (fun x y=>le x y=true)→l=l'
 | [],l',h,_,_=>by rw [List.Perm.nil_eq h]
 | x::l,[],h,_,_=>absurd h.length_eq (by simp)
 | x::l,y::l',h,h1,h2=>by
  rw [List.pairwise_cons] at h1 h2
  have e:x=y:=by
   have m1:x∈y::l':=h.mem_iff.1 (by simp)
   have m2:y∈x::l:=h.mem_iff.2 (by simp)
   rcases List.mem_cons.1 m1 with e | m1
   ·exact e
   ·rcases List.mem_cons.1 m2 with e | m2
    ·exact e.symm
    ·exact anti x y (h1.1 y m2) (h2.1 x m1)
  subst e
  rw [sorted_one anti h.cons_inv h1.2 h2.2]
structure RawOk {T:Type} (M:CM) (good:T→Bool) (enc:T→AV) (k:Nat) (z:T × List Value):Prop where
 good:good z.1=true
 len:z.2.length=k
 one:∀v∈z.2,v.oneCell'=true
 rep:∀(j:Nat) (v:Value) (y:AV),z.2[j]?=some v→(enc z.1).flat[j]?=some y→RepV M noInj v y
theorem grow_of {W W':World} (h:Beneath W.heap.size W W'):∃q os,W'=grow (W.drewN q) os:=by
 obtain ⟨⟨h1,h2,h3,h4,h5⟩,h6⟩:=h
 refine ⟨W'.drawn - W.drawn,W'.heap.extract W.heap.size W'.heap.size,?_⟩
 have e:W'.heap=W.heap++W'.heap.extract W.heap.size W'.heap.size:=by
  apply Array.ext_getElem?
  intro k
  rcases Nat.lt_or_ge k W.heap.size with hk | hk
  ·rw [Array.getElem?_append_left hk]; exact h5 k hk
  ·rw [Array.getElem?_append_right hk,Array.getElem?_extract]
   rcases Nat.lt_or_ge k W'.heap.size with hk' | hk'
   ·rw [if_pos (by omega)]; congr 1; omega
   ·rw [if_neg (by omega),Array.getElem?_eq_none hk']
 cases W'; cases W
 simp only [grow,World.drewN] at *
 subst h1; subst h2; subst h3
 congr 1
 omega
theorem setMany_all (F:Array Value) (vs:List Value) (h:vs.length=F.size):Go.Sort.setMany F 0 vs=vs.toArray:=by
 apply Array.ext (by simp [h])
 intro t ht1 ht2
 have h1:t < F.size:=by simpa using ht1
 have:=Go.Sort.get_setMany vs 0 F t h1
 rw [if_pos (by omega)] at this
 rw [getElem!_pos _ t (by simpa using ht1),getElem!_pos _ (t - 0) (by omega)] at this
 simpa using this
theorem sort_callIn {P:Program} {ρ:Ren} (L:SlLaysF0.n6 P ρ) {T:Type} {enc:T→AV} {k:Nat} (aE:∀w,(isAgg (ρ.t 24)).run P w=.ok true w) (zE:∀w,(Go.sizeOf (ρ.t 24)).run P w=.ok k w)
  {good:T→Bool} {c:T→T→Option Int} {le:T→T→Bool} (hc:CmpOk good c le) {g:FuncId} {gfn:Func} (hgf:P.funcs[g]?=some gfn) (hgb:gfn.body.isSome=true) (hgn:(gfn.name == "runtime.NumGoroutine")=false)
  (hcon:∀x y r,c x y=some r→CallOk P g [enc x,enc y] (.ret (.int .i64 r) [])) (hagg:∀x,enc x=.agg (enc x).flat) (hw:∀x,(enc x).flat.length=k) (hcl:∀x,∀y∈(enc x).flat,AV.cell y=true)
  {objs:List AObj} {o:Nat} {fl:Bool} {l:List T} (hrow:objs[o]?=some (.row false false true fl k (l.map enc))) (hgood:l.all good=true) (hlen:l.length < 4611686018427387904) :
  CallIn P (ρ.f 6) [.ref o 0 l.length,.fn (.func g) [] []] objs (.tup []) (objs.set o (.row false false true fl k ((isort le l).map enc))):=by
 intro B W0 W D M ι vs hrel hnd hnew hbig hsz hrep
 have hob:o < BIG:=Nat.lt_of_lt_of_le (List.getElem?_eq_some_iff.1 hrow).1 hbig
 have hσ:sto objs o=some (.row false false true fl k (l.map enc)):=sto_at hob hrow rfl
 obtain ⟨p,hp,hrw⟩:=hrel.row o _ _ _ _ _ _ hσ
 obtain ⟨v0,v1,rfl⟩:∃v0 v1,vs=#[v0,v1]:=by
  have h2:vs.size=2:=hsz
  refine ⟨vs[0],vs[1],?_⟩
  apply Array.ext (by simp [h2])
  intro i h3 h4
  match i,h4 with
  | 0,_=>rfl
  | 1,_=>rfl
 have r0:=hrep 0 v0 _ rfl rfl
 have r1:=hrep 1 v1 _ rfl rfl
 obtain ⟨v1',e1⟩:∃x:Unit,v1=.func (.func g) #[] #[]:=by
  cases r1 with
  | fn _ first' caps' _ _ hy hm h1 h2 hr1 hr2 =>
   have a1:first'=#[]:=Array.eq_empty_of_size_eq_zero h1
   have a2:caps'=#[]:=Array.eq_empty_of_size_eq_zero h2
   exact ⟨(),by rw [a1,a2]⟩
 subst e1
 have hset:sto (objs.set o (.row false false true fl k ((isort le l).map enc)))=(sto objs).put o (.row false false true fl k ((isort le l).map enc)):=sto_set hrow rfl rfl hob
 have hlen':(objs.set o (.row false false true fl k ((isort le l).map enc))).length=objs.length:=List.length_set
 have hinb:∀k',¬ InB (objs.set o (.row false false true fl k ((isort le l).map enc))).length k'→ι k'=none:=by rw [hlen']; exact hnew
 by_cases hne:l=[]
 ·subst hne
  obtain ⟨ad,cap,rfl⟩:∃ad cap,v0=.slice ad 0 cap:=by
   cases r0 with
   | ref0 a o p hp hc=>exact ⟨a,0,rfl⟩
   | ref _ _ _ q off cap hq hi' hcap hoff=>exact ⟨_,cap,rfl⟩
  refine (AnyF.slices_SortFunc_none L ad cap (.func (.func g) #[] #[]) W).mono ?_
  rintro e W' ⟨rfl,rfl⟩
  have hs:(sto objs).put o (.row false false true fl k ((isort le ([]:List T)).map enc))=sto objs:=by
   funext j
   by_cases e:j=o
   ·subst e; rw [Sto.put_same,hσ]; rfl
   ·rw [Sto.put_ne _ _ e]
  exact ⟨_,M,ι,rfl,.refl _ _,Inj.le_refl _,by rw [hset,hs]; exact hrel,hinb,by rw [hlen']; exact hbig,.tup _ _ rfl (fun j v y h=>by simp at h)⟩
 ·have hpos:0 < l.length:=List.length_pos_iff.2 hne
  have hcapl:l.length≤p.cap:=by have:=hrw.len; simpa using this
  obtain ⟨cap,rfl⟩:∃cap,v0=.slice (some ⟨p.blk,p.base,none⟩) l.length cap:=by
   generalize hn:l.length=n at r0
   cases r0 with
   | ref0 a o q hq hc=>rw [hp] at hq; cases hq; omega
   | ref _ _ _ q off cap hq hi' hcap hoff =>
    rw [hp] at hq; cases hq
    refine ⟨cap,?_⟩
    rcases hoff with h1 | h1
    ·rw [h1]; simp
    ·omega
  obtain ⟨hB,hown⟩:=hrw.own rfl
  have hk0:0 < k:=hrw.pos
  have hfit:l.length*k≤p.cap*k:=Nat.mul_le_mul_right _ hcapl
  have hblk:p.blk < W.heap.size:=by
   obtain ⟨v,hv⟩:=Option.isSome_iff_exists.1 (hown 0 (by have:=Nat.mul_pos (Nat.lt_of_lt_of_le hpos hcapl) hk0; omega)).1
   exact World.block_lt_of_cell? W _ hv
  have hshape:∀x∈l,(enc x).flat.length=k:=fun x hx=>(hrw.shaped (enc x) (List.mem_map_of_mem hx)).len
  have hcells:∀i (hi:i < l.length) j,j < k→∃v,W.cell? ⟨p.blk,p.base+i*k+j,none⟩=some v∧∀y,(enc l[i]).flat[j]?=some y→RepV M noInj v y∧v.oneCell'=true:=fun i hi j hj=>by
   have hx:(l.map enc)[i]?=some (enc l[i]):=by rw [List.getElem?_map,List.getElem?_eq_getElem hi]; rfl
   have hy:(enc l[i]).flat[j]?=some ((enc l[i]).flat[j]'(by rw [hshape _ (List.getElem_mem hi)]; exact hj)):=List.getElem?_eq_getElem _
   obtain ⟨v,h1,h2⟩:=hrw.cells i j _ _ hx hy
   refine ⟨v,h1,fun y hy'=>?_⟩
   rw [hy] at hy'; cases hy'
   have hnr:=AV.nr_flat (nrL_mem.1 (hrw.nr rfl) (enc l[i]) (List.mem_of_getElem? hx)) _ (List.getElem_mem (show j < (enc l[i]).flat.length by rw [hshape _ (List.getElem_mem hi)]; exact hj))
   exact ⟨h2.of_nr hnr,h2.oneCell ((hrw.shaped (enc l[i]) (List.mem_of_getElem? hx)).cells _ (List.getElem_mem _))⟩
  let raw:Nat → List Value:=fun i=>(List.range k).map fun j=>(W.cell? ⟨p.blk,p.base+i*k+j,none⟩).getD undef
  have hraw:∀i (hi:i < l.length),RawOk M good enc k (l[i],raw i):=fun i hi=>by
   have hat : ∀j v,(raw i)[j]?=some v→j < k∧W.cell? ⟨p.blk,p.base+i*k+j,none⟩=some v:=fun j v hv=>by
    simp only [raw,List.getElem?_map,Option.map_eq_some_iff] at hv
    obtain ⟨a,ha,rfl⟩:=hv
    have hj:j < k:=by have:=(List.getElem?_eq_some_iff.1 ha).1; simpa using this
    rw [List.getElem?_range hj] at ha; cases ha
    obtain ⟨v,hv,_⟩:=hcells i hi j hj
    exact ⟨hj,by rw [hv]; rfl⟩
   refine ⟨List.all_eq_true.1 hgood _ (List.getElem_mem hi),by simp [raw],fun v hv=>?_,fun j v y hv hy=>?_⟩
   ·obtain ⟨j,hj⟩:=List.mem_iff_getElem?.1 hv
    obtain ⟨hjk,h1⟩:=hat j v hj
    obtain ⟨v',h2,h3⟩:=hcells i hi j hjk
    rw [h1] at h2; cases h2
    exact (h3 _ (List.getElem?_eq_getElem (by rw [hshape _ (List.getElem_mem hi)]; exact hjk))).2
   ·obtain ⟨hjk,h1⟩:=hat j v hv
    obtain ⟨v',h2,h3⟩:=hcells i hi j hjk
    rw [h1] at h2; cases h2
    exact (h3 y hy).1
  let α:={ z:T × List Value // RawOk M good enc k z }
  letI:Inhabited α:=⟨⟨(l[0],raw 0),hraw 0 hpos⟩⟩
  let encR:α→List Value:=fun z=>z.1.2
  let cf:α→α→Int:=fun x y=>(c x.1.1 y.1.1).getD 0
  have hcf:∀x y:α,c x.1.1 y.1.1=some (cf x y)∧(cf x y < 0↔le y.1.1 x.1.1=false):=fun x y=>by
   obtain ⟨r,h1,h2⟩:=hc.tot x.1.1 y.1.1 x.2.good y.2.good
   simp only [cf,h1,Option.getD_some]
   exact ⟨trivial,h2⟩
  have hlt:∀x y:α,ltOf cf x y=!(le y.1.1 x.1.1):=fun x y=>by
   unfold ltOf
   rw [Bool.eq_iff_iff,decide_eq_true_eq,(hcf x y).2]; simp
  have lerefl:∀x,le x x=true:=fun x=>by have:=hc.total x x; simpa using this
  have letot:∀x y,le x y=false→le y x=true:=fun x y h=>by have:=hc.total x y; rw [h] at this; simpa using this
  have hO:SWO (ltOf cf):=by
   refine ⟨fun x=>by rw [hlt,lerefl]; rfl,fun x y z h1 h2=>?_,fun x y z h1 h2=>?_⟩
   ·rw [hlt] at *
    simp only [Bool.not_eq_true'] at *
    rw [Bool.eq_false_iff]
    intro h3
    have:=hc.trans _ _ _ h3 (letot _ _ h1)
    rw [this] at h2; cases h2
   ·rw [hlt] at *
    simp only [Bool.not_eq_false'] at *
    exact hc.trans _ _ _ h2 h1
  let d:Array α:=Array.ofFn (n:=l.length) fun i=>⟨(l[i.1],raw i.1),hraw i.1 i.2⟩
  have hds:d.size=l.length:=by simp [d]
  have hd:∀i (hi:i < l.length),d[i]! = ⟨(l[i],raw i),hraw i hi⟩:=fun i hi=>by
   rw [getElem!_pos d i (by rw [hds]; exact hi)]; simp [d]
  have hH:HoldsK encR k W p.blk p.base d:=by
   intro t ht
   rw [size_flatK,hds] at ht
   rw [get_flatK _ _ _ t (by rw [hds]; exact ht)]
   have hi:t / k < l.length:=(Nat.div_lt_iff_lt_mul hk0).2 ht
   have hj:t % k < k:=Nat.mod_lt _ hk0
   rw [hd _ hi]
   obtain ⟨v,hv,_⟩:=hcells (t / k) hi (t % k) hj
   have et:p.base+(t / k)*k+t % k=p.base+t:=by rw [Nat.add_assoc,Nat.mul_comm,Nat.div_add_mod]
   rw [et] at hv
   constructor
   ·show W.cell? _=some (id ((raw (t / k))[t % k]!))
    have:(raw (t / k))[t % k]! = v:=by
     rw [getElem!_pos _ _ (by simpa [raw] using hj)]
     simp only [raw,List.getElem_map,List.getElem_range]
     rw [et,hv]; rfl
    rw [this,hv]; rfl
   ·exact (hrel.cool o _ _ _ _ _ p t hσ hp (by omega)).1
  have hcmp:CmpLays P g #[] encR k cf p.blk p.base d.size W:=by
   intro m os dk hdk x y
   have hMrow:∀b o' v,M b o'=some v→(sortWorldK encR k W p.blk p.base m dk os).cell? ⟨b,o',none⟩=some v:=fun b o' v hm=>by
    have h1:=hrel.agree b o' v hm
    have hb:=World.block_lt_of_cell? W _ h1
    unfold sortWorldK
    have h2:(putRowK encR k (Sort.ahead W m) p.blk p.base dk).cell? ⟨b,o',none⟩=some v:=by
     unfold putRowK
     rw [cell?_putRow_other]
     ·exact h1
     ·rw [size_flatK,hdk,hds]
      rcases Nat.lt_or_ge o' p.base with h3 | h3
      ·exact .inr (.inl h3)
      ·rcases Nat.lt_or_ge o' (p.base+l.length*k) with h4 | h4
       ·left
        intro e
        have e':b=p.blk:=e
        subst e'
        have:=(hown (o' - p.base) (by omega)).2
        rw [show p.base+(o' - p.base)=o' by omega,hm] at this; cases this
       ·exact .inr (.inr h4)
    have hb2:b < (putRowK encR k (Sort.ahead W m) p.blk p.base dk).heap.size:=World.block_lt_of_cell? _ _ h2
    unfold World.cell? at h2 ⊢
    have hg:(grow (putRowK encR k (Sort.ahead W m) p.blk p.base dk) os).heap[b]?=(putRowK encR k (Sort.ahead W m) p.blk p.base dk).heap[b]?:=by
     unfold grow
     exact Array.getElem?_append_left hb2
    simp only [hg]
    exact h2
   obtain ⟨e1,_⟩:=hcf x y
   have harg:∀z:α,RepV M noInj (.agg z.1.2.toArray) (enc z.1.1):=fun z=>by
    rw [hagg z.1.1]
    refine .agg _ _ ?_ ?_ ?_
    ·rw [List.size_toArray,z.2.len,hw]
    ·exact hcl _
    ·intro j v y hv hy
     exact z.2.rep j v y (by simpa using hv) hy
   let M1:CM:=⟨M.f,M.ok,fun _=>none,fun _ _=>none⟩
   have hag1:Agree M1 (sortWorldK encR k W p.blk p.base m dk os):=⟨hMrow,(fun b x h=>by cases h),(fun b o v h=>by cases h)⟩
   have hM1:M.le M1:=fun _ _ _ h=>h
   refine (hcon x.1.1 y.1.1 _ e1 _ M1 _ hag1 rfl ?_).mono ?_
   ·intro j v a hv ha
    match j with
    | 0=>cases hv; cases ha; exact (harg x).mono hM1 (Inj.le_refl _)
    | 1=>cases hv; cases ha; exact (harg y).mono hM1 (Inj.le_refl _)
    | _+2=>simp at hv
   ·rintro e W1 ⟨v,M',ι',rfl,_,hr1,_,hv⟩
    cases hv
    obtain ⟨q,os',hq⟩:=grow_of hr1.below
    exact ⟨rfl,q,os',hq⟩
  have hrun:=AnyQ.slices_SortFunc L k aE zE encR (fun z=>z.2.len) (fun z v hv=>z.2.one v hv) cf hO g #[] p.blk p.base cap d W (fun args w=>run_callFunc' hgf hgb hgn args w) hcmp hH hblk (by rw [hds]; exact hlen)
  rw [hds] at hrun
  refine hrun.mono ?_
  rintro e W' ⟨rfl,d',n,os,hperm,hsort,rfl⟩
  obtain ⟨hsz',_,hper⟩:=hperm
  have hs':d'.size=l.length:=hsz'.trans hds
  have hl0:d.toList.map (fun z:α=>z.1.1)=l:=by
   apply List.ext_getElem
   ·simp [hds]
   ·intro i h1 h2
    have:=hd i h2
    rw [getElem!_pos d i (by rw [hds]; exact h2)] at this
    rw [List.getElem_map,Array.getElem_toList,this]
  have hpl:d'.toList.Perm d.toList:=by
   have e1:d'.extract 0 l.length=d':=by rw [←hs']; simp
   have e2:d.extract 0 l.length=d:=by rw [←hds]; simp
   rw [e1,e2] at hper; exact hper
  have hsl:(d'.toList.map (fun z:α=>z.1.1)).Pairwise (fun x y=>le x y=true):=by
   rw [List.pairwise_map,List.pairwise_iff_getElem]
   intro i j hi hj hij
   have h1:=hsort i j (Nat.zero_le _) hij (by rw [←hs']; simpa using hj)
   rw [hlt,getElem!_pos d' j (by simpa using hj),getElem!_pos d' i (by simpa using hi)] at h1
   simpa using h1
  have hms:d'.toList.map (fun z:α=>z.1.1)=isort le l:=by
   refine sorted_one hc.anti ?_ hsl (isort_sorted hc.trans hc.total l)
   refine ((hpl.map (fun z:α=>z.1.1)).trans ?_)
   rw [hl0]
   exact (isort_perm le l).symm
  have hlm:(isort le l).length=l.length:=by rw [←hms]; simp [hs']
  have hat : ∀i x,(isort le l)[i]?=some x→∃z:α,d'[i]! = z∧z.1.1=x:=fun i x hx=>by
   rw [←hms,List.getElem?_map,Option.map_eq_some_iff] at hx
   obtain ⟨z,hz,rfl⟩:=hx
   have hi:i < d'.size:=by have:=(List.getElem?_eq_some_iff.1 hz).1; simpa using this
   refine ⟨z,?_,rfl⟩
   rw [getElem!_pos d' i hi]
   have:=(List.getElem?_eq_some_iff.1 hz).2
   rw [←this,Array.getElem_toList]
  have h1:Rel P B W0 D M ι (sto objs) (Sort.ahead W n):=hrel.old ⟨⟨rfl,rfl,rfl,Nat.le_refl _,fun _ _=>rfl⟩,Nat.le_add_right _ _⟩
  have hself:putRowK encR k (Sort.ahead W n) p.blk p.base d=Sort.ahead W n:=putRowK_self encR k _ _ _ _ (holdsK_ahead encR k W n p.blk p.base d hH)
  have hF:(flatK encR k d').toList.length=l.length*k:=by rw [Array.length_toList,size_flatK,hs']
  have hput:putRowK encR k (Sort.ahead W n) p.blk p.base d'=(Sort.ahead W n).setCells p.blk (p.base+0) (flatK encR k d').toList:=by
   conv=>rhs; rw [←hself]
   unfold putRowK
   rw [setCells_putRow _ _ _ _ _ _ (by rw [hF,size_flatK,hds]; omega),setMany_all _ _ (by rw [hF,size_flatK,hds]),Array.toArray_toList]
  have h2:Rel P B W0 D M ι ((sto objs).put o (.row false false true fl k ((isort le l).map enc))) ((Sort.ahead W n).setCells p.blk (p.base+0) (flatK encR k d').toList):=by
   refine h1.write hσ hp 0 _ (by rw [hF]; omega) (by rw [List.length_map,hlm]; exact hcapl) ?_ ?_ ?_ ?_ ?_
   ·intro x hx
    obtain ⟨a,ha,rfl⟩:=List.mem_map.1 hx
    exact ⟨.inl (hagg a),hw a,hcl a⟩
   ·intro _
    rw [nrL_mem]
    intro x hx
    obtain ⟨a,ha,rfl⟩:=List.mem_map.1 hx
    exact nrL_mem.1 (hrw.nr rfl) _ (List.mem_map_of_mem ((isort_perm le l).mem_iff.1 ha))
   ·intro hf x hx
    obtain ⟨a,ha,rfl⟩:=List.mem_map.1 hx
    exact hrw.fl hf _ (List.mem_map_of_mem ((isort_perm le l).mem_iff.1 ha))
   ·intro i j x y hx hy _ hlt2
    rw [List.getElem?_map,Option.map_eq_some_iff] at hx
    obtain ⟨a,ha,rfl⟩:=hx
    obtain ⟨z,hz1,hz2⟩:=hat i a ha
    have hj:j < k:=by have:=(List.getElem?_eq_some_iff.1 hy).1; rwa [hw] at this
    have hi:i < l.length:=by have:=(List.getElem?_eq_some_iff.1 ha).1; rwa [hlm] at this
    have ht:i*k+j < d'.size*k:=by rw [hs']; rw [hF] at hlt2; omega
    have hzl:j < z.1.2.length:=by rw [z.2.len]; exact hj
    refine ⟨z.1.2[j],?_,?_⟩
    ·rw [Nat.sub_zero]
     have:=get_flatK encR k d' (i*k+j) ht
     rw [getElem!_pos _ _ (by simpa using ht)] at this
     rw [List.getElem?_eq_getElem (by simpa using ht),Array.getElem_toList,this]
     have e1:(i*k+j) / k=i:=by rw [Nat.add_comm,Nat.add_mul_div_right _ _ hk0,Nat.div_eq_of_lt hj,Nat.zero_add]
     have e2:(i*k+j) % k=j:=by rw [Nat.add_comm,Nat.add_mul_mod_self_right,Nat.mod_eq_of_lt hj]
     rw [e1,e2,hz1,getElem!_pos z.1.2 j hzl]
    ·exact (z.2.rep j _ y (List.getElem?_eq_getElem hzl) (by rw [hz2]; exact hy)).mono (CM.le_refl _) (Inj.noInj_le _)
   ·intro i j x y hx hy hout
    exfalso
    rw [List.getElem?_map,Option.map_eq_some_iff] at hx
    obtain ⟨a,ha,rfl⟩:=hx
    have hj:j < k:=by have:=(List.getElem?_eq_some_iff.1 hy).1; rwa [hw] at this
    have hi:i < l.length:=by have:=(List.getElem?_eq_some_iff.1 ha).1; rwa [hlm] at this
    have hm:(i+1)*k≤l.length*k:=Nat.mul_le_mul_right _ hi
    rw [Nat.succ_mul] at hm
    rw [hF] at hout
    omega
  rw [←hput] at h2
  have h3:Rel P B W0 D M ι ((sto objs).put o (.row false false true fl k ((isort le l).map enc))) (sortWorldK encR k W p.blk p.base n d' os):=by
   unfold sortWorldK
   refine h2.old ⟨⟨rfl,rfl,rfl,by simp [grow],fun b hb=>?_⟩,Nat.le_refl _⟩
   show ((putRowK encR k (Sort.ahead W n) p.blk p.base d').heap++os)[b]?=_
   exact Array.getElem?_append_left hb
  exact ⟨_,M,ι,rfl,.refl _ _,Inj.le_refl _,by rw [hset]; exact h3,hinb,by rw [hlen']; exact hbig,.tup _ _ rfl (fun j v y h=>by simp at h)⟩
def sortD {T:Type} (good:T→Bool) (le:T→T→Bool) (l:List T):Option (List T):=if (l.all good && Nat.blt l.length 4611686018427387904)=true then some (isort le l) else none
theorem sortR {P:Program} {rd:Option Nat} {base:Nat} {ops:Array Oper} {st:St} {Φ:AOut→Prop} {i:Nat} {ρ:Ren} {T R:Type} {enc:T→AV} {k o:Nat} {fl:Bool} {l:List T}
  {good:T→Bool} {c:T→T→Option Int} {le:T→T→Bool} {f g:FuncId} {fn gfn:Func} {K:List T→Option R} {r:R} {S:Nat → List T→St} (L:SlLaysF0.n6 P ρ) (hc:CmpOk good c le) (hcon:∀x y r,c x y=some r→CallOk P g [enc x,enc y] (.ret (.int .i64 r) []))
  (hi:callInfo ops i st=some (f,[.ref o 0 l.length,.fn (.func g) [] []])) (hfe:ρ.f 6=f) (hrow:st.objs[o]?=some (.row false false true fl k (l.map enc)))
  (hS:∀x,putRes ops i st (.tup []) (st.objs.set o (.row false false true fl k (x.map enc)))=some (S l.length x))
  (hf:P.funcs[f]?=some fn) (hb:fn.body.isSome=true) (hn:(fn.name == "runtime.NumGoroutine")=false) (hgf:P.funcs[g]?=some gfn) (hgb:gfn.body.isSome=true) (hgn:(gfn.name == "runtime.NumGoroutine")=false)
  (aE:∀w,(isAgg (ρ.t 24)).run P w=.ok true w) (zE:∀w,(Go.sizeOf (ρ.t 24)).run P w=.ok k w)
  (hagg:∀x,enc x=.agg (enc x).flat) (hw:∀x,(enc x).flat.length=k) (hcl:∀x,∀y∈(enc x).flat,AV.cell y=true)
  (h:(sortD good le l).bind K=some r) (kk:∀x,K x=some r→RW P rd base ops none (i+1) (S x.length x) Φ):RW P rd base ops none i st Φ:=by
 unfold sortD at h
 split at h
 ·rename_i hg
  rw [Bool.and_eq_true] at hg
  subst hfe
  have hl:l.length < 4611686018427387904:=Nat.le_of_ble_eq_true hg.2
  have hx:=hS (isort le l)
  have he:(isort le l).length=l.length:=(isort_perm le l).length_eq
  rw [←he] at hx
  exact callInR hi hf hb hn (sort_callIn L aE zE hc hgf hgb hgn hcon hagg hw hcl hrow hg.1 hl) hx (kk _ h)
 ·cases h
end Go.Ab
namespace Go.Ab
open Go.RowKit
section
variable {P:Program} {rd:Option Nat} {base:Nat} {ops:Array Oper} {d:Option (List Sk)} {st S:St} {Φ:AOut→Prop} {i:Nat}
def saInfo (P:Program) (ops:Array Oper) (i:Nat) (st:St):Option (AV × Nat) :=
 match opAt ops i st with
 | some o=>match o.op with
  | .slice t x none none none=>match ti P t,evo (lk st.slots) x with
   | some T,some a=>match T.kind with
    | .array n e=>match ti P e with
     | some E=>if Nat.beq E.size 1 then some (a,n) else none
     | none=>none
    | _=>none
   | _,_=>none
  | _=>none
 | none=>none
theorem sliA {cs ds:List AV} {n:Nat} {fl:Bool} (hi:saInfo P ops i st=some (.fz cs,n)) (hn:ds=cs.take n) (h0:0 < n) (hl:Nat.beq ds.length n=true) (hfl:(!fl || ds.all AV.scs)=true)
  (hS:finI ops i st (some (.lst fl ds)) []=some S) (k:RW P rd base ops (dAdd d [([],[])]) (i+1) S Φ):RW P rd base ops d i st Φ:=by
 have main:∃o,opAt ops i st=some o∧YlL P ops o ⟨some (.lst fl ds),[],st.objs.length,st.objs.length,[]⟩ (lk st.slots) st.sto:=by
  unfold saInfo at hi
  split at hi
  ·rename_i o ho
   split at hi
   ·rename_i t x hop
    split at hi
    ·rename_i T a hT hx
     split at hi
     ·rename_i m e hk
      split at hi
      ·rename_i E hE
       split at hi
       ·rename_i hE1
        cases hi
        refine ⟨o,ho,ylL_done (opAt_spec ho).2 (by rw [hop]; simp) fun s' σ' hs' hσ' B W0 D M ι act W hrel hsl=>?_⟩
        have evx:evo s' x=some (.fz cs):=by rw [hs' x (by rw [hop]; simp [Op.operands])]; exact hx
        obtain ⟨d0,i0,g1,g2,g3,_⟩:=ti_at hT
        rw [g3] at hk; rw [kindOf_array hk] at g1
        obtain ⟨d1,i1,q1,q2,q3,q4,_⟩:=ti_at hE
        have hsz:i1.size=1:=by rw [←q4]; exact Nat.eq_of_beq_eq_true hE1
        have hv:=evo_sound hsl evx
        have hlen:=Nat.eq_of_beq_eq_true hl
        generalize hu:act.eval x=u at hv
        cases hv with
        | fz b off _ f hcs hM hr =>
         have hget:∀(j:Nat) (y:AV),ds[j]?=some y→cs[j]?=some y:=fun j y hj=>by
          rw [hn,List.getElem?_take] at hj; split at hj
          ·exact hj
          ·cases hj
         have hmem:∀y∈ds,AV.cell y=true:=fun y hy=>hcs y (by rw [hn] at hy; exact List.mem_of_mem_take hy)
         have hflat : ∀y∈ds,y.flat = [y]:=fun y hy=>by
          have:=hmem y hy; cases y <;> first | rfl | cases this
         have run:(Instr.sliceAt t (act.eval x) none none none).run P W=.ok (.slice (some ⟨b,off,none⟩) n n) W:=by
          rw [hu]
          simp [Instr.sliceAt,Sem.run_bind,run_underlying g1,Instr.sureAddr,Instr.sliceBounds,run_sizeOf' q2,h0,Sem.run_pure]
          intro _; rfl
         refine ⟨.slice (some ⟨b,off,none⟩) n n,W,M,ι,.inl (by simp [execOp,hop,run]),.refl _ _,Inj.le_refl _,fun _ _=>rfl,hrel,fun y hy=>?_⟩
         cases hy
         have R:=RepV.lst (M:=M) (ι:=ι) b off n 1 fl ds (fun i j=>f i) (by omega) (fun h=>by
          subst h; intro y hy; exact List.all_eq_true.1 (by simpa using hfl) y hy)
          (fun y hy=>⟨.inr (hmem y hy),by rw [hflat y hy]; rfl,fun z hz=>by rw [hflat y hy] at hz; simp at hz; rw [hz]; exact hmem y hy⟩)
          (fun i j y z hi hj=>by
           rw [hflat y (List.mem_of_getElem? hi)] at hj
           have:j=0:=by cases j <;> simp_all
           subst this
           simpa using hM i y (hget i y hi))
          (fun i j y z hi hj=>by
           rw [hflat y (List.mem_of_getElem? hi)] at hj
           have:j=0:=by cases j <;> simp_all
           subst this
           simp at hj; subst hj
           exact hr i y (hget i y hi))
         rw [hlen] at R; exact R
       ·cases hi
      ·cases hi
     ·cases hi
    ·cases hi
   ·cases hi
  ·cases hi
 obtain ⟨o,ho,hy⟩:=main
 exact rw_yl ho hy hS (finI_len0 hS) k
end
end Go.Ab
