/- Rules. No conditions. -/
import Derived.Test.YtojklbpplceiiaaDoorEng9
import Derived.Test.YtojklbpplceiiaaDoorEng8
import Derived.Test.YtojklbpplceiiaaDoorEng7
set_option linter.all false
namespace Go.Ab
open Go.RowKit Go.Shelf Go.Sort Go.Proofs
theorem Qt1 {P:Program} {ρ:Ren} (L:SlLaysF.n6 P ρ) {T:Type} {enc:T->AV}
  {good:T->Bool} {c:T->T->Option Int} {le:T->T->Bool} (hc:Qsu good c le) {g:FuncId} {gfn:Func} (hgf:P.funcs[g]?=some gfn) (hgb:gfn.body.isSome=true) (hgn:(gfn.name == "runtime.NumGoroutine")=false)
  (hcon:∀x y r,c x y=some r->Za P g [enc x,enc y] (.ret (.int .i64 r) [])) (hone:∀x,(enc x).flat = [enc x]) (hcell:∀x,AV.cell (enc x)=true)
  {objs:List AObj} {o:Nat} {fl:Bool} {l:List T} (hrow:objs[o]?=some (.row false false true fl 1 (l.map enc))) (hgood:l.all good=true) (hlen:l.length < 4611686018427387904) :
  Qul P (ρ.f 6) [.ref o 0 l.length,.fn (.func g) [] []] objs (.tup []) (objs.set o (.row false false true fl 1 ((isort le l).map enc))):=by
 have hw:∀x,(enc x).flat.length=1:=fun x=>by rw [hone]; rfl
 have hcl:∀x,∀y∈(enc x).flat,AV.cell y=true:=fun x y hy=>by rw [hone] at hy; rw [bZ.1 hy]; exact hcell x
 intro B W0 W D M ι vs hrel hnd hnew hbig hsz hrep
 have hob:o < BIG:=bR (aD.1 hrow).1 hbig
 have hσ:sto objs o=some (.row false false true fl 1 (l.map enc)):=Qp8 hob hrow rfl
 obtain ⟨p,hp,hrw⟩:=hrel.row o _ _ _ _ _ _ hσ
 obtain ⟨v0,v1,rfl⟩:∃v0 v1,vs=#[v0,v1]:=by
  have h2:vs.size=2:=hsz
  refine ⟨vs[0],vs[1],?_⟩
  apply Array.ext (by simp [h2])
  intro i h3 h4
  match i,h4 with
  | 0,_=>rfl
  | 1,_=>rfl
 have r0:=hrep 0 v0 _ rfl rfl
 have r1:=hrep 1 v1 _ rfl rfl
 obtain ⟨v1',e1⟩:∃x:Unit,v1=.func (.func g) #[] #[]:=by
  cases r1 with
  | fn _ first' caps' _ _ hy hm h1 h2 hr1 hr2 =>
   have a1:first'=#[]:=Array.eq_empty_of_size_eq_zero h1
   have a2:caps'=#[]:=Array.eq_empty_of_size_eq_zero h2
   exact ⟨(),by rw [a1,a2]⟩
 subst e1
 have hset:sto (objs.set o (.row false false true fl 1 ((isort le l).map enc)))=(sto objs).put o (.row false false true fl 1 ((isort le l).map enc)):=Qdo hrow rfl rfl hob
 have hlen':(objs.set o (.row false false true fl 1 ((isort le l).map enc))).length=objs.length:=cF
 have hinb:∀k',¬ InB (objs.set o (.row false false true fl 1 ((isort le l).map enc))).length k'->ι k'=none:=by rw [hlen']; exact hnew
 by_cases hne:l=[]
 ·subst hne
  obtain ⟨ad,cap,rfl⟩:∃ad cap,v0=.slice ad 0 cap:=by
   cases r0 with
   | ref0 a o p hp hc=>exact ⟨a,0,rfl⟩
   | ref _ _ _ q off cap hq hi' hcap hoff=>exact ⟨_,cap,rfl⟩
  refine (AnyF.slices_SortFunc_none { L with } ad cap (.func (.func g) #[] #[]) W).mono ?_
  rintro e W' ⟨rfl,rfl⟩
  have hs:(sto objs).put o (.row false false true fl 1 ((isort le ([]:List T)).map enc))=sto objs:=by
   funext j
   by_cases e:j=o
   ·subst e; rw [Sto.put_same,hσ]; rfl
   rw [Sto.put_ne _ _ e]
  exact ⟨_,M,ι,rfl,.refl _ _,Inj.le_refl _,by rw [hset,hs]; exact hrel,hinb,by rw [hlen']; exact hbig,.tup _ _ rfl (fun j v y h=>by simp at h)⟩
 ·have hpos:0 < l.length:=List.length_pos_iff.2 hne
  have hcapl:l.length<=p.cap:=by have:=hrw.len; simpa using this
  obtain ⟨cap,rfl⟩:∃cap,v0=.slice (some ⟨p.blk,p.base,none⟩) l.length cap:=by
   generalize hn:l.length=n at r0
   cases r0 with
   | ref0 a o q hq hc=>rw [hp] at hq; cases hq; omega
   | ref _ _ _ q off cap hq hi' hcap hoff =>
    rw [hp] at hq; cases hq
    refine ⟨cap,?_⟩
    rcases hoff with h1 | h1
    ·rw [h1]; simp
    omega
  obtain ⟨hB,hown⟩:=hrw.own rfl
  have hk0:0 < 1:=hrw.pos
  have hfit:l.length*1<=p.cap*1:=aU _ hcapl
  have hblk:p.blk < W.heap.size:=by
   obtain ⟨v,hv⟩:=dY.1 (hown 0 (by have:=Nat.mul_pos (bR hpos hcapl) hk0; omega)).1
   exact World.block_lt_of_cell? W _ hv
  have hshape:∀x∈l,(enc x).flat.length=1:=fun x hx=>(hrw.shaped (enc x) (List.mem_map_of_mem hx)).len
  have hcells:∀i (hi:i < l.length) j,j < 1->∃v,W.cell? ⟨p.blk,p.base+i*1+j,none⟩=some v/\∀y,(enc l[i]).flat[j]?=some y->Qb M noInj v y/\v.oneCell'=true:=fun i hi j hj=>by
   have hx:(l.map enc)[i]?=some (enc l[i]):=by rw [bH,aG hi]; rfl
   have hy:(enc l[i]).flat[j]?=some ((enc l[i]).flat[j]'(by rw [hshape _ (bO hi)]; exact hj)):=aG _
   obtain ⟨v,h1,h2⟩:=hrw.cells i j _ _ hx hy
   refine ⟨v,h1,fun y hy'=>?_⟩
   rw [hy] at hy'; cases hy'
   have hnr:=AV.nr_flat (Qp.1 (hrw.nr rfl) (enc l[i]) (aF hx)) _ (bO (show j < (enc l[i]).flat.length by rw [hshape _ (bO hi)]; exact hj))
   exact ⟨h2.of_nr hnr,h2.oneCell ((hrw.shaped (enc l[i]) (aF hx)).cells _ (bO _))⟩
  let raw:Nat -> List Value:=fun i=>(List.range 1).map fun j=>(W.cell? ⟨p.blk,p.base+i*1+j,none⟩).getD undef
  have hraw:∀i (hi:i < l.length),Q3l M good enc 1 (l[i],raw i):=fun i hi=>by
   have hat : ∀j v,(raw i)[j]?=some v->j < 1/\W.cell? ⟨p.blk,p.base+i*1+j,none⟩=some v:=fun j v hv=>by
    simp only [raw,bH,aT] at hv
    obtain ⟨a,ha,rfl⟩:=hv
    have hj:j < 1:=by have:=(aD.1 ha).1; simpa using this
    rw [List.getElem?_range hj] at ha; cases ha
    obtain ⟨v,hv,_⟩:=hcells i hi j hj
    exact ⟨hj,by rw [hv]; rfl⟩
   refine ⟨bU.1 hgood _ (bO hi),by simp [raw],fun v hv=>?_,fun j v y hv hy=>?_⟩
   ·obtain ⟨j,hj⟩:=bW.1 hv
    obtain ⟨hjk,h1⟩:=hat j v hj
    obtain ⟨v',h2,h3⟩:=hcells i hi j hjk
    rw [h1] at h2; cases h2
    exact (h3 _ (aG (by rw [hshape _ (bO hi)]; exact hjk))).2
   obtain ⟨hjk,h1⟩:=hat j v hv
   obtain ⟨v',h2,h3⟩:=hcells i hi j hjk
   rw [h1] at h2; cases h2
   exact (h3 y hy).1
  let α:={ z:T × List Value // Q3l M good enc 1 z }
  letI:Inhabited α:=⟨⟨(l[0],raw 0),hraw 0 hpos⟩⟩
  let encR:α->List Value:=fun z=>z.1.2
  let encV:α->Value:=fun z=>z.1.2.headD undef
  have hencV:∀z:α,[encV z]=encR z:=fun z=>by
   have:=z.2.len
   obtain ⟨v,hv⟩:=List.length_eq_one_iff.1 this
   show [z.1.2.headD undef]=z.1.2
   rw [hv]; rfl
  have hfl:∀(W:World) (blk off:Nat) (d:Array α),putRow encV W blk off d=putRowK encR 1 W blk off d:=fun W blk off d=>by
   unfold putRowK putRow
   congr 1
   funext c
   unfold putCells
   congr 1
   funext j x
   rw [size_flatK,Nat.mul_one]
   split
   ·rename_i hj
    rw [get_flatK _ _ _ _ (by omega),Nat.div_one,Nat.mod_one,<-hencV]
    rfl
   rfl
  have hsw:∀(W:World) (m:Nat) (dk:Array α) (os:Array Obj),sortWorld encV W p.blk p.base m dk os=sortWorldK encR 1 W p.blk p.base m dk os:=fun W m dk os=>by
   unfold sortWorld sortWorldK
   rw [hfl]
  let cf:α->α->Int:=fun x y=>(c x.1.1 y.1.1).getD 0
  have hcf:∀x y:α,c x.1.1 y.1.1=some (cf x y)/\(cf x y < 0↔le y.1.1 x.1.1=false):=fun x y=>by
   obtain ⟨r,h1,h2⟩:=hc.tot x.1.1 y.1.1 x.2.good y.2.good
   simp only [cf,h1,cY]
   exact ⟨trivial,h2⟩
  have hlt:∀x y:α,ltOf cf x y=!(le y.1.1 x.1.1):=fun x y=>by
   unfold ltOf
   rw [aQ,aO,(hcf x y).2]; simp
  have lerefl:∀x,le x x=true:=fun x=>by have:=hc.total x x; simpa using this
  have letot:∀x y,le x y=false->le y x=true:=fun x y h=>by have:=hc.total x y; rw [h] at this; simpa using this
  have hO:SWO (ltOf cf):=by
   refine ⟨fun x=>by rw [hlt,lerefl]; rfl,fun x y z h1 h2=>?_,fun x y z h1 h2=>?_⟩
   ·rw [hlt] at *
    simp only [bK] at *
    rw [bN]
    intro h3
    have:=hc.trans _ _ _ h3 (letot _ _ h1)
    rw [this] at h2; cases h2
   rw [hlt] at *
   simp only [Bool.not_eq_false'] at *
   exact hc.trans _ _ _ h2 h1
  let d:Array α:=Array.ofFn (n:=l.length) fun i=>⟨(l[i.1],raw i.1),hraw i.1 i.2⟩
  have hds:d.size=l.length:=by simp [d]
  have hd:∀i (hi:i < l.length),d[i]! = ⟨(l[i],raw i),hraw i hi⟩:=fun i hi=>by
   rw [getElem!_pos d i (by rw [hds]; exact hi)]; simp [d]
  have hH:HoldsK encR 1 W p.blk p.base d:=by
   intro t ht
   rw [size_flatK,hds] at ht
   rw [get_flatK _ _ _ t (by rw [hds]; exact ht)]
   have hi:t / 1 < l.length:=(cM hk0).2 ht
   have hj:t % 1 < 1:=cL _ hk0
   rw [hd _ hi]
   obtain ⟨v,hv,_⟩:=hcells (t / 1) hi (t % 1) hj
   have et:p.base+(t / 1)*1+t % 1=p.base+t:=by rw [cN,cP,dV]
   rw [et] at hv
   constructor
   ·show W.cell? _=some (id ((raw (t / 1))[t % 1]!))
    have:(raw (t / 1))[t % 1]! = v:=by
     rw [getElem!_pos _ _ (by simpa [raw] using hj)]
     simp only [raw,List.getElem_map,List.getElem_range]
     rw [et,hv]; rfl
    rw [this,hv]; rfl
   exact (hrel.cool o _ _ _ _ _ p t hσ hp (by omega)).1 _
  have hcmp:CmpLays1 P g #[] encV cf p.blk p.base d.size W:=by
   intro m os dk hdk x y
   rw [hsw W m dk os]
   have hMrow:∀b o' v,M b o'=some v->(sortWorldK encR 1 W p.blk p.base m dk os).cell? ⟨b,o',none⟩=some v:=fun b o' v hm=>by
    have h1:=hrel.agree b o' v hm
    have hb:=World.block_lt_of_cell? W _ h1
    unfold sortWorldK
    have h2:(putRowK encR 1 (Sort.ahead W m) p.blk p.base dk).cell? ⟨b,o',none⟩=some v:=by
     unfold putRowK
     rw [cell?_putRow_other]
     ·exact h1
     rw [size_flatK,hdk,hds]
     rcases bD o' p.base with h3 | h3
     ·exact .inr (.inl h3)
     rcases bD o' (p.base+l.length*1) with h4 | h4
     ·left
      intro e
      have e':b=p.blk:=e
      subst e'
      have:=(hown (o' - p.base) (by omega)).2
      rw [show p.base+(o' - p.base)=o' by omega,hm] at this; cases this
     exact .inr (.inr h4)
    have hb2:b < (putRowK encR 1 (Sort.ahead W m) p.blk p.base dk).heap.size:=World.block_lt_of_cell? _ _ h2
    unfold World.cell? at h2 ⊢
    have hg:(grow (putRowK encR 1 (Sort.ahead W m) p.blk p.base dk) os).heap[b]?=(putRowK encR 1 (Sort.ahead W m) p.blk p.base dk).heap[b]?:=by
     unfold grow
     exact eH hb2
    simp only [hg]
    exact h2
   obtain ⟨e1,_⟩:=hcf x y
   have harg:∀z:α,Qb M noInj (encV z) (enc z.1.1):=fun z=>by
    refine z.2.rep 0 _ _ ?_ (by rw [hone]; rfl)
    rw [show z.1.2=[encV z] from (hencV z).symm]; rfl
   let M1:CM:=⟨M.f,M.ok,fun _=>none,fun _ _=>none⟩
   have hag1:Qeg M1 (sortWorldK encR 1 W p.blk p.base m dk os):=⟨hMrow,(fun b x h=>by cases h),(fun b o v h=>by cases h)⟩
   have hM1:M.le M1:=fun _ _ _ h=>h
   refine (hcon x.1.1 y.1.1 _ e1 _ M1 _ hag1 rfl ?_).mono ?_
   ·intro j v a hv ha
    match j with
    | 0=>cases hv; cases ha; exact (harg x).mono hM1 (Inj.le_refl _)
    | 1=>cases hv; cases ha; exact (harg y).mono hM1 (Inj.le_refl _)
    | _+2=>simp at hv
   rintro e W1 ⟨v,M',ι',rfl,_,hr1,_,hv⟩
   cases hv
   obtain ⟨q,os',hq⟩:=Q5g hr1.below
   exact ⟨rfl,q,os',hq⟩
  have hH1:Holds encV W p.blk p.base d:=by
   intro t ht
   have h1:=hH t (by rw [size_flatK,Nat.mul_one]; exact ht)
   rw [get_flatK _ _ _ _ (by rw [Nat.mul_one]; exact ht),Nat.div_one,Nat.mod_one,<-hencV] at h1
   exact h1
  have hrun:=Any.slices_SortFunc L encV (fun z=>z.2.one _ (by rw [show z.1.2=[encV z] from (hencV z).symm]; exact bZ.2 rfl)) cf hO g #[] p.blk p.base cap d W (fun args w=>Ju hgf hgb hgn args w) hcmp hH1 hblk (by rw [hds]; exact hlen)
  rw [hds] at hrun
  refine hrun.mono ?_
  rintro e W' ⟨rfl,d',n,os,hperm,hsort,rfl⟩
  rw [hsw]
  obtain ⟨hsz',_,hper⟩:=hperm
  have hs':d'.size=l.length:=hsz'.trans hds
  have hl0:d.toList.map (fun z:α=>z.1.1)=l:=by
   apply List.ext_getElem
   ·simp [hds]
   intro i h1 h2
   have:=hd i h2
   rw [getElem!_pos d i (by rw [hds]; exact h2)] at this
   rw [List.getElem_map,Array.getElem_toList,this]
  have hpl:d'.toList.Perm d.toList:=by
   have e1:d'.extract 0 l.length=d':=by rw [<-hs']; simp
   have e2:d.extract 0 l.length=d:=by rw [<-hds]; simp
   rw [e1,e2] at hper; exact hper
  have hsl:(d'.toList.map (fun z:α=>z.1.1)).Pairwise (fun x y=>le x y=true):=by
   rw [List.pairwise_map,List.pairwise_iff_getElem]
   intro i j hi hj hij
   have h1:=hsort i j (eP _) hij (by rw [<-hs']; simpa using hj)
   rw [hlt,getElem!_pos d' j (by simpa using hj),getElem!_pos d' i (by simpa using hi)] at h1
   simpa using h1
  have hms:d'.toList.map (fun z:α=>z.1.1)=isort le l:=by
   refine Qjz hc.anti ?_ hsl (Qd3 hc.trans hc.total l)
   refine ((hpl.map (fun z:α=>z.1.1)).trans ?_)
   rw [hl0]
   exact (J0 le l).symm
  have hlm:(isort le l).length=l.length:=by rw [<-hms]; simp [hs']
  have hat : ∀i x,(isort le l)[i]?=some x->∃z:α,d'[i]! = z/\z.1.1=x:=fun i x hx=>by
   rw [<-hms,bH,aT] at hx
   obtain ⟨z,hz,rfl⟩:=hx
   have hi:i < d'.size:=by have:=(aD.1 hz).1; simpa using this
   refine ⟨z,?_,rfl⟩
   rw [getElem!_pos d' i hi]
   have:=(aD.1 hz).2
   rw [<-this,Array.getElem_toList]
  have h1:Rel P B W0 D M ι (sto objs) (Sort.ahead W n):=hrel.old ⟨⟨rfl,rfl,rfl,bC _,fun _ _=>rfl⟩,Nat.le_add_right _ _⟩
  have hself:putRowK encR 1 (Sort.ahead W n) p.blk p.base d=Sort.ahead W n:=putRowK_self encR 1 _ _ _ _ (holdsK_ahead encR 1 W n p.blk p.base d hH)
  have hF:(flatK encR 1 d').toList.length=l.length*1:=by rw [dG,size_flatK,hs']
  have hput:putRowK encR 1 (Sort.ahead W n) p.blk p.base d'=(Sort.ahead W n).setCells p.blk (p.base+0) (flatK encR 1 d').toList:=by
   conv=>rhs; rw [<-hself]
   unfold putRowK
   rw [setCells_putRow _ _ _ _ _ _ (by rw [hF,size_flatK,hds]; omega),Qwe _ _ (by rw [hF,size_flatK,hds]),Array.toArray_toList]
  have h2:Rel P B W0 D M ι ((sto objs).put o (.row false false true fl 1 ((isort le l).map enc))) ((Sort.ahead W n).setCells p.blk (p.base+0) (flatK encR 1 d').toList):=by
   refine h1.write hσ hp 0 _ (by rw [hF]; omega) (by rw [cE,hlm]; exact hcapl) ?_ ?_ ?_ ?_ ?_
   ·intro x hx
    obtain ⟨a,ha,rfl⟩:=cJ.1 hx
    exact ⟨.inr (hcell a),hw a,hcl a⟩
   ·intro _
    rw [Qp]
    intro x hx
    obtain ⟨a,ha,rfl⟩:=cJ.1 hx
    exact Qp.1 (hrw.nr rfl) _ (List.mem_map_of_mem ((J0 le l).mem_iff.1 ha))
   ·intro hf x hx
    obtain ⟨a,ha,rfl⟩:=cJ.1 hx
    exact hrw.fl hf _ (List.mem_map_of_mem ((J0 le l).mem_iff.1 ha))
   ·intro i j x y hx hy _ hlt2
    rw [bH,aT] at hx
    obtain ⟨a,ha,rfl⟩:=hx
    obtain ⟨z,hz1,hz2⟩:=hat i a ha
    have hj:j < 1:=by have:=(aD.1 hy).1; rwa [hw] at this
    have hi:i < l.length:=by have:=(aD.1 ha).1; rwa [hlm] at this
    have ht:i*1+j < d'.size*1:=by rw [hs']; rw [hF] at hlt2; omega
    have hzl:j < z.1.2.length:=by rw [z.2.len]; exact hj
    refine ⟨z.1.2[j],?_,?_⟩
    ·rw [dI]
     have:=get_flatK encR 1 d' (i*1+j) ht
     rw [getElem!_pos _ _ (by simpa using ht)] at this
     rw [aG (by simpa using ht),Array.getElem_toList,this]
     have e1:(i*1+j) / 1=i:=by rw [cO,Nat.add_mul_div_right _ _ hk0,Nat.div_eq_of_lt hj,eC]
     have e2:(i*1+j) % 1=j:=by rw [cO,Nat.add_mul_mod_self_right,Nat.mod_eq_of_lt hj]
     rw [e1,e2,hz1,getElem!_pos z.1.2 j hzl]
    exact (z.2.rep j _ y (aG hzl) (by rw [hz2]; exact hy)).mono (CM.le_refl _) (Inj.noInj_le _)
   intro i j x y hx hy hout
   exfalso
   rw [bH,aT] at hx
   obtain ⟨a,ha,rfl⟩:=hx
   have hj:j < 1:=by have:=(aD.1 hy).1; rwa [hw] at this
   have hi:i < l.length:=by have:=(aD.1 ha).1; rwa [hlm] at this
   have hm:(i+1)*1<=l.length*1:=aU _ hi
   rw [eD] at hm
   rw [hF] at hout
   omega
  rw [<-hput] at h2
  have h3:Rel P B W0 D M ι ((sto objs).put o (.row false false true fl 1 ((isort le l).map enc))) (sortWorldK encR 1 W p.blk p.base n d' os):=by
   unfold sortWorldK
   refine h2.old ⟨⟨rfl,rfl,rfl,by simp [grow],fun b hb=>?_⟩,bC _⟩
   show ((putRowK encR 1 (Sort.ahead W n) p.blk p.base d').heap++os)[b]?=_
   exact eH hb
  exact ⟨_,M,ι,rfl,.refl _ _,Inj.le_refl _,by rw [hset]; exact h3,hinb,by rw [hlen']; exact hbig,.tup _ _ rfl (fun j v y h=>by simp at h)⟩
theorem Q56 {P:Program} {rd:Option Nat} {base:Nat} {ops:Array Oper} {st:St} {Φ:AOut->Prop} {i:Nat} {ρ:Ren} {T R:Type} {enc:T->AV} {k o:Nat} {fl:Bool} {l:List T}
  {good:T->Bool} {c:T->T->Option Int} {le:T->T->Bool} {f g:FuncId} {fn gfn:Func} {K:List T->Option R} {r:R} {S:Nat -> List T->St} (L:SlLaysF.n6 P ρ) (hc:Qsu good c le) (hcon:∀x y r,c x y=some r->Za P g [enc x,enc y] (.ret (.int .i64 r) []))
  (hi:Zz ops i st=some (f,[.ref o 0 l.length,.fn (.func g) [] []])) (hfe:ρ.f 6=f) (hrow:st.objs[o]?=some (.row false false true fl k (l.map enc)))
  (hS:∀x,Qo4 ops i st (.tup []) (st.objs.set o (.row false false true fl k (x.map enc)))=some (S l.length x))
  (hf:P.funcs[f]?=some fn) (hb:fn.body.isSome=true) (hn:(fn.name == "runtime.NumGoroutine")=false) (hgf:P.funcs[g]?=some gfn) (hgb:gfn.body.isSome=true) (hgn:(gfn.name == "runtime.NumGoroutine")=false)
  (hk1:k=1) (hone:∀x,(enc x).flat = [enc x]) (hcell:∀x,AV.cell (enc x)=true)
  (h:(Qsx good le l).bind K=some r) (kk:∀x,K x=some r->RW P rd base ops none (i+1) (S x.length x) Φ):RW P rd base ops none i st Φ:=by
 subst hk1
 unfold Qsx at h
 split at h
 ·rename_i hg
  rw [aE] at hg
  subst hfe
  have hl:l.length < 4611686018427387904:=bT hg.2
  have hx:=hS (isort le l)
  have he:(isort le l).length=l.length:=(J0 le l).length_eq
  rw [<-he] at hx
  exact Q5i hi hf hb hn (Qt1 L hc hgf hgb hgn hcon hone hcell hrow hg.1 hl) hx (kk _ h)
 ·cases h
theorem hso {P:Program} {R T:Type} {Ω:R->AOut->Prop} {cc:Cf} (n:Nat) {ρ:Ren} {enc:T->AV} {k o:Nat} {fl:Bool} {l:List T} {good:T->Bool} {c:T->T->Option Int} {le:T->T->Bool} {f g:FuncId} {fn gfn:Func} {K:List T->Option R}
  (S:Nat -> List T->St) (L:SlLaysF.n6 P ρ) (hc:Qsu good c le) (hcon:∀x y r,c x y=some r->Za P g [enc x,enc y] (.ret (.int .i64 r) [])) (hf:P.funcs[f]?=some fn) (hgf:P.funcs[g]?=some gfn)
  (kk:∀x,Hl P Ω ((gg P n cc).nx [] (S x.length x)) (K x)) (e:goO P n cc=true:=by kernel_rfl) (hd:(gg P n cc).d.isNone=true:=by kernel_rfl)
  (hi:Zz (gg P n cc).o (gg P n cc).i (gg P n cc).st=some (f,[.ref o 0 l.length,.fn (.func g) [] []]):=by kernel_rfl) (hfe:ρ.f 6=f:=by rfl) (hrow:(gg P n cc).st.objs[o]?=some (.row false false true fl k (l.map enc)):=by kernel_rfl)
  (hS:∀x,Qo4 (gg P n cc).o (gg P n cc).i (gg P n cc).st (.tup []) ((gg P n cc).st.objs.set o (.row false false true fl k (x.map enc)))=some (S l.length x):=by (intro _; kernel_rfl))
  (hb:fn.body.isSome=true:=by kernel_rfl) (hn:(fn.name == "runtime.NumGoroutine")=false:=by decide +kernel) (hgb:gfn.body.isSome=true:=by kernel_rfl) (hgn:(gfn.name == "runtime.NumGoroutine")=false:=by decide +kernel)
  (hk1:k=1:=by rfl) (hone:∀x,(enc x).flat = [enc x]:=by (intro _; rfl)) (hcell:∀x,AV.cell (enc x)=true:=by (intro _; rfl)):Hl P Ω cc ((Qsx good le l).bind K) :=
 hob n (s:=fun _=>[]) (S:=fun x=>S x.length x) (fun Φ r h q=>by
  have hd':(gg P n cc).d=none:=Option.isNone_iff_eq_none.1 hd
  rw [hd'] at q ⊢
  exact Q56 L hc hcon hi hfe hrow hS hf hb hn hgf hgb hgn hk1 hone hcell h q) kk e
end Go.Ab
namespace Go.Ab
open Go.RowKit Go.Shelf Go.Sort Go.Proofs
def Qxm (P:Program) (ops:Array Oper) (i:Nat) (st:St):Option (AV × AV × Nat) :=
 match Z9 ops i st with
 | some o=>match o.op with
  | .call { callee:=.builtin .clear,args,argTypes }=>match args.toList,argTypes.toList with
   | [x],t::_=>match ti P t,evo (lk st.slots) x with
    | some T,some a=>match T.kind with
     | .slice e=>match ti P e with
      | some E=>if E.zok && Nat.blt 0 E.size then E.zero.map fun z=>(a,z,E.size) else none
      | none=>none
     | _=>none
    | _,_=>none
   | _,_=>none
  | _=>none
 | none=>none
section
variable {P:Program} {rd:Option Nat} {base:Nat} {ops:Array Oper} {d:Option (List Sk)} {st S:St} {Φ:AOut->Prop} {i:Nat}
theorem Q6i {R T:Type} {enc:T->AV} {z0:T} {w:Nat} {l:List T} {ob i0 n0:Nat} {nr fl:Bool} {A:Option R} {r:R} (hi:Qxm P ops i st=some (.ref ob i0 n0,enc z0,w)) (hrow:st.sto ob=some (.row false false nr fl w (l.map enc)))
  (hS:Xk ops i st none [(ob,.row false false nr fl w ((ovr l i0 (List.replicate n0 z0)).map enc))]=some S) (hl:Nat.beq S.objs.length st.objs.length=true)
  (hnr:(enc z0).nr=true) (hsc:(enc z0).scs=true) (h:(if i0+n0<=l.length then A else none)=some r) (k:A=some r->RW P rd base ops (Zc d [([ob],[ob])]) (i+1) S Φ):RW P rd base ops d i st Φ:=by
 split at h
 ·rename_i hc
  have main:∃o,Z9 ops i st=some o/\YlL P ops o ⟨none,[(ob,.row false false nr fl w ((ovr l i0 (List.replicate n0 z0)).map enc))],st.objs.length,st.objs.length,[ob]⟩ (lk st.slots) st.sto:=by
   unfold Qxm at hi
   split at hi
   rotate_left
   ·cases hi
   rename_i o ho
   split at hi
   rotate_left
   ·cases hi
   rename_i args ts hop
   split at hi
   rotate_left
   ·cases hi
   rename_i x t tr hargs hts
   split at hi
   rotate_left
   ·cases hi
   rename_i T a' hT hx
   split at hi
   rotate_left
   ·cases hi
   rename_i e hk
   split at hi
   rotate_left
   ·cases hi
   rename_i E hE
   split at hi
   rotate_left
   ·cases hi
   rename_i hE1
   rw [aE] at hE1
   have hpos:0 < E.size:=bT hE1.2
   simp only [aT] at hi
   obtain ⟨z,hz,he⟩:=hi
   simp only [aX] at he
   obtain ⟨rfl,rfl,rfl⟩:=he
   refine ⟨o,ho,Qt5 (Yo ho).2 (by rw [hop]; simp) fun s' σ' hs' hσ' B W0 D M ι act W hrel hsl=>?_⟩
   have hargs':=Q3f hargs
   subst hargs'
   have evx:evo s' x=some (.ref ob i0 n0):=by rw [hs' x (by rw [hop]; simp [Op.operands,Call.operands])]; exact hx
   obtain ⟨d0,ii,g1,g2,g3,_⟩:=Zo hT
   rw [g3] at hk; rw [Zd hk] at g1
   obtain ⟨i1,zv,q1,q2,q3,q4,q5⟩:=Qba hE hz
   obtain ⟨i1',zv',q1',q2',_,_,hzs⟩:=Qta hE hE1.1
   rw [q1] at q1'; cases q1'
   rw [q2] at q2'; cases q2'
   have ht0:ts[0]?=some t:=by cases ts; simp_all
   obtain ⟨cs,hrun⟩:=Yv (P:=P) (W:=W) (a:=act) hop
   have hσ0:σ' ob=some (.row false false nr fl E.size (l.map enc)):=by rw [hσ' ob (by simp)]; exact hrow
   obtain ⟨p,hp,hro⟩:=hrel.row _ _ _ _ _ _ _ hσ0
   have hlen:l.length<=p.cap:=by have:=hro.len; simpa using this
   have fin:∀{W1:World},(Builtin.clear_ ts o.type #[act.eval x]).run P W=.ok (.tuple #[]) W1->(execOp act.eval o).run P W=.ok (.value (.tuple #[])) W1:=by
    intro W1 hn
    rw [hrun]
    simp only [builtin,List.map_toArray,dN,dO,Sem.run_bind,hn,Result.andThen_ok,Sem.run_pure]
   have hsame:ovr l i0 (List.replicate 0 z0)=l:=rfl
   have hputs:n0=0->σ'.puts [(ob,AObj.row false false nr fl E.size ((ovr l i0 (List.replicate n0 z0)).map enc))]=σ':=fun e=>by
    subst e
    funext k
    show (σ'.put ob _) k=σ' k
    by_cases ek:k=ob
    ·subst ek; rw [Sto.put_same,hσ0]; rfl
    rw [Sto.put_ne _ _ ek]
   have zero:∀(bs:Option Addr) (cap:Nat),n0=0->act.eval x=.slice bs 0 cap->Q4 P B W0 D M ι σ' st.objs.length act o W ⟨none,[(ob,.row false false nr fl E.size ((ovr l i0 (List.replicate n0 z0)).map enc))],st.objs.length,[ob]⟩:=fun bs cap e hb=>by
    refine ⟨_,W,M,ι,.inl (fin ?_),.refl _ _,Inj.le_refl _,fun _ _=>rfl,?_,fun y hy=>by cases hy⟩
    ·rw [hb]
     simp only [Builtin.clear_,ht0]
     cases bs <;> simp [run_underlying g1]
    show Rel P B W0 D M ι (σ'.puts _) W
    rw [hputs e]; exact hrel
   have hv:=Qe hsl evx
   generalize hu:act.eval x=u at hv
   cases hv with
   | ref0 ad _ p' hp' hz'=>exact zero _ _ rfl hu
   | ref _ _ _ p' off cap hp' hi'' hcap hoff =>
    rw [hp] at hp'; cases hp'
    by_cases hn0:n0=0
    ·subst hn0; exact zero _ _ rfl hu
    have hoff':off=p.base+i0*E.size:=by
     rcases hoff with q | q
     ·rw [q,hro.pw]
     omega
    have hown:=(hro.own rfl).2
    have hsz:(Builtin.zeroCells zv.cells n0).toList.length=n0*E.size:=by rw [dG,size_zeroCells,hzs]
    have helem:Ya M ι E.size (List.replicate n0 (enc z0)) (Builtin.zeroCells zv.cells n0).toList:=⟨by rw [hsz,cK],fun x hx=>by
     have:=dZ hx; subst this; rw [<-hzs]; exact q5,fun a j x y ha hj=>by
     obtain ⟨v,hv,hr⟩:=Qf6 (q4 M ι) q5 (bC n0) a j x y ha hj
     rw [hzs] at hv
     have hx0:=dZ (aF ha)
     refine ⟨v,?_,hr,hr.oneCell (q5.cells y (by rw [<-hx0]; exact aF hj))⟩
     rw [dH]
     simp only [Builtin.zeroCells,hzs]
     exact hv⟩
    have hlt:∀j,j < n0*E.size->i0*E.size+j < p.cap*E.size:=fun j hj=>by
     have h1:(i0+n0)*E.size<=p.cap*E.size:=aU _ (by omega)
     rw [eG] at h1; omega
    have hvs:∀v∈(Builtin.zeroCells zv.cells n0).toList,v.oneCell'=true:=fun v hv=>by
     obtain ⟨t,ht⟩:=bW.1 hv
     have htl:=(aD.1 ht).1
     rw [hsz] at htl
     have ha:(List.replicate n0 (enc z0))[t / E.size]?=some (enc z0):=by
      rw [cQ,aH ((cM hpos).2 htl)]
     have hjl:t % E.size < (enc z0).flat.length:=by rw [q5.len,hzs]; exact cL _ hpos
     obtain ⟨v',h1,_,h2⟩:=helem.rep _ _ _ _ ha (aG hjl)
     rw [cP,dV,ht] at h1
     cases h1; exact h2
    have hst:=run_storeCells_cells (P:=P) p.blk off (Builtin.zeroCells zv.cells n0).toList 0 W (fun j hj=>by
     rw [hsz] at hj
     have:=(hown (i0*E.size+j) (hlt j hj)).1
     rw [eS,hoff',cN]; exact this) (fun j hj=>by
     rw [hsz] at hj
     have:=(hrel.cool _ _ _ _ _ _ _ (i0*E.size+j) (by assumption) hp (hlt j hj)).1 (p.base+(i0*E.size+j))
     rw [eS,hoff',cN]; exact this) hvs
    rw [eS] at hst
    have hz2:=Vx (P:=P) (W:=W) q1 q2
    have hrun0:(Builtin.clear_ ts o.type #[act.eval x]).run P W=.ok (.tuple #[]) (W.setCells p.blk off (Builtin.zeroCells zv.cells n0).toList):=by
     rw [hu]
     simp only [Builtin.clear_,ht0]
     obtain ⟨n1,rfl⟩:∃n1,n0=n1+1:=⟨n0 - 1,by omega⟩
     simp [run_underlying g1,hz2,hst]
    refine ⟨_,_,M,ι,.inl (fin hrun0),.refl _ _,Inj.le_refl _,fun _ _=>rfl,?_,fun z hz=>by cases hz⟩
    have hO:=hrel.overwrite hσ0 hp (ys:=List.replicate n0 (enc z0)) (vs:=(Builtin.zeroCells zv.cells n0).toList) (nr':=true) (fl':=true) i0 (by simp; omega) helem (fun _=>by
      rw [Qp]; intro x hx; rw [dZ hx]; exact hnr) (fun _ x hx=>by rw [dZ hx]; exact hsc)
    rw [hoff']
    have h4:=Qqi enc (List.replicate n0 z0) l i0
    rw [List.map_replicate] at h4
    rw [h4] at hO
    simp only [Bool.and_true] at hO
    exact hO
  obtain ⟨o,ho,hy⟩:=main
  exact Qxs ho hy hS (aK hl) (k h)
 ·cases h
end
def Qld {α:Type} (f:α->α):Nat -> List α->List α
 | _,[]=>[]
 | 0,v::vs=>f v::vs
 | n+1,v::vs=>v::Qld f n vs
def setJ (x:Int):List Nat -> AV->AV
 | [],.int k _=>.int k x
 | i::p,.agg vs=>.agg (Qld (setJ x p) i vs)
 | i::p,.fz vs=>.fz (Qld (setJ x p) i vs)
 | _,v=>v
def Qyk (x:Int):List (Nat × List Nat)->List (Nat × AV)->List (Nat × AV)
 | [],s=>s
 | (t,p)::ts,s=>Qyk x ts (match lk s t with | some v=>setS s t (setJ x p v) | none=>s)
def Q76 (x:Int) (p:List Nat):AObj->AObj
 | .row bx ro nr fl w vs=>.row bx ro nr fl w (Qld (setJ x p) 0 vs)
 | o=>o
def Q3i (x:Int):List (Nat × List Nat)->List AObj->List AObj
 | [],s=>s
 | (o,p)::ts,s=>Q3i x ts (Qld (Q76 x p) o s)
def pJ (ts:List Nat) (ps os:List (Nat × List Nat)) (x:Int) (st:St):St:=⟨Qyk x ps (Qyk x (ts.map fun t=>(t,[])) st.slots),Q3i x os st.objs,st.nt⟩
section
variable {P:Program} {R:Type} {Ω:R->AOut->Prop} {c:Cf} {A B:Option R}
theorem hqj (n:Nat) (ts:List Nat) (ps os:List (Nat × List Nat)) {x m:Int} (k:x=m->Hl P Ω ((gg P n c).to (pJ ts ps os m (gg P n c).st)) A) (k':x≠m->Hl P Ω (gg P n c) B) (e:(go P n c).isSome=true:=by kernel_rfl) (hS:(gg P n c).st=pJ ts ps os x (gg P n c).st:=by kernel_rfl):Hl P Ω c (if x=m then A else B):=hqi n (fun x=>pJ ts ps os x (gg P n c).st) k k' e hS
theorem hsq (n:Nat) {x m:Nat} (S:Nat -> St) (k:Hl P Ω ((gg P n c).to (S m)) A) (e:(go P n c).isSome=true:=by kernel_rfl) (hS:(gg P n c).st=S x:=by kernel_rfl):Hl P Ω c (if x=m then A else none):=by
 by_cases hx:x=m
 ·rw [aH hx]; exact hkn n S hx k e hS
 rw [aJ hx]; exact hnn
end
section
variable {P:Program} {rd:Option Nat} {base:Nat} {ops:Array Oper} {d:Option (List Sk)} {st S:St} {Φ:AOut->Prop} {i:Nat}
end
end Go.Ab
