/- Rules. No conditions. -/
import Derived.Test.YtiadakgfblkelaaEng5
set_option linter.all false
namespace Go.Ab
open Go.RowKit
abbrev Sk:=List Nat × List Nat
def Foot.sk (F:Foot):Sk:=(F.eff.map (·.1),F.rd)
def Qkw (c id:Nat):Prop:=id=c∨c < BIG∧∃i,id=fid c i
structure Cov (F:Foot) (s:Sk):Prop where
 eff:∀e∈F.eff,∃c∈s.1,Qkw c e.1
 rd:∀e∈F.rd,∃c∈s.2,Qkw c e
theorem Qhw (F:Foot):Cov F F.sk:=⟨fun e he=>⟨e.1,List.mem_map_of_mem he,.inl rfl⟩,fun e he=>⟨e,he,.inl rfl⟩⟩
theorem Q4r {F:Foot} {s:Sk} (h:F.sk=s):Cov F s:=h ▸ Qhw F
def Qpl:List Foot→List Sk→Prop
 | [],[]=>True
 | F::fs,s::ss=>Cov F s∧Qpl fs ss
 | _,_=>False
theorem Qkw.eq {c c' id:Nat} (h:Qkw c id) (h':Qkw c' id) (hb:c < BIG) (hb':c' < BIG):c=c':=by
 rcases h with rfl | ⟨_,i,rfl⟩
 ·rcases h' with e | ⟨_,i,rfl⟩
  ·exact e
  ·have:=Zu c' i; omega
 ·rcases h' with e | ⟨_,j,e⟩
  ·have:=Zu c i; omega
  ·exact (Y4 e).1
structure Qjj (P:Program) (ops:Array Oper) (st:St) (o:Oper) (F:Foot) (st1:St):Prop where
 yl:YlL P ops o F (lk st.slots) (sto st.objs)
 fr:F.fr=st.objs.length
 fr':F.fr'=st1.objs.length
 eff:sto st1.objs=(sto st.objs).puts F.eff
 len:st.objs.length≤st1.objs.length
 big:st.objs.length≤BIG→st1.objs.length≤BIG
 stay:F.eff=[]→st1.objs=st.objs
 dst:V2 st.slots st.nt o.dst F.v=some st1.slots
 nt:st1.nt=st.nt
def Qtd (P:Program) (ops:Array Oper):List Oper→St→List Foot→St→Prop
 | [],st,fs,st'=>fs=[]∧st'=st
 | o::l,st,fs,st'=>∃F fs0 st1,fs=F::fs0∧Qjj P ops st o F st1∧Qtd P ops l st1 fs0 st'
section
variable {P:Program} {rd:Option Nat} {base:Nat} {ops:Array Oper} {st st1 st':St} {o:Oper} {F:Foot} {out:AOut} {Φ:AOut→Prop}
theorem Qtw (yl:YlL P ops o F (lk st.slots) (sto st.objs)) (fr:F.fr=st.objs.length) (fr':F.fr'=st1.objs.length) (ha:Y5 st.objs F.eff=some st1.objs) (dst:V2 st.slots st.nt o.dst F.v=some st1.slots) (nt:st1.nt=st.nt):Qjj P ops st o F st1:=by
 obtain ⟨h1,h2,h3⟩:=Jj _ _ _ ha
 exact ⟨yl,fr,fr',h1,h2,h3,fun e=>by rw [e] at ha; exact (Option.some.inj ha).symm,dst,nt⟩
theorem Qip {nf:Bool} {C:FuncId→List AV→Option Xp} (hC:Qi2 P C) {res:Res} {objs:List AObj} {slots:List (Nat × AV)} (hw:Yj ops (lk st.slots) o=some true)
  (he:Z0 P nf C (sto st.objs) st.objs.length (lk st.slots) o=some (.val res)) (ha:Y5 st.objs res.eff=some objs) (hp:V2 st.slots st.nt o.dst res.v=some slots) (hl:objs.length=res.fr) :
  Qjj P ops st o ⟨res.v,res.eff,st.objs.length,res.fr,res.rd⟩ ⟨slots,objs,st.nt⟩:=by
 obtain ⟨h1,h2,h3⟩:=Jj _ _ _ ha
 exact ⟨ylL_ev hC hw he,rfl,hl.symm,h1,h2,h3,fun e=>by have e:res.eff=[]:=e; rw [e] at ha; cases ha; rfl,hp,rfl⟩
theorem Qxn {slots:List (Nat × AV)} (hw:Yj ops (lk st.slots) o=some false) (hp:V2 st.slots st.nt o.dst (some (.tup []))=some slots) :
  Qjj P ops st o ⟨(some (.tup [])),[],st.objs.length,st.objs.length,[]⟩ ⟨slots,st.objs,st.nt⟩ :=
 ⟨fun s' σ' hs hσ=>.inr ⟨by rw [Qbk hs]; exact hw,rfl,rfl⟩,rfl,rfl,rfl,Nat.le_refl _,fun h=>h,fun _=>rfl,hp,rfl⟩
theorem Qq3:∀(l:List Oper) (st:St) (fs:List Foot) (st':St),Qtd P ops l st fs st' →
  fs.length=l.length∧Qau st.objs.length fs st'.objs.length∧st'.nt=st.nt∧(∀(i:Nat) (o:Oper) (d:Tmp),l[i]?=some o→o.dst=some d→d < st.nt)∧(st.objs.length≤BIG→st'.objs.length≤BIG) ∧
  ∀(Ft:Nat → Foot) (k:Nat),(∀j,j < l.length→fs[j]?=some (Ft (k+j)))→Q0l P ops Ft (fun s σ=>s=lk st'.slots∧σ=sto st'.objs) l k (lk st.slots) (sto st.objs)
 | [],st,fs,st',h=>by
  obtain ⟨rfl,rfl⟩:=h
  exact ⟨rfl,rfl,rfl,fun i o d h=>by simp at h,fun h=>h,fun Ft k _=>⟨rfl,rfl⟩⟩
 | o::l,st,fs,st',h=>by
  obtain ⟨F,fs0,st1,rfl,hF,hl⟩:=h
  obtain ⟨r1,r2,r3,r4,rb,r5⟩:=Qq3 l st1 fs0 st' hl
  have p1:=hF.eff
  have p2:=hF.len
  refine ⟨by simp [r1],⟨hF.fr,by rw [hF.fr,hF.fr']; exact p2,by rw [hF.fr']; exact r2⟩,by rw [r3,hF.nt],fun i o' d hi hd=>?_,fun h=>rb (hF.big h),fun Ft k hk=>?_⟩
  ·cases i with
   | zero=>simp at hi; subst hi; exact Q3g hF.dst d hd
   | succ i=>rw [←hF.nt]; exact r4 i o' d (by simpa using hi) hd
  ·have hFk:Ft k=F:=by
    have:=hk 0 (by simp); simpa using this.symm
   refine ⟨by rw [hFk]; exact hF.yl,?_⟩
   rw [hFk]
   have:=r5 Ft (k+1) (fun j hj=>by have:=hk (j+1) (by simpa using hj); simpa [Nat.add_assoc,Nat.add_comm 1 j] using this)
   rw [Q3a hF.dst,p1] at this
   exact this
def Qk4 (F G:Sk):Bool :=
 F.1.all (fun e=>!Qdu G.2 e) && G.1.all (fun e=>!Qdu F.2 e) && F.1.all fun e=>G.1.all fun e'=>!Nat.beq e e'
def Qbd (F:Sk):Nat → List Nat → List Oper→List Sk→Bool
 | j,B,o::l,G::fs=>if o.after.any (fun e=>Region.binds .any e && Qdu B e.on) then Qbd F (j+1) (j::B) l fs else Qk4 F G && Qbd F (j+1) B l fs
 | _,_,_,_=>true
def Qis:Nat → List Oper→List Sk→Bool
 | i,o::l,F::fs=>(F.1.isEmpty && F.2.isEmpty || Qbd F (i+1) [i] l fs) && Qis (i+1) l fs
 | _,_,_=>true
def Qiy (s:Sk):Bool:=(s.1.all fun c=>Nat.blt c BIG) && s.2.all fun c=>Nat.blt c BIG
def Qdn (l:List Oper) (ss:List Sk):Bool:=ss.all Qiy && Qis 0 l ss
theorem Qtt {F G:Foot} {s u:Sk} (hF:Cov F s) (hG:Cov G u) (ls:Qiy s=true) (lu:Qiy u=true) (h:Qk4 s u=true):Ql4 F G=true:=by
 simp only [Qiy,Bool.and_eq_true,List.all_eq_true] at ls lu
 simp only [Qk4,Bool.and_eq_true,List.all_eq_true,Bool.not_eq_true'] at h
 obtain ⟨⟨h1,h2⟩,h3⟩:=h
 have no:∀{l:List Nat} {k:Nat},k ∉ l→Qdu l k=false:=fun {l k} hk=>by
  simp only [Qdu,List.any_eq_false]
  intro x hx e
  exact hk (Nat.eq_of_beq_eq_true e ▸ hx)
 simp only [Ql4,Bool.and_eq_true,List.all_eq_true,Bool.not_eq_true']
 refine ⟨⟨fun e he=>no fun hm=>?_,fun e he=>no fun hm=>?_⟩,fun e he e' he'=>?_⟩
 ·obtain ⟨c,hc,q⟩:=hF.eff e he
  obtain ⟨c',hc',q'⟩:=hG.rd _ hm
  have:=q.eq q' (Yc (ls.1 c hc)) (Yc (lu.2 c' hc'))
  subst this
  exact Qem (h1 c hc) hc'
 ·obtain ⟨c,hc,q⟩:=hG.eff e he
  obtain ⟨c',hc',q'⟩:=hF.rd _ hm
  have:=q.eq q' (Yc (lu.1 c hc)) (Yc (ls.2 c' hc'))
  subst this
  exact Qem (h2 c hc) hc'
 ·obtain ⟨c,hc,q⟩:=hF.eff e he
  obtain ⟨c',hc',q'⟩:=hG.eff e' he'
  rw [Bool.eq_false_iff]
  intro ee
  have ee:=Nat.eq_of_beq_eq_true ee
  rw [←ee] at q'
  have:=q.eq q' (Yc (ls.1 c hc)) (Yc (lu.1 c' hc'))
  subst this
  have:=h3 c hc c hc'
  rw [Nat.beq_refl] at this
  cases this
theorem Q07 {l:List Nat} {k:Nat} (h:Qdu l k=true):k∈l:=by
 simp only [Qdu,List.any_eq_true] at h
 obtain ⟨x,hx,e⟩:=h
 rw [←Nat.eq_of_beq_eq_true e]; exact hx
theorem Qby {i:Nat} {F:Foot} {s:Sk} (hF:Cov F s) (ls:Qiy s=true):∀(l:List Oper) (fs:List Foot) (ss:List Sk) (k:Nat) (B:List Nat),Qpl fs ss→ss.all Qiy=true→Qbd s k B l ss=true→(∀q,l[q]?=ops[k+q]?)→(∀b∈B,b=i∨Vf ops i b) →
  ∀(j:Nat) (G:Foot) (oj:Oper),fs[j]?=some G→l[j]?=some oj→¬ Vf ops i (k+j)→Qab F G
 | [],fs,ss,_,_,_,_,_,_,_,j,G,oj,_,h,_=>by simp at h
 | o::l,[],ss,_,_,_,_,_,_,_,j,G,oj,h,_,_=>by simp at h
 | o::l,G0::fs,[],_,_,h,_,_,_,_,_,_,_,_,_,_=>h.elim
 | o::l,G0::fs,u::ss,k,B,h,hl,hc,hops,hB,j,G,oj,hG,hj,hn=>by
  simp only [List.all_cons,Bool.and_eq_true] at hl
  simp only [Qbd] at hc
  have hops':∀q,l[q]?=ops[k+1+q]?:=fun q=>by have:=hops (q+1); simpa [Nat.add_assoc,Nat.add_comm 1 q] using this
  split at hc
  ·rename_i ha
   have hk:Vf ops i k:=by
    obtain ⟨e,he,hb⟩:=Array.any_eq_true'.1 ha
    simp only [Bool.and_eq_true] at hb
    have h0:ops[k]?=some o:=by simpa using (hops 0).symm
    rcases hB _ (Q07 hb.2) with q | q
    ·exact .one h0 he hb.1 q
    ·exact .more h0 he hb.1 q
   cases j with
   | zero=>exact absurd hk (by simpa using hn)
   | succ j=>exact Qby hF ls l fs ss (k+1) (k::B) h.2 hl.2 hc hops' (fun b hb=>(List.mem_cons.1 hb).elim (fun q=>.inr (q ▸ hk)) (hB b)) j G oj (by simpa using hG) (by simpa using hj) (by rw [show k+1+j=k+(j+1) by omega]; exact hn)
  ·simp only [Bool.and_eq_true] at hc
   cases j with
   | zero=>simp at hG; subst hG; exact Qsf (Qtt hF h.1 ls hl.1 hc.1)
   | succ j=>exact Qby hF ls l fs ss (k+1) B h.2 hl.2 hc.2 hops' hB j G oj (by simpa using hG) (by simpa using hj) (by rw [show k+1+j=k+(j+1) by omega]; exact hn)
theorem Qjs:∀(k:Nat) (l:List Oper) (fs:List Foot) (ss:List Sk),Qpl fs ss→ss.all Qiy=true→Qis k l ss=true→(∀q,l[q]?=ops[k+q]?) →
  ∀(i j:Nat) (F G:Foot) (oj:Oper),i < j→fs[i]?=some F→fs[j]?=some G→l[j]?=some oj→¬ Vf ops (k+i) (k+j)→Qab F G
 | _,[],fs,ss,_,_,_,_,i,j,F,G,oj,_,_,_,h,_=>by simp at h
 | _,o::l,[],ss,_,_,_,_,i,j,F,G,oj,_,h,_,_,_=>by simp at h
 | _,o::l,F0::fs,[],h,_,_,_,_,_,_,_,_,_,_,_,_,_=>h.elim
 | k,o::l,F0::fs,s::ss,h,hl,hc,hops,i,j,F,G,oj,hij,hF,hG,hj,hn=>by
  simp only [List.all_cons,Bool.and_eq_true] at hl
  simp only [Qis,Bool.and_eq_true,Bool.or_eq_true,List.isEmpty_iff] at hc
  have hops':∀q,l[q]?=ops[k+1+q]?:=fun q=>by have:=hops (q+1); simpa [Nat.add_assoc,Nat.add_comm 1 q] using this
  cases j with
  | zero=>omega
  | succ j =>
   cases i with
   | zero =>
    simp at hF; subst hF
    rcases hc.1 with x | x
    ·refine Qp5 ?_ ?_
     ·cases he:F0.eff with
      | nil=>rfl
      | cons e es=>obtain ⟨c,hcm,_⟩:=h.1.eff e (by rw [he]; simp); rw [x.1] at hcm; cases hcm
     ·cases he:F0.rd with
      | nil=>rfl
      | cons e es=>obtain ⟨c,hcm,_⟩:=h.1.rd e (by rw [he]; simp); rw [x.2] at hcm; cases hcm
    ·exact Qby h.1 hl.1 l fs ss (k+1) [k] h.2 hl.2 x hops' (fun b hb=>.inl (by simpa using hb)) j G oj (by simpa using hG) (by simpa using hj) (by rw [show k+1+j=k+(j+1) by omega]; simpa using hn)
   | succ i=>exact Qjs (k+1) l fs ss h.2 hl.2 hc.2 hops' i j F G oj (by omega) (by simpa using hF) (by simpa using hG) (by simpa using hj) (by rw [show k+1+i=k+(i+1) by omega,show k+1+j=k+(j+1) by omega]; exact hn)
theorem Qj6 {fs:List Foot} (hB:Region.lexB .any ops=true) {ss:List Sk} (hrun:Qtd P ops ops.toList st fs st') (hcov:Qpl fs ss) (hcomp:Qdn ops.toList ss=true) (t:Nat) :
  Qbx P rd base ops (Region.linearise .any ops t) st (.go .normal st'):=by
 intro B W0 D0 dl M ι a W n Q r hs hr hp
 simp only [Qdn,Bool.and_eq_true] at hcomp
 have hcomp:=Qjs (ops:=ops) 0 ops.toList _ _ hcov hcomp.1 hcomp.2 (fun q=>by simp)
 obtain ⟨r1,r2,r3,r4,rb,r5⟩:=Qq3 _ _ _ _ hrun
 have hbig:=rb hs.big
 have hdef:∀i,i < ops.size→fs[i]?=some (fs.getD i ⟨none,[],st'.objs.length,st'.objs.length,[]⟩):=fun i hi=>by
  rw [List.getD_eq_getElem?_getD,List.getElem?_eq_getElem (by simp [r1]; exact hi)]; rfl
 have hout:∀i,ops.size≤i→fs.getD i ⟨none,[],st'.objs.length,st'.objs.length,[]⟩=⟨none,[],st'.objs.length,st'.objs.length,[]⟩:=fun i hi=>by
  rw [List.getD_eq_getElem?_getD,List.getElem?_eq_none (by simp [r1]; exact hi)]; rfl
 have hrunA:=r5 (fun i=>fs.getD i ⟨none,[],st'.objs.length,st'.objs.length,[]⟩) 0 (fun j hj=>by simpa using hdef j (by simpa using hj))
 simp only [Region.lexB,Bool.and_eq_true] at hB
 have hA:=Qnu (P:=P) (ops:=ops) (Ft:=fun i=>fs.getD i ⟨none,[],st'.objs.length,st'.objs.length,[]⟩) (Q:=fun s σ=>s=lk st'.slots∧σ=sto st'.objs) (fun i j oj hij hj hno=>?_) ops.toList 0 (Array.replicate ops.size false) (lk st.slots) (sto st.objs) (fun k ok hk hl=>by simp [Array.getD] at hl) (by simp) (fun _ _=>Nat.zero_le _) (by simpa using hB.2) hrunA
 ·refine wpAnyIn_sound ops.size t _ a _ ?_
  have hsz:ops.toList.length=ops.size:=by simp
  rw [hsz] at hA
  refine Qst (B:=B) (W0:=W0) (D:=dl++D0) (nt:=st.nt) (lo:=st.objs.length) (hi:=st'.objs.length) (fun i o d hi hd=>r4 i o d (by simpa using hi) hd) hbig (fun i=>?_) (fun i j hij=>?_) ops.size _ _ _ M ι a _ hA hs.rel hs.slots hs.nt (fun i _ k hk=>?_) ?_
  ·rcases Nat.lt_or_ge i ops.size with hi | hi
   ·exact r2.at i _ (hdef i hi)
   ·rw [hout i hi]; exact ⟨r2.le,Nat.le_refl _,Nat.le_refl _⟩
  ·rcases Nat.lt_or_ge i ops.size with hi | hi
   ·rcases Nat.lt_or_ge j ops.size with hj | hj
    ·rcases Nat.lt_or_gt_of_ne hij with e | e
     ·exact .inl (r2.lt i j _ _ e (hdef i hi) (hdef j hj))
     ·exact .inr (r2.lt j i _ _ e (hdef j hj) (hdef i hi))
    ·left; rw [hout j hj]; exact (r2.at i _ (hdef i hi)).2.2
   ·rcases Nat.lt_or_ge j ops.size with hj | hj
    ·right; rw [hout i hi]; exact (r2.at j _ (hdef j hj)).2.2
    ·left; rw [hout i hi,hout j hj]; exact Nat.le_refl _
  ·have hup:(fs.getD i ⟨none,[],st'.objs.length,st'.objs.length,[]⟩).fr'≤st'.objs.length:=by
    rcases Nat.lt_or_ge i ops.size with hi | hi
    ·exact (r2.at i _ (hdef i hi)).2.2
    ·rw [hout i hi]; exact Nat.le_refl _
   have hlo:st.objs.length≤(fs.getD i ⟨none,[],st'.objs.length,st'.objs.length,[]⟩).fr:=by
    rcases Nat.lt_or_ge i ops.size with hi | hi
    ·exact (r2.at i _ (hdef i hi)).1
    ·rw [hout i hi]; exact r2.le
   exact hs.new k ((hk.mono hlo hup).notB hbig)
  ·intro s' σ' M' ι' a' W' hq g1 g2 g3 g4 g5 g6 g7
   obtain ⟨rfl,rfl⟩:=hq
   exact hp.go .normal st' rfl dl M' ι' a' W' g1 (g2.leB base) (List.suffix_refl _) ⟨g4,g5,by rw [g6,r3],⟨by rw [g7]; exact hs.df.defs,hs.df.old,hs.df.nd⟩,fun k hk=>by rw [g3 k (fun c=>hk c.inB)]; exact hs.new k (fun c=>hk (c.mono r2.le)),hbig⟩
 ·have hj':j < ops.size:=(Array.getElem?_eq_some_iff.1 hj).1
  exact hcomp i j _ _ oj hij (hdef i (by omega)) (hdef j hj') (by simpa using hj) (by simpa using hno)
theorem Qwj {id:Nat} {fs:List Foot} (hm:(P.follows .mixedOrders || !Region.departs ops)=true) (hB:Region.lexB .any ops=true) {ss:List Sk} (hrun:Qtd P ops ops.toList st fs st') (hcov:Qpl fs ss) (hcomp:Qdn ops.toList ss=true) :
  Xe P rd base (.region id ops true) st (.go .normal st'):=by
 intro B W0 D0 dl M ι a W n Q r hs hr hp
 refine wpIn_region_draw (fun t=>?_)
 have hsch:Region.schedule (P.follows .mixedOrders) ops t=Region.linearise .any ops t:=by
  unfold Region.schedule; rw [if_pos hm]
 rw [hsch]
 exact Qj6 hB hrun hcov hcomp t B W0 D0 dl M ι a _ n Q r ⟨hs.rel.drew,hs.slots,hs.nt,hs.df,hs.new,hs.big⟩ hr hp
theorem Qus (hw:Yj ops (lk st.slots) o=some true) (h:Qjj P ops st o F st1):OpX P rd base o st (.go .normal st1):=by
 intro B W0 D0 dl M ι a W n Q r hs hr hp
 have hy:=h.yl (lk st.slots) (sto st.objs) (fun _ _=>rfl) (fun _ _=>rfl)
 rcases hy with ⟨_,hd⟩ | ⟨hw',_⟩
 ·have happ:=h.eff
  have hle:=h.len
  have hbig:=h.big hs.big
  refine hd B W0 (dl++D0) M ι a W n Q r (Q .normal) hs.rel hs.slots (fun k hk=>hs.new k (by rw [←h.fr]; exact hk.notB (by rw [h.fr']; exact hbig))) (fun v W' M' ι' g1 g2 g3 g4 g5=>?_)
  obtain ⟨k1,k2,k3⟩:=Qbe (u:=v) (hs.slots.mono g1.le g2) hs.nt h.dst g5
  refine hp.go .normal _ rfl dl M' ι' _ W' g1 (g2.leB base) (List.suffix_refl _) ⟨?_,k1,by rw [k2,h.nt],hs.df.put,?_,hbig⟩
  ·rw [happ]; exact g4
  ·intro k hk
   rw [g3 k (fun c=>hk (by have:=c.inB; rwa [h.fr'] at this))]; exact hs.new k (fun c=>hk (c.mono hle))
 ·rw [hw] at hw'; cases hw'
theorem Qy3 {i:Nat} {l:List Nat} (ho:ops[i]?=some o) (h:Qjj P ops st o F st1) (h2:Qbx P rd base ops l st1 out):Qbx P rd base ops (i::l) st out:=by
 have hy:=h.yl (lk st.slots) (sto st.objs) (fun _ _=>rfl) (fun _ _=>rfl)
 rcases hy with ⟨hw,_⟩ | ⟨hw,hv,he⟩
 ·exact Qgz ho hw (Qus hw h) h2
 ·obtain ⟨slots,objs,nt⟩:=st1
  have e1:=h.stay he; simp only at e1; subst e1
  have e2:=h.dst; rw [hv] at e2
  have e3:=h.nt; simp only at e3; subst e3
  exact Qzg ho hw e2 h2
def Qgp (n i:Nat):List Nat := List.range' i (n - i)
def RW (P:Program) (rd:Option Nat) (base:Nat) (ops:Array Oper) (d:Option (List Sk)) (i:Nat) (st:St) (Φ:AOut→Prop):Prop :=
 match d with
 | none=>∃out,Qbx P rd base ops (Qgp ops.size i) st out∧Φ out
 | some acc=>∃fs ss st',Qtd P ops (ops.toList.drop i) st fs st'∧Qpl fs ss∧Qdn ops.toList (acc++ss)=true∧Φ (.go .normal st')
def Zf (d:Option (List Sk)) (s:List Sk):Option (List Sk) :=
 match d with
 | none=>none
 | some acc=>some (acc++s)
theorem Qfk {n i:Nat} (h:i < n):Qgp n i=i::Qgp n (i+1):=by
 unfold Qgp
 rw [show n - i=(n - (i+1))+1 by omega,List.range'_succ]
theorem Qsu (d:Option (List Sk)) (a b:List Sk):Zf (Zf d a) b=Zf d (a++b):=by
 cases d <;> simp [Zf]
def Q2j (P:Program) (ops:Array Oper) (i:Nat) (st:St) (s:Sk) (st1:St):Prop:=∃o F,ops[i]?=some o∧Qjj P ops st o F st1∧Cov F s
theorem Qat {d:Option (List Sk)} {i:Nat} {s:Sk} (h:Q2j P ops i st s st1) (k:RW P rd base ops (Zf d [s]) (i+1) st1 Φ):RW P rd base ops d i st Φ:=by
 obtain ⟨o,F,ho,hF,hcv⟩:=h
 have hi:i < ops.size:=(Array.getElem?_eq_some_iff.1 ho).1
 cases d with
 | none =>
  obtain ⟨out,h1,h2⟩:=k
  refine ⟨out,?_,h2⟩
  rw [Qfk hi]
  exact Qy3 ho hF h1
 | some acc =>
  obtain ⟨fs,ss,st',h1,hc,h2,h3⟩:=k
  refine ⟨F::fs,s::ss,st',?_,⟨hcv,hc⟩,by simpa using h2,h3⟩
  have:ops.toList.drop i=o::ops.toList.drop (i+1):=by
   rw [List.drop_eq_getElem_cons (by simpa using hi)]
   congr 1
   have:=(Array.getElem?_eq_some_iff.1 ho).2
   simpa using this
  rw [this]
  exact ⟨F,fs,st1,rfl,hF,h1⟩
def noC:FuncId→List AV→Option Xp:=fun _ _=>none
theorem noC_sound:Qi2 P noC:=fun _ _ _ h=>by cases h
noncomputable def Qeh (P:Program) (nf:Bool) (ops:Array Oper):Nat → Nat → St→Option (List Sk × St)
 | 0,_,st=>some ([],st)
 | k+1,i,st=>match ops[i]? with
  | some o=>match Yj ops (lk st.slots) o with
   | some true=>match Z0 P nf noC (sto st.objs) st.objs.length (lk st.slots) o with
    | some (.val ⟨v,eff,fr,rd⟩)=>match Y5 st.objs eff,V2 st.slots st.nt o.dst v with
     | some objs,some slots=>if Nat.beq objs.length fr then (match Qeh P nf ops k (i+1) ⟨slots,objs,st.nt⟩ with
       | some (s,st')=>some ((eff.map (·.1),rd)::s,st')
       | none=>none) else none
     | _,_=>none
    | _=>none
   | some false=>match V2 st.slots st.nt o.dst (some (.tup [])) with
    | some slots=>(match Qeh P nf ops k (i+1) ⟨slots,st.objs,st.nt⟩ with
      | some (s,st')=>some (([],[])::s,st')
      | none=>none)
    | none=>none
   | none=>none
  | none=>none
theorem Qsm {nf:Bool}:∀(k i:Nat) (st:St) (d:Option (List Sk)) (s:List Sk),Qeh P nf ops k i st=some (s,st1)→RW P rd base ops (Zf d s) (i+k) st1 Φ→RW P rd base ops d i st Φ
 | 0,i,st,d,s,h,hk=>by
  simp only [Qeh,Option.some.injEq,Prod.mk.injEq] at h
  obtain ⟨rfl,rfl⟩:=h
  cases d <;> simpa [Zf] using hk
 | k+1,i,st,d,s,h,hk=>by
  simp only [Qeh] at h
  split at h
  ·rename_i o ho
   split at h
   ·rename_i hw
    split at h
    ·rename_i v eff fr rds he
     split at h
     ·rename_i objs slots ha hp
      split at h
      ·rename_i hl
       split at h
       ·rename_i s0 st2 hr
        cases h
        refine Qat ⟨o,_,ho,Qip noC_sound hw he ha hp (Nat.eq_of_beq_eq_true hl),Qhw _⟩ (Qsm k (i+1) _ _ s0 hr ?_)
        rw [Qsu,show i+1+k=i+(k+1) by omega]
        exact hk
       ·cases h
      ·cases h
     ·cases h
    ·cases h
   ·rename_i hw
    split at h
    ·rename_i slots hp
     split at h
     ·rename_i s0 st2 hr
      cases h
      refine Qat ⟨o,_,ho,Qxn hw hp,Qhw _⟩ (Qsm k (i+1) _ _ s0 hr ?_)
      rw [Qsu,show i+1+k=i+(k+1) by omega]
      exact hk
     ·cases h
    ·cases h
   ·cases h
  ·cases h
noncomputable def Qc2 (P:Program) (nf:Bool) (ops:Array Oper) (k i:Nat) (st:St):Option St:=(Qeh P nf ops k i st).map (·.2)
noncomputable def Qrv (P:Program) (nf:Bool) (ops:Array Oper) (k i:Nat) (st:St):List Sk:=((Qeh P nf ops k i st).map (·.1)).getD []
theorem sg (nf:Bool) (k j:Nat) {i:Nat} {d:Option (List Sk)} {S:St} (h:Qc2 P nf ops k i st=some S) (hj:i+k=j) (hk:RW P rd base ops (Zf d (Qrv P nf ops k i st)) j S Φ):RW P rd base ops d i st Φ:=by
 subst hj
 unfold Qc2 at h
 unfold Qrv at hk
 cases hr:Qeh P nf ops k i st with
 | none=>rw [hr] at h; cases h
 | some x =>
  obtain ⟨s,st2⟩:=x
  rw [hr] at h hk
  simp only [Option.map_some,Option.some.injEq] at h
  subst h
  exact Qsm k i st d s hr hk
theorem Zb {id:Nat} (h:RW P rd base ops none 0 st Φ):WP P rd base (.region id ops false) st Φ:=by
 obtain ⟨out,h1,h2⟩:=h
 refine ⟨out,Quv ?_,h2⟩
 have:List.range ops.size=Qgp ops.size 0:=by simp [Qgp,List.range_eq_range']
 rw [this]; exact h1
theorem Q23 {id:Nat} (hm:(P.follows .mixedOrders || !Region.departs ops)=true) (hB:Region.lexB .any ops=true) (h:RW P rd base ops (some []) 0 st Φ):WP P rd base (.region id ops true) st Φ:=by
 obtain ⟨fs,ss,st',h1,hc,h2,h3⟩:=h
 exact ⟨_,Qwj hm hB (by simpa using h1) hc (by simpa using h2),h3⟩
theorem Q1 {i:Nat} (hi:i=ops.size) (h:Φ (.go .normal st)):RW P rd base ops none i st Φ:=by
 subst hi
 refine ⟨.go .normal st,?_,h⟩
 have:Qgp ops.size ops.size=[]:=by simp [Qgp]
 rw [this]; exact Q1p
theorem Qsa {i:Nat} {acc:List Sk} (hi:i=ops.size) (hc:Qdn ops.toList acc=true) (h:Φ (.go .normal st)):RW P rd base ops (some acc) i st Φ:=by
 subst hi
 exact ⟨[],[],st,by rw [List.drop_of_length_le (by simp)]; exact ⟨rfl,rfl⟩,trivial,by simpa using hc,h⟩
end
end Go.Ab
namespace Go.Ab
structure LexI where
 dst:Option Tmp
 look:List Tmp
 aft:List Nat
def natIn (k:Nat):List Nat → Bool
 | []=>false
 | x::l=>Nat.beq k x || natIn k l
theorem Qlf {k:Nat}:∀{l:List Nat},natIn k l=true↔k∈l
 | []=>by simp [natIn]
 | x::l=>by
  simp only [natIn,Bool.or_eq_true,Qlf (l:=l),List.mem_cons]
  exact or_congr ⟨Nat.eq_of_beq_eq_true,fun h=>by subst h; exact Nat.beq_refl k⟩ Iff.rfl
def Qru (d:Option Tmp) (l:List Nat):Bool:=match d with | some d=>natIn d l | none=>false
def Q1x (d e:Option Tmp):Bool:=match d,e with | some d,some e=>Nat.beq d e | _,_=>false
def Qav (ops:Array Oper) (o:Oper):LexI :=
 ⟨o.dst,o.looksAt ops,(o.after.toList.filter fun e=>Region.binds .any e).map (·.on)⟩
def Qlu (x y:LexI):Bool:=!Qru x.dst y.look && !Q1x x.dst y.dst && !Qru y.dst x.look
def Qlx:Nat → List LexI→Bool
 | _,[]=>true
 | k,x::r=>(x.aft.all fun a=>Nat.blt a k) && (r.all fun y=>natIn k y.aft || Qlu x y) && Qlx (k+1) r
def Qxd (ops:Array Oper):Bool:=Region.noSelect ops && Qlx 0 (ops.toList.map (Qav ops))
theorem Qrn {ops:Array Oper} {x y:Oper} (h:Qlu (Qav ops x) (Qav ops y)=true):x.apart ops y=true:=by
 simp only [Qlu,Qav,Bool.and_eq_true,Bool.not_eq_true'] at h
 obtain ⟨⟨h1,h2⟩,h3⟩:=h
 unfold Oper.apart
 have no:∀{k:Nat} {l:List Nat},natIn k l=false→l.contains k=false:=fun {k l} hk=>by
  rw [Bool.eq_false_iff] at hk ⊢
  intro hc
  exact hk (Qlf.2 (by simpa using hc))
 have hx:∀d,x.dst=some d→(y.looksAt ops).contains d=false∧(y.dst != some d)=true:=fun d hd=>by
  rw [hd] at h1 h2
  refine ⟨no (by simpa [Qru] using h1),?_⟩
  cases hy:y.dst with
  | none=>rfl
  | some e =>
   rw [hy] at h2
   simp only [Q1x] at h2
   rw [bne_iff_ne]
   intro he
   cases he
   rw [Nat.beq_refl] at h2; cases h2
 have hy:∀d,y.dst=some d→(x.looksAt ops).contains d=false:=fun d hd=>by
  rw [hd] at h3
  exact no (by simpa [Qru] using h3)
 cases hxd:x.dst with
 | none =>
  cases hyd:y.dst with
  | none=>rfl
  | some e=>simp only [hy e hyd,Bool.not_false,Bool.and_true]
 | some d =>
  obtain ⟨a,b⟩:=hx d hxd
  cases hyd:y.dst with
  | none=>simp only [a]; rfl
  | some e=>rw [hyd] at b; simp only [a,b,hy e hyd,Bool.not_false,Bool.and_true]
theorem Qsq {ops:Array Oper}:∀(l:List LexI) (k:Nat),Qlx k l=true→∀(i:Nat) (x:LexI),l[i]?=some x →
  (∀a∈x.aft,a < k+i)∧∀(j:Nat) (y:LexI),i < j→l[j]?=some y→k+i∈y.aft∨Qlu x y=true
 | [],_,_,i,x,hx=>by simp at hx
 | z::r,k,h,0,x,hx=>by
  simp only [Qlx,Bool.and_eq_true,List.all_eq_true] at h
  cases hx
  refine ⟨fun a ha=>by simpa using h.1.1 a ha,fun j y hj hy=>?_⟩
  cases j with
  | zero=>omega
  | succ j =>
   have hm:y∈r:=List.mem_of_getElem? (by simpa using hy)
   have:=h.1.2 y hm
   simp only [Bool.or_eq_true,Qlf] at this
   simpa using this
 | z::r,k,h,i+1,x,hx=>by
  simp only [Qlx,Bool.and_eq_true] at h
  obtain ⟨h1,h2⟩:=Qsq (ops:=ops) r (k+1) h.2 i x (by simpa using hx)
  refine ⟨fun a ha=>by have:=h1 a ha; omega,fun j y hj hy=>?_⟩
  cases j with
  | zero=>omega
  | succ j =>
   have:=h2 j y (by omega) (by simpa using hy)
   rw [show k+1+i=k+(i+1) by omega] at this
   exact this
def J0 (n k:Nat):Array Bool:=((List.range n).map fun i=>decide (i < k)).toArray
theorem Qc8 {n k i:Nat} {b:Bool}:(J0 n k).getD i b=if i < n then decide (i < k) else b:=by
 unfold J0
 by_cases h:i < n
 ·simp [h]
 ·simp [h]
theorem Qrh {n:Nat}:J0 n 0=Array.replicate n false:=by
 apply Array.ext
 ·simp [J0]
 ·intro i h1 h2
  simp [J0]
theorem Qrk {n k:Nat}:(J0 n k).setIfInBounds k true=J0 n (k+1):=by
 apply Array.ext
 ·simp [J0]
 ·intro i h1 h2
  rw [Array.getElem_setIfInBounds (by simpa using h1)]
  simp only [J0,List.getElem_toArray,List.getElem_map,List.getElem_range]
  by_cases hik:k=i
  ·subst hik; simp
  ·simp only [hik,if_false]
   congr 1
   exact propext ⟨fun h=>by omega,fun h=>by omega⟩
theorem Qy9 {ops:Array Oper} (h:Qlx 0 (ops.toList.map (Qav ops))=true):∀(fuel k:Nat),k+fuel=ops.size→Region.lexFrom .any ops fuel k (J0 ops.size k)=true:=by
 have at':∀(i:Nat) (o:Oper),ops[i]?=some o→(ops.toList.map (Qav ops))[i]?=some (Qav ops o):=fun i o ho=>by
  simp [List.getElem?_map,ho]
 intro fuel
 induction fuel with
 | zero =>
  intro k hk
  simp only [Region.lexFrom,Region.ready,List.isEmpty_iff,List.filter_eq_nil_iff,List.mem_range]
  intro i hi
  rw [Qc8,if_pos hi]
  have:i < k:=by omega
  simp [this]
 | succ fuel ih =>
  intro k hk
  have hlt:k < ops.size:=by omega
  have ho:ops[k]?=some ops[k]:=Array.getElem?_eq_getElem hlt
  obtain ⟨h1,h2⟩:=Qsq (ops:=ops) _ 0 h k _ (at' k _ ho)
  simp only [Nat.zero_add] at h1 h2
  simp only [Region.lexFrom,Bool.and_eq_true]
  refine ⟨⟨?_,?_⟩,?_⟩
  ·simp only [Region.ready,List.contains_iff_mem,List.mem_filter,List.mem_range,Bool.and_eq_true]
   refine ⟨hlt,?_,?_⟩
   ·rw [Qc8,if_pos hlt]; simp
   ·rw [ho]
    simp only [Option.map_some,Option.getD_some,Array.all_eq_true_iff_forall_mem,Bool.or_eq_true,Bool.not_eq_true']
    intro e he
    cases hb:Region.binds .any e with
    | false=>exact .inl rfl
    | true =>
     refine .inr ?_
     have hlt2:e.on < k:=h1 e.on (by
      simp only [Qav,List.mem_map,List.mem_filter]
      exact ⟨e,⟨Array.mem_toList_iff.2 he,hb⟩,rfl⟩)
     rw [Qc8,if_pos (by omega)]
     simp [hlt2]
  ·simp only [Region.free,ho,List.all_eq_true,List.mem_range]
   intro j hj
   by_cases hjk:j < k
   ·rw [Qc8,if_pos hj]; simp [hjk]
   by_cases hje:j=k
   ·simp [hje]
   have hoj:ops[j]?=some ops[j]:=Array.getElem?_eq_getElem hj
   rw [hoj]
   rcases h2 j _ (by omega) (at' j _ hoj) with h3 | h3
   ·simp only [Qav,List.mem_map,List.mem_filter] at h3
    obtain ⟨e,⟨he,hb⟩,hon⟩:=h3
    have:(ops[j].after.any fun e=>Region.binds .any e && e.on==k)=true:=Array.any_eq_true'.2 ⟨e,Array.mem_toList_iff.1 he,by simp [hb,hon]⟩
    simp [this]
   ·simp [Qrn h3]
  ·rw [Qrk]; exact ih (k+1) (by omega)
theorem Q2z {ops:Array Oper} (h:Qxd ops=true):Region.lexB .any ops=true:=by
 simp only [Qxd,Bool.and_eq_true] at h
 simp only [Region.lexB,Bool.and_eq_true]
 refine ⟨h.1,?_⟩
 rw [←Qrh]
 exact Qy9 h.2 ops.size 0 (by omega)
end Go.Ab
namespace Go.Ab
open Go.RowKit
def lkI {α:Type} (l:List α) (n:Int):Option α:=if n < 0 then none else l[n.toNat]?
def sub {α:Type} (l:List α) (a b:Int):List α:=(l.drop a.toNat).take (b.toNat - a.toNat)
inductive Step (σ ρ:Type) where
 | next (s:σ)
 | done (x:ρ)
def Qd {σ ρ:Type}:Nat → (σ→Option (Step σ ρ))→σ→Option ρ
 | 0,_,_=>none
 | n+1,body,s=>match body s with
  | some (.next s')=>Qd n body s'
  | some (.done x)=>some x
  | none=>none
def fuel:Nat := 1152921504606846976
abbrev eL {α:Type} (fl:Bool) (enc:α→AV) (l:List α):AV:=.lst fl (l.map enc)
theorem V6 {α:Type} {l:List α} {n:Int} {a:α} (h:lkI l n=some a):0≤n∧n.toNat < l.length∧l[n.toNat]?=some a:=by
 unfold lkI at h
 split at h
 ·cases h
 ·rename_i hn; exact ⟨by omega,(List.getElem?_eq_some_iff.1 h).1,h⟩
section
variable {P:Program} {rd:Option Nat} {base:Nat} {ops:Array Oper} {st st1 st' S:St} {o:Oper} {F:Foot} {out:AOut} {Φ:AOut→Prop} {d:Option (List Sk)} {i:Nat} {nf:Bool}
noncomputable abbrev St.sto (st:St):Sto:=Ab.sto st.objs
def X2 (ops:Array Oper) (i:Nat) (st:St):Option Oper :=
 match ops[i]? with
 | some o=>match Yj ops (lk st.slots) o with
  | some true=>some o
  | _=>none
 | none=>none
def Z5 (ops:Array Oper) (i:Nat) (st:St) (v:Option AV) (eff:List (Nat × AObj)):Option St :=
 match ops[i]? with
 | some o=>match Y5 st.objs eff,V2 st.slots st.nt o.dst v with
  | some objs,some slots=>some ⟨slots,objs,st.nt⟩
  | _,_=>none
 | none=>none
theorem Vt (h:X2 ops i st=some o):ops[i]?=some o∧Yj ops (lk st.slots) o=some true:=by
 unfold X2 at h
 split at h
 ·rename_i o' ho
  split at h
  ·rename_i hw; cases h; exact ⟨ho,hw⟩
  ·cases h
 ·cases h
theorem Q0p {v:Option AV} {eff:List (Nat × AObj)} {fr:Nat} {rds:List Nat} (ho:X2 ops i st=some o) (he:Z0 P nf noC st.sto st.objs.length (lk st.slots) o=some (.val ⟨v,eff,fr,rds⟩))
  (hS:Z5 ops i st v eff=some S) (hl:S.objs.length=fr):Q2j P ops i st (eff.map (·.1),rds) S:=by
 obtain ⟨h1,h2⟩:=Vt ho
 unfold Z5 at hS
 rw [h1] at hS
 simp only at hS
 split at hS
 ·rename_i objs slots ha hp
  cases hS
  exact ⟨o,_,h1,Qip noC_sound h2 he ha hp hl,Qhw _⟩
 ·cases hS
theorem Q1k {v:Option AV} {eff:List (Nat × AObj)} (hS:Z5 ops i st v eff=some S):∃objs,Y5 st.objs eff=some objs∧S.objs=objs:=by
 unfold Z5 at hS
 split at hS
 ·split at hS
  ·rename_i objs slots ha hp; cases hS; exact ⟨objs,ha,rfl⟩
  ·cases hS
 ·cases hS
theorem Yv {v:Option AV} (hS:Z5 ops i st v []=some S):S.objs.length=st.objs.length:=by
 obtain ⟨objs,ha,he⟩:=Q1k hS
 simp only [Y5,Option.some.injEq] at ha
 rw [he,←ha]
theorem Vq {v:Option AV} {eff:List (Nat × AObj)} {fr:Nat} {rds:List Nat} (ho:X2 ops i st=some o) (he:Z0 P nf noC st.sto st.objs.length (lk st.slots) o=some (.val ⟨v,eff,fr,rds⟩))
  (hS:Z5 ops i st v eff=some S) (hl:S.objs.length=fr) (k:RW P rd base ops (Zf d [(eff.map (·.1),rds)]) (i+1) S Φ):RW P rd base ops d i st Φ:=Qat (Q0p ho he hS hl) k
def Qck (P:Program) (ops:Array Oper) (i:Nat) (st:St):Option (AV × Int × Nat) :=
 match X2 ops i st with
 | some o=>match o.op with
  | .indexAddr t x ix=>match ti P t,evo (lk st.slots) x,evo (lk st.slots) ix with
   | some T,some a,some (.int _ n)=>match T.kind with
    | .slice e=>match ti P e with
     | some E=>some (a,n,E.size)
     | none=>none
    | _=>none
   | _,_,_=>none
  | _=>none
 | none=>none
theorem Qga {a:AV} {n:Int} {w:Nat} (h:Qck P ops i st=some (a,n,w)):∃o t x ix k T e E,X2 ops i st=some o∧o.op=.indexAddr t x ix∧ti P t=some T∧T.kind=.slice e∧ti P e=some E∧E.size=w ∧
  evo (lk st.slots) x=some a∧evo (lk st.slots) ix=some (.int k n):=by
 unfold Qck at h
 split at h
 ·rename_i o ho
  split at h
  ·rename_i t x ix hop
   split at h
   ·rename_i T a' k n' hT hx hix
    split at h
    ·rename_i e hk
     split at h
     ·rename_i E hE
      cases h
      exact ⟨o,t,x,ix,k,T,e,E,ho,hop,hT,hk,hE,rfl,hx,hix⟩
     ·cases h
    ·cases h
   ·cases h
  ·cases h
 ·cases h
theorem Ql {α:Type} {enc:α→AV} {l:List α} {n:Int} {w:Nat} {fl:Bool} {a:α} (hi:Qck P ops i st=some (.lst fl (l.map enc),n,w)) (hw:Nat.beq (enc a).flat.length w=true)
  (hS:Z5 ops i st (some (.fz (enc a).flat)) []=some S) (ha:lkI l n=some a) (k:RW P rd base ops (Zf d [([],[])]) (i+1) S Φ):RW P rd base ops d i st Φ:=by
 obtain ⟨o,t,x,ix,kk,T,e,E,ho,hop,hT,hk,hE,rfl,hx,hix⟩:=Qga hi
 obtain ⟨h1,h2,h3⟩:=V6 ha
 have hw:=Nat.eq_of_beq_eq_true hw
 refine Vq (nf:=false) (v:=some (.fz (enc a).flat)) (eff:=[]) (fr:=st.objs.length) (rds:=[]) ho ?_ hS (Yv hS) k
 have hneg:¬ n < 0:=by omega
 unfold Z0
 rw [hop]
 simp only [Xd,Bool.false_eq_true,if_false]
 unfold evalOp
 rw [hop]
 simp only [hT,hx,hix,hk,asN,hneg,if_false,hE,List.getElem?_map,h3,Option.map_some,hw,if_true,Xa,Z7]
theorem blt_true {a b:Nat} (h:a < b):Nat.blt a b=true:=by simp only [Nat.blt]; exact Nat.ble_eq_true_of_le h
theorem Qaf {a b:Nat} (h:a≤b):Nat.ble a b=true:=Nat.ble_eq_true_of_le h
theorem Zj {α:Type} {enc:α→AV} {l:List α} {n:Int} {w:Nat} {ro nr fl:Bool} {ob:Nat} {a:α} (hi:Qck P ops i st=some (.ref ob 0 l.length,n,w)) (hrow:st.sto ob=some (.row false ro nr fl w (l.map enc)))
  (hS:Z5 ops i st (some (.ptr ob n.toNat 0)) []=some S) (ha:lkI l n=some a) (k:RW P rd base ops (Zf d [([],[ob])]) (i+1) S Φ):RW P rd base ops d i st Φ:=by
 obtain ⟨o,t,x,ix,kk,T,e,E,ho,hop,hT,hk,hE,rfl,hx,hix⟩:=Qga hi
 obtain ⟨h1,h2,h3⟩:=V6 ha
 refine Vq (nf:=false) (v:=some (.ptr ob n.toNat 0)) (eff:=[]) (fr:=st.objs.length) (rds:=[ob]) ho ?_ hS (Yv hS) k
 have hneg:¬ n < 0:=by omega
 unfold Z0
 rw [hop]
 simp only [Xd,Bool.false_eq_true,if_false]
 unfold evalOp
 rw [hop]
 simp only [hT,hx,hix,hk,asN,hneg,if_false,hE,hrow,blt_true h2,Bool.true_and,decide_true,if_true,Z7,Nat.zero_add]
def Qbn (ops:Array Oper) (i:Nat) (st:St):Option (Nat × Nat × Nat) :=
 match X2 ops i st with
 | some o=>match (match o.op with | .load _ x=>evo (lk st.slots) x | .store _ x _=>evo (lk st.slots) x | _=>none) with
  | some (.ptr ob j c)=>some (ob,j,c)
  | _=>none
 | none=>none
def Qie (P:Program) (ops:Array Oper) (i:Nat) (st:St) (c:Nat) (y:AV):Option St :=
 match X2 ops i st with
 | some o=>match o.op with
  | .load t _=>match ti P t with
   | some T=>match Qbg T (y.flat.drop c) with
    | some v=>Z5 ops i st (some v) []
    | none=>none
   | none=>none
  | _=>none
 | none=>none
theorem Yw {α:Type} {enc:α→AV} {l:List α} {n:Int} {w ob c:Nat} {bx ro nr fl:Bool} {a:α} (hp:Qbn ops i st=some (ob,n.toNat,c)) (hrow:st.sto ob=some (.row bx ro nr fl w (l.map enc))) (ha:lkI l n=some a)
  (hS:Qie P ops i st c (enc a)=some S) (k:RW P rd base ops (Zf d [([],[ob])]) (i+1) S Φ):RW P rd base ops d i st Φ:=by
 obtain ⟨h1,h2,h3⟩:=V6 ha
 unfold Qie at hS
 split at hS
 ·rename_i o ho
  split at hS
  ·rename_i t x hop
   split at hS
   ·rename_i T hT
    split at hS
    ·rename_i v hv
     have hx:evo (lk st.slots) x=some (.ptr ob n.toNat c):=by
      unfold Qbn at hp
      rw [ho] at hp
      simp only [hop] at hp
      split at hp
      ·rename_i hx; cases hp; exact hx
      ·cases hp
     refine Vq (nf:=false) (v:=some v) (eff:=[]) (fr:=st.objs.length) (rds:=[ob]) ho ?_ hS (Yv hS) k
     unfold Z0
     rw [hop]
     simp only [Xd,Bool.false_eq_true,if_false]
     unfold evalOp
     rw [hop]
     simp only [hT,hx,hrow,List.getElem?_map,h3,Option.map_some,hv,Z7]
    ·cases hS
   ·cases hS
  ·cases hS
 ·cases hS
def Qh4 (P:Program) (ops:Array Oper) (i:Nat) (st:St):Option AV :=
 match X2 ops i st with
 | some o=>match o.op with
  | .store t _ y=>match ti P t,evo (lk st.slots) y with
   | some T,some v=>if v.okv && Nat.beq v.flat.length T.size then some v else none
   | _,_=>none
  | _=>none
 | none=>none
theorem Qd2 {v:AV} {ob j c:Nat} (hp:Qbn ops i st=some (ob,j,c)) (hv:Qh4 P ops i st=some v):∃o t x y T,X2 ops i st=some o∧o.op=.store t x y∧ti P t=some T∧evo (lk st.slots) x=some (.ptr ob j c)∧evo (lk st.slots) y=some v ∧
  (v.okv && Nat.beq v.flat.length T.size)=true:=by
 unfold Qh4 at hv
 split at hv
 ·rename_i o ho
  split at hv
  ·rename_i t x y hop
   split at hv
   ·rename_i T v' hT hy
    split at hv
    ·rename_i hc
     cases hv
     refine ⟨o,t,x,y,T,ho,hop,hT,?_,hy,hc⟩
     unfold Qbn at hp
     rw [ho] at hp
     simp only [hop] at hp
     split at hp
     ·rename_i hx; cases hp; exact hx
     ·cases hp
    ·cases hv
   ·cases hv
  ·cases hv
 ·cases hv
theorem Yy {α:Type} {enc:α→AV} {l:List α} {n:Int} {w ob c:Nat} {bx nr fl:Bool} {a a':α} {v:AV} (nf:Bool) (hp:Qbn ops i st=some (ob,n.toNat,c)) (hrow:st.sto ob=some (.row bx false nr fl w (l.map enc))) (ha:lkI l n=some a)
  (hv:Qh4 P ops i st=some v) (hk:(bx || nf || v.nr)=true) (hput:Qd7 (enc a) c v=some (enc a'))
  (hS:Z5 ops i st none [(ob,.row bx false (nr && v.nr) (fl && v.scs) w ((l.set n.toNat a').map enc))]=some S) (hl:Nat.beq S.objs.length st.objs.length=true) (k:RW P rd base ops (Zf d [([ob],[ob])]) (i+1) S Φ):RW P rd base ops d i st Φ:=by
 obtain ⟨h1,h2,h3⟩:=V6 ha
 obtain ⟨o,t,x,y,T,ho,hop,hT,hx,hy,hc⟩:=Qd2 hp hv
 refine Vq (nf:=nf) (fr:=st.objs.length) (rds:=[ob]) ho ?_ hS (Nat.eq_of_beq_eq_true hl) k
 unfold Z0
 rw [hop]
 simp only [Xd,Bool.false_eq_true,if_false]
 unfold evalOp
 rw [hop]
 simp only [hT,hx,hy,hrow,List.getElem?_map,h3,Option.map_some,hc,if_true,hk,hput,frz,Qcy,List.contains_nil,Bool.false_eq_true,if_false,List.nil_append,Z7,List.map_set]
theorem Q35 {α:Type} {enc:α→AV} {l:List α} {n:Int} {w ob c:Nat} {nr fl:Bool} {a a':α} {v0 v:AV} {ids:List Nat} {es:List (Nat × AObj)} (hp:Qbn ops i st=some (ob,n.toNat,c)) (hrow:st.sto ob=some (.row false false nr fl w (l.map enc))) (ha:lkI l n=some a)
  (hv:Qh4 P ops i st=some v0) (hk:v0.nr=false) (hsn:Qu st.sto Qs v0=some (v,ids)) (hfz:frz st.sto ids=some es) (hno:ids.contains ob=false) (hput:Qd7 (enc a) c v=some (enc a'))
  (hS:Z5 ops i st none (es++[(ob,.row false false (nr && v.nr) (fl && v.scs) w ((l.set n.toNat a').map enc))])=some S) (hl:Nat.beq S.objs.length st.objs.length=true)
  (k:RW P rd base ops (Zf d [((es++[(ob,AObj.dead)]).map (·.1),ob::ids)]) (i+1) S Φ):RW P rd base ops d i st Φ:=by
 obtain ⟨h1,h2,h3⟩:=V6 ha
 obtain ⟨o,t,x,y,T,ho,hop,hT,hx,hy,hc⟩:=Qd2 hp hv
 refine Vq (nf:=false) (fr:=st.objs.length) (rds:=ob::ids) ho ?_ hS (Nat.eq_of_beq_eq_true hl) (by simpa using k)
 unfold Z0
 rw [hop]
 simp only [Xd,Bool.false_eq_true,if_false]
 unfold evalOp
 rw [hop]
 have hno':¬ (ob∈ids):=by simpa using hno
 simp only [hT,hx,hy,hrow,List.getElem?_map,h3,Option.map_some,hc,if_true,Bool.false_or,hk,Bool.false_eq_true,if_false,hsn,hput,hfz,List.contains_eq_mem,hno',decide_false,Z7,List.map_set]
def Qvn (P:Program) (ops:Array Oper) (i:Nat) (st:St):Option AV :=
 match X2 ops i st with
 | some o=>match o.op with
  | .call { callee:=.builtin .len,args,argTypes }=>match args.toList,argTypes.toList with
   | [x],t::_=>match ti P t with
    | some T=>match T.kind with
     | .slice _=>evo (lk st.slots) x
     | _=>none
    | none=>none
   | _,_=>none
  | _=>none
 | none=>none
theorem Qj {α:Type} {enc:α→AV} {l:List α} {fl:Bool} (hi:Qvn P ops i st=some (.lst fl (l.map enc))) (hS:Z5 ops i st (some (.int .i64 (l.length:Int))) []=some S) (k:RW P rd base ops (Zf d [([],[])]) (i+1) S Φ):RW P rd base ops d i st Φ:=by
 unfold Qvn at hi
 split at hi
 ·rename_i o ho
  split at hi
  ·rename_i args ts hop
   split at hi
   ·rename_i x t tr ha ht
    split at hi
    ·rename_i T hT
     split at hi
     ·rename_i e hk
      refine Vq (nf:=false) (v:=some (.int .i64 (l.length:Int))) (eff:=[]) (fr:=st.objs.length) (rds:=[]) ho ?_ hS (Yv hS) k
      unfold Z0
      rw [hop]
      simp only [Xd,Bool.false_eq_true,if_false]
      unfold evalOp
      rw [hop]
      simp only [Qrq,ha,ht,hT,hi,hk,Xa,Z7,Option.map_some,List.length_map]
     ·cases hi
    ·cases hi
   ·cases hi
  ·cases hi
 ·cases hi
def Qlt (P:Program) (ops:Array Oper) (i:Nat) (st:St):Option (AV × AV × Nat × Nat) :=
 match X2 ops i st with
 | some o=>match o.op with
  | .call { callee:=.builtin .append,args,argTypes }=>match args.toList,argTypes.toList with
   | [x,y],t::u::_=>match ti P t,ti P u,evo (lk st.slots) x,evo (lk st.slots) y with
    | some T,some _,some a,some b=>if !Nat.beq t u then none else match T.kind with
     | .slice e=>match ti P e with
      | some E=>if E.zok && Nat.blt 0 E.bytes && Nat.blt 0 E.size then some (a,b,E.size,E.bytes) else none
      | none=>none
     | _=>none
    | _,_,_,_=>none
   | _,_=>none
  | _=>none
 | none=>none
theorem Qj7 {a b:AV} {w bytes:Nat} (hi:Qlt P ops i st=some (a,b,w,bytes)):∃o E,X2 ops i st=some o∧Xd o.op=false∧E.size=w∧E.bytes=bytes∧E.zok=true∧0 < bytes∧0 < w ∧
  ∀nf ys nr fl rds r,Yh st.sto w b=some (ys,nr,fl,rds)→(nr || nf)=true→absAppend st.sto st.objs.length E a ys nr fl=some r→Z0 P nf noC st.sto st.objs.length (lk st.slots) o=some (.val { r with rd:=rds++r.rd }):=by
 unfold Qlt at hi
 split at hi
 ·rename_i o ho
  split at hi
  ·rename_i args ts hop
   split at hi
   ·rename_i x y t u tr ha ht
    split at hi
    ·rename_i T U a' b' hT hU hx hy
     split at hi
     ·cases hi
     ·rename_i htu
      split at hi
      ·rename_i e hk
       split at hi
       ·rename_i E hE
        split at hi
        ·rename_i hc
         simp only [Bool.and_eq_true] at hc
         cases hi
         refine ⟨o,E,ho,by rw [hop]; rfl,rfl,rfl,hc.1.1,Yd hc.1.2,Yd hc.2,?_⟩
         intro nf ys nr fl rds r hel hn hr
         have htu':((!Nat.beq t u)=true)=False:=by simpa using htu
         unfold Z0
         rw [hop]
         simp only [Xd,Bool.false_eq_true,if_false]
         unfold evalOp
         rw [hop]
         simp only [Qbz,ha,ht,hT,hU,hx,hy,htu',if_false,hk,hE,hel,hn,if_true,hr,Option.map_some,Z7]
        ·cases hi
       ·cases hi
      ·cases hi
    ·cases hi
   ·cases hi
  ·cases hi
 ·cases hi
theorem Qfj {bytes n:Nat} (h0:0 < bytes) (h:n*bytes≤140737488355328):Yu bytes n=true:=by
 simp [Yu,blt_true h0,Qaf h]
theorem V4 {α R:Type} {enc:α→AV} {l m:List α} {w bytes ob:Nat} {nr fl nr' fl':Bool} {b:AV} {rds:List Nat} {A:Option R} {r:R} (nf:Bool) (hi:Qlt P ops i st=some (.ref ob 0 l.length,b,w,bytes)) (hrow:st.sto ob=some (.row false false nr fl w (l.map enc)))
  (hel:Yh st.sto w b=some (m.map enc,nr',fl',rds)) (hn:(nr' || nf)=true)
  (hS:Z5 ops i st (some (.ref st.objs.length 0 (l++m).length)) [(ob,.dead),(st.objs.length,.row false false (nr && nr') (fl && fl') w ((l++m).map enc))]=some S) (hl:Nat.beq S.objs.length (st.objs.length+1)=true)
  (h:(if (l++m).length*bytes≤140737488355328 then A else none)=some r) (k:A=some r→RW P rd base ops (Zf d [([ob,st.objs.length],rds++[ob])]) (i+1) S Φ):RW P rd base ops d i st Φ:=by
 split at h
 ·rename_i hroom
  obtain ⟨o,E,ho,hm,rfl,rfl,hz,hb0,hw0,hev⟩:=Qj7 hi
  refine Vq (nf:=nf) ho (hev nf _ _ _ _ ⟨some (.ref st.objs.length 0 (l++m).length),[(ob,.dead),(st.objs.length,.row false false (nr && nr') (fl && fl') E.size ((l++m).map enc))],st.objs.length+1,[ob]⟩ hel hn ?_) hS (Nat.eq_of_beq_eq_true hl) (k h)
  have h1:Nat.beq (0+l.length) l.length=true:=by simp
  have h2:Nat.ble (0+l.length) l.length=true:=by simp
  have h3:Yu E.bytes (l.length+m.length)=true:=by
   refine Qfj hb0 ?_
   rw [←List.length_append]; exact hroom
  simp only [absAppend,hrow,Nat.beq_refl,h1,h2,hz,h3,Bool.and_self,if_true,List.drop_zero,List.map_append,List.length_append,List.length_map]
 ·cases h
theorem Q08 {α R:Type} {enc:α→AV} {m:List α} {w bytes:Nat} {nr' fl':Bool} {a b:AV} {rds:List Nat} {A:Option R} {r:R} (nf:Bool) (hi:Qlt P ops i st=some (a,b,w,bytes)) (ha:a=.nils∨a=.emp)
  (hel:Yh st.sto w b=some (m.map enc,nr',fl',rds)) (hn:(nr' || nf)=true)
  (hS:Z5 ops i st (some (.ref st.objs.length 0 m.length)) [(st.objs.length,.row false false nr' fl' w (m.map enc))]=some S) (hl:Nat.beq S.objs.length (st.objs.length+1)=true)
  (h:(if m.length*bytes≤140737488355328 then A else none)=some r) (k:A=some r→RW P rd base ops (Zf d [([st.objs.length],rds)]) (i+1) S Φ):RW P rd base ops d i st Φ:=by
 split at h
 ·rename_i hroom
  obtain ⟨o,E,ho,hm,rfl,rfl,hz,hb0,hw0,hev⟩:=Qj7 hi
  refine Vq (nf:=nf) ho (hev nf _ _ _ _ ⟨some (.ref st.objs.length 0 m.length),[(st.objs.length,.row false false nr' fl' E.size (m.map enc))],st.objs.length+1,[]⟩ hel hn ?_) hS (Nat.eq_of_beq_eq_true hl) (by simpa using k h)
  have h3:Yu E.bytes m.length=true:=Qfj hb0 hroom
  rcases ha with rfl | rfl <;> simp only [absAppend,hz,h3,blt_true hw0,Bool.and_self,if_true,List.length_map]
 ·cases h
theorem Qam {σ:Sto} {α:Type} {enc:α→AV} {m:List α} {w:Nat} {fl:Bool} (hw:∀a,Nat.beq (enc a).flat.length w=true):Yh σ w (.lst fl (m.map enc))=some (m.map enc,true,fl,[]):=by
 have:Qja w (m.map enc)=true:=by cases m <;> simp [Qja,Nat.eq_of_beq_eq_true (hw _)]
 simp only [Yh,this,if_true]
def Qzw (P:Program) (ops:Array Oper) (i:Nat) (st:St):Option (Int × Int × AV × Nat × Nat) :=
 match X2 ops i st with
 | some o=>match o.op with
  | .makeSlice t x y=>match ti P t,evo (lk st.slots) x,evo (lk st.slots) y with
   | some T,some (.int _ n),some (.int _ m)=>match T.kind with
    | .slice e=>match ti P e with
     | some E=>match E.zero with
      | some z=>if Nat.beq z.flat.length E.size && Nat.blt 0 E.size && Nat.blt 0 E.bytes then some (n,m,z,E.size,E.bytes) else none
      | none=>none
     | none=>none
    | _=>none
   | _,_,_=>none
  | _=>none
 | none=>none
def Qll (P:Program) (ops:Array Oper) (i:Nat) (st:St):Option (AV × Option AV × Option AV × Option AV × Nat) :=
 match X2 ops i st with
 | some o=>match o.op with
  | .slice t x lo hi mx=>if mx.isSome && hi.isNone then none else match ti P t,evo (lk st.slots) x,Km (lk st.slots) lo,Km (lk st.slots) hi,Km (lk st.slots) mx with
   | some T,some a,some l,some h,some m=>match T.kind with
    | .slice e=>match ti P e with
     | some E=>some (a,l,h,m,E.size)
     | none=>none
    | _=>none
   | _,_,_,_,_=>none
  | _=>none
 | none=>none
theorem Qmn {a:AV} {l h m:Option AV} {w:Nat} (hi:Qll P ops i st=some (a,l,h,m,w)):∃o,X2 ops i st=some o∧Xd o.op=false ∧
  ∀v rds,J4 st.sto w a l h m=some (v,rds)→Z0 P false noC st.sto st.objs.length (lk st.slots) o=some (.val ⟨some v,[],st.objs.length,rds⟩):=by
 unfold Qll at hi
 split at hi
 ·rename_i o ho
  split at hi
  ·rename_i t x lo hh mx hop
   split at hi
   ·cases hi
   ·rename_i hmx
    split at hi
    ·rename_i T a' l' h' m' hT hx h1 h2 h3
     split at hi
     ·rename_i e hk
      split at hi
      ·rename_i E hE
       cases hi
       refine ⟨o,ho,by rw [hop]; rfl,fun v rds hv=>?_⟩
       unfold Z0
       rw [hop]
       simp only [Xd,Bool.false_eq_true,if_false]
       unfold evalOp
       rw [hop]
       simp only [hmx,if_false,hT,hx,h1,h2,h3,hk,hE,hv,Option.map_some,Z7,Bool.false_eq_true]
      ·cases hi
     ·cases hi
    ·cases hi
  ·cases hi
 ·cases hi
theorem Qxx {α:Type} {enc:α→AV} {l:List α} {w:Nat} (hw:∀a,Nat.beq (enc a).flat.length w=true):Qja w (l.map enc)=true:=by
 cases l <;> simp [Qja,Nat.eq_of_beq_eq_true (hw _)]
def loI:Option AV→Option Int
 | none=>some 0
 | some (.int _ a)=>some a
 | _=>none
def hiI (n:Nat):Option AV→Option Int
 | none=>some n
 | some (.int _ a)=>some a
 | _=>none
theorem Qvo {x:Option AV} {a:Int} (h:loI x=some a) (h0:0≤a):Y3 x 0=some a.toNat := by
 unfold loI at h
 split at h
 ·cases h; rfl
 ·rename_i k b; cases h; simp [Y3,asN]; omega
 ·cases h
theorem Qva {n:Nat} {x:Option AV} {a:Int} (h:hiI n x=some a) (h0:0≤a):Y3 x n=some a.toNat := by
 unfold hiI at h
 split at h
 ·cases h; simp [Y3]
 ·rename_i k b; cases h; simp [Y3,asN]; omega
 ·cases h
theorem Qzj {α R:Type} {enc:α→AV} {l:List α} {fl:Bool} {lo hi:Option AV} {a b:Int} {w:Nat} {A:Option R} {r:R} (hi':Qll P ops i st=some (.lst fl (l.map enc),lo,hi,none,w)) (hw:∀a,Nat.beq (enc a).flat.length w=true)
  (ha:loI lo=some a) (hb:hiI l.length hi=some b) (hS:Z5 ops i st (some (.lst fl ((sub l a b).map enc))) []=some S)
  (h:(if 0≤a∧a≤b∧b≤l.length then A else none)=some r) (k:A=some r→RW P rd base ops (Zf d [([],[])]) (i+1) S Φ):RW P rd base ops d i st Φ:=by
 split at h
 ·rename_i hc
  obtain ⟨c1,c2,c3⟩:=hc
  obtain ⟨o,ho,hm,hev⟩:=Qmn hi'
  refine Vq (nf:=false) ho (hev (.lst fl ((sub l a b).map enc)) [] ?_) hS (Yv hS) (k h)
  have hb':Y3 hi (l.map enc).length=some b.toNat := by rw [List.length_map]; exact Qva hb (by omega)
  have g1:Nat.ble a.toNat b.toNat = true:=Qaf (by omega)
  have g2:Nat.ble b.toNat (l.map enc).length=true:=Qaf (by rw [List.length_map]; omega)
  have g3:Nat.ble (l.map enc).length (l.map enc).length=true:=Qaf (Nat.le_refl _)
  have g4:Y3 none (l.map enc).length=some (l.map enc).length:=rfl
  simp only [J4]
  rw [Qvo ha c1,hb',g4]
  simp only [g1,g2,g3,Qxx hw,Bool.and_self,if_true,Option.isSome_none,Bool.false_and,Bool.false_eq_true,if_false]
  simp [sub,List.map_take,List.map_drop]
 ·cases h
theorem Q30 {α R:Type} {enc:α→AV} {l:List α} {ob:Nat} {ro nr fl:Bool} {lo hi:Option AV} {a b:Int} {w:Nat} {A:Option R} {r:R} (hi':Qll P ops i st=some (.ref ob 0 l.length,lo,hi,none,w)) (hrow:st.sto ob=some (.row false ro nr fl w (l.map enc)))
  (ha:loI lo=some a) (hb:hiI l.length hi=some b) (hS:Z5 ops i st (some (.ref ob a.toNat (b.toNat - a.toNat))) []=some S)
  (h:(if 0≤a∧a≤b∧b≤l.length then A else none)=some r) (k:A=some r→RW P rd base ops (Zf d [([],[ob])]) (i+1) S Φ):RW P rd base ops d i st Φ:=by
 split at h
 ·rename_i hc
  obtain ⟨c1,c2,c3⟩:=hc
  obtain ⟨o,ho,hm,hev⟩:=Qmn hi'
  refine Vq (nf:=false) ho (hev (.ref ob a.toNat (b.toNat - a.toNat)) [ob] ?_) hS (Yv hS) (k h)
  have g1:Nat.ble a.toNat b.toNat = true:=Qaf (by omega)
  have g2:Nat.ble b.toNat (l.map enc).length=true:=Qaf (by rw [List.length_map]; omega)
  simp only [J4,hrow,Qvo ha c1,Qva hb (by omega),Nat.zero_add,g1,g2,Nat.beq_refl,Bool.and_self,if_true]
 ·cases h
def Qft (ops:Array Oper) (i:Nat) (st:St):Option (BinOp × IntKind × Int × IntKind × Int) :=
 match X2 ops i st with
 | some o=>match o.op with
  | .binOp op _ x y _=>match evo (lk st.slots) x,evo (lk st.slots) y with
   | some (.int k a),some (.int k' b)=>some (op,k,a,k',b)
   | _,_=>none
  | _=>none
 | none=>none
theorem Qc9 {op:BinOp} {k k':IntKind} {a b:Int} (hi:Qft ops i st=some (op,k,a,k',b)):∃o t x y t2,X2 ops i st=some o∧o.op=.binOp op t x y t2∧evo (lk st.slots) x=some (.int k a)∧evo (lk st.slots) y=some (.int k' b):=by
 unfold Qft at hi
 split at hi
 ·rename_i o ho
  split at hi
  ·rename_i op' t x y t2 hop
   split at hi
   ·rename_i k1 a1 k2 b1 hx hy
    cases hi
    exact ⟨o,t,x,y,t2,ho,hop,hx,hy⟩
   ·cases hi
  ·cases hi
 ·cases hi
theorem Qnm {R:Type} {k:IntKind} {a b:Int} {A:Option R} {r:R} (hi:Qft ops i st=some (.quo,k,a,k,b)) (hS:Z5 ops i st (some (.int k (k.wrap (a.tdiv b)))) []=some S) (h:(if b≠0 then A else none)=some r)
  (kk:A=some r→RW P rd base ops (Zf d [([],[])]) (i+1) S Φ):RW P rd base ops d i st Φ:=by
 split at h
 ·rename_i hb
  obtain ⟨o,t,x,y,t2,ho,hop,hx,hy⟩:=Qc9 hi
  refine Vq (nf:=false) (v:=some (.int k (k.wrap (a.tdiv b)))) (eff:=[]) (fr:=st.objs.length) (rds:=[]) ho ?_ hS (Yv hS) (kk h)
  unfold Z0
  rw [hop]
  simp only [Xd,Bool.false_eq_true,if_false]
  unfold evalOp
  rw [hop]
  simp only [hx,hy,Qh8,if_true,Qki,hb,if_false,Xa,Option.map_some,Z7]
 ·cases h
theorem Qmx {R:Type} {k:IntKind} {a b:Int} {A:Option R} {r:R} (hi:Qft ops i st=some (.rem,k,a,k,b)) (hS:Z5 ops i st (some (.int k (a.tmod b))) []=some S) (h:(if b≠0 then A else none)=some r)
  (kk:A=some r→RW P rd base ops (Zf d [([],[])]) (i+1) S Φ):RW P rd base ops d i st Φ:=by
 split at h
 ·rename_i hb
  obtain ⟨o,t,x,y,t2,ho,hop,hx,hy⟩:=Qc9 hi
  refine Vq (nf:=false) (v:=some (.int k (a.tmod b))) (eff:=[]) (fr:=st.objs.length) (rds:=[]) ho ?_ hS (Yv hS) (kk h)
  unfold Z0
  rw [hop]
  simp only [Xd,Bool.false_eq_true,if_false]
  unfold evalOp
  rw [hop]
  simp only [hx,hy,Qh8,if_true,Qki,hb,if_false,Xa,Option.map_some,Z7]
 ·cases h
theorem Q3z {R:Type} {k k':IntKind} {a b:Int} {A:Option R} {r:R} (hi:Qft ops i st=some (.shl,k,a,k',b)) (hS:Z5 ops i st (some (.int k (k.wrap (a*2^min b.toNat k.bits)))) []=some S) (h:(if 0≤b then A else none)=some r)
  (kk:A=some r→RW P rd base ops (Zf d [([],[])]) (i+1) S Φ):RW P rd base ops d i st Φ:=by
 split at h
 ·rename_i hb
  obtain ⟨o,t,x,y,t2,ho,hop,hx,hy⟩:=Qc9 hi
  refine Vq (nf:=false) (v:=some (.int k (k.wrap (a*2^min b.toNat k.bits)))) (eff:=[]) (fr:=st.objs.length) (rds:=[]) ho ?_ hS (Yv hS) (kk h)
  have hb':¬ b < 0:=by omega
  unfold Z0
  rw [hop]
  simp only [Xd,Bool.false_eq_true,if_false]
  unfold evalOp
  rw [hop]
  simp only [hx,hy,Qh8,hb',if_false,Xa,Option.map_some,Z7]
 ·cases h
theorem Q5f {R:Type} {k k':IntKind} {a b:Int} {A:Option R} {r:R} (hi:Qft ops i st=some (.shr,k,a,k',b)) (hS:Z5 ops i st (some (.int k (a.fdiv (2^min b.toNat k.bits)))) []=some S) (h:(if 0≤b then A else none)=some r)
  (kk:A=some r→RW P rd base ops (Zf d [([],[])]) (i+1) S Φ):RW P rd base ops d i st Φ:=by
 split at h
 ·rename_i hb
  obtain ⟨o,t,x,y,t2,ho,hop,hx,hy⟩:=Qc9 hi
  refine Vq (nf:=false) (v:=some (.int k (a.fdiv (2^min b.toNat k.bits)))) (eff:=[]) (fr:=st.objs.length) (rds:=[]) ho ?_ hS (Yv hS) (kk h)
  have hb':¬ b < 0:=by omega
  unfold Z0
  rw [hop]
  simp only [Xd,Bool.false_eq_true,if_false]
  unfold evalOp
  rw [hop]
  simp only [hx,hy,Qh8,hb',if_false,Xa,Option.map_some,Z7]
 ·cases h
end
end Go.Ab
namespace Go.Ab
open Go.RowKit
inductive LK where
 | keep | lst (fl:Bool) | emp
def LK.ap:LK→AV→AV
 | .keep,x=>x
 | .lst fl,x=>match x with
  | .nils | .emp=>.lst fl []
  | .lst f xs=>.lst (f && fl) xs
  | x=>x
 | .emp,x=>match x with
  | .nils=>.emp
  | x=>x
def Qeu:List LK→List AV→List AV
 | h::hs,x::xs=>h.ap x::Qeu hs xs
 | _,xs=>xs
def Q2 (hs:List LK):AV→AV
 | .agg cs=>.agg (Qeu hs cs)
 | x=>match hs with
  | h::_=>h.ap x
  | []=>x
def Qhc:List (List LK)→List AV→List AV
 | h::hs,x::xs=>Q2 h x::Qhc hs xs
 | _,xs=>xs
def Qfp (hss:List (List LK)):AV→AV
 | .tup vs=>.tup (Qhc hss vs)
 | x=>match hss with
  | h::_=>Q2 h x
  | []=>x
theorem LK.ap_rep {M:CM} {ι:Inj} {v:Value} {x:AV} (h:LK) (hr:Qa M ι v x):Qa M ι v (h.ap x):=by
 cases h with
 | keep=>exact hr
 | emp =>
  cases x <;> simp only [LK.ap] <;> first | exact hr | (cases hr; exact .emp _)
 | lst fl =>
  cases x with
  | nils=>cases hr; exact .lst0 _ _
  | emp=>cases hr; exact .lst0 _ _
  | lst f xs =>
   cases hr with
   | lst0=>exact .lst0 _ _
   | lst b off cap w _ _ g hcap hfl hc hM hr =>
    exact .lst b off cap w _ xs g hcap (fun h=>hfl (by simp at h; exact h.1)) hc hM hr
  | _=>exact hr
theorem LK.ap_cell (h:LK) (x:AV):(h.ap x).cell=x.cell:=by
 cases h <;> cases x <;> rfl
theorem LK.ap_sc (h:LK) {x:AV} (hs:x.sc=true):(h.ap x).sc=true:=by
 cases h <;> cases x <;> first | exact hs | rfl
theorem LK.ap_nr (h:LK) {x:AV} (hs:x.nr=true):(h.ap x).nr=true:=by
 cases h <;> cases x <;> first | exact hs | rfl
theorem Qhj:∀(hs:List LK) (xs:List AV),(Qeu hs xs).length=xs.length
 | [],xs=>by cases xs <;> rfl
 | h::hs,[]=>rfl
 | h::hs,x::xs=>by simp [Qeu,Qhj hs xs]
theorem Qhr : ∀(hs:List LK) (xs:List AV) (j:Nat) (y:AV),(Qeu hs xs)[j]?=some y→∃h x,xs[j]?=some x∧y=LK.ap h x
 | [],xs,j,y,hj=>⟨.keep,y,by cases xs <;> simpa [Qeu] using hj,rfl⟩
 | h::hs,[],j,y,hj=>by simp [Qeu] at hj
 | h::hs,x::xs,0,y,hj=>by simp only [Qeu,List.getElem?_cons_zero,Option.some.injEq] at hj; exact ⟨h,x,rfl,hj.symm⟩
 | h::hs,x::xs,j+1,y,hj=>by
  simp only [Qeu,List.getElem?_cons_succ] at hj
  obtain ⟨h',x',e1,e2⟩:=Qhr hs xs j y hj
  exact ⟨h',x',by simpa using e1,e2⟩
theorem Qjb {hs:List LK} {xs:List AV} {y:AV} (hy:y∈Qeu hs xs):∃h x,x∈xs∧y=LK.ap h x:=by
 obtain ⟨j,hj,rfl⟩:=List.mem_iff_getElem.1 hy
 obtain ⟨h,x,e1,e2⟩:=Qhr hs xs j _ (List.getElem?_eq_getElem hj)
 exact ⟨h,x,List.mem_of_getElem? e1,e2⟩
theorem Qd4 {M:CM} {ι:Inj} {v:Value} {x:AV} (hs:List LK) (hr:Qa M ι v x):Qa M ι v (Q2 hs x):=by
 cases x
 case agg cs =>
  simp only [Q2]
  cases hr with
  | agg cs' _ h hc hr =>
   refine .agg cs' _ (by rw [Qhj]; exact h) (fun y hy=>?_) (fun j v y hv hy=>?_)
   ·obtain ⟨h',x,hx,rfl⟩:=Qjb hy; rw [LK.ap_cell]; exact hc x hx
   ·obtain ⟨h',x,hx,rfl⟩:=Qhr hs cs j y hy; exact LK.ap_rep h' (hr j v x hv hx)
 all_goals (cases hs <;> simp only [Q2] <;> first | exact hr | exact LK.ap_rep _ hr)
theorem Qqd : ∀(hs:List (List LK)) (xs:List AV) (j:Nat) (y:AV),(Qhc hs xs)[j]?=some y→∃h x,xs[j]?=some x∧y=Q2 h x
 | [],xs,j,y,hj=>⟨[],y,by cases xs <;> simpa [Qhc] using hj,by cases y <;> rfl⟩
 | h::hs,[],j,y,hj=>by simp [Qhc] at hj
 | h::hs,x::xs,0,y,hj=>by simp only [Qhc,List.getElem?_cons_zero,Option.some.injEq] at hj; exact ⟨h,x,rfl,hj.symm⟩
 | h::hs,x::xs,j+1,y,hj=>by
  simp only [Qhc,List.getElem?_cons_succ] at hj
  obtain ⟨h',x',e1,e2⟩:=Qqd hs xs j y hj
  exact ⟨h',x',by simpa using e1,e2⟩
theorem Qhd:∀(hs:List (List LK)) (xs:List AV),(Qhc hs xs).length=xs.length
 | [],xs=>by cases xs <;> rfl
 | h::hs,[]=>rfl
 | h::hs,x::xs=>by simp [Qhc,Qhd hs xs]
theorem Quz {M:CM} {ι:Inj} {v:Value} {x:AV} (hs:List (List LK)) (hr:Qa M ι v x):Qa M ι v (Qfp hs x):=by
 cases x
 case tup vs =>
  simp only [Qfp]
  cases hr with
  | tup vs' _ h hr =>
   refine .tup vs' _ (by rw [Qhd]; exact h) (fun j v y hv hy=>?_)
   obtain ⟨h',x,hx,rfl⟩:=Qqd hs vs j y hy; exact Qd4 h' (hr j v x hv hx)
 all_goals (cases hs <;> simp only [Qfp] <;> first | exact hr | exact Qd4 _ hr)
theorem Qdb (hs:List LK) {x:AV} (hx:x=.agg x.flat ∨ x.cell=true):∃hs',(Q2 hs x).flat = Qeu hs' x.flat ∧ (Q2 hs x=.agg (Q2 hs x).flat ∨ (Q2 hs x).cell=true):=by
 rcases hx with e | e
 ·generalize hf:x.flat = cs at e
  subst e
  exact ⟨hs,rfl,.inl rfl⟩
 ·have hf:=AV.flat_cell e
  rw [hf]
  cases hs with
  | nil=>exact ⟨[],by cases x <;> simp_all [Q2,Qeu,AV.cell,AV.flat],.inr (by cases x <;> simp_all [Q2,AV.cell])⟩
  | cons h r =>
   have hl:Q2 (h::r) x=h.ap x:=by cases x <;> simp_all [Q2,AV.cell]
   have hc:(h.ap x).cell=true:=by rw [LK.ap_cell]; exact e
   exact ⟨[h],by rw [hl,AV.flat_cell hc]; rfl,.inr (by rw [hl]; exact hc)⟩
theorem Qh6 (hs:List LK) {x:AV} {w:Nat} (h:x.shaped w):(Q2 hs x).shaped w:=by
 obtain ⟨hs',e1,e2⟩:=Qdb hs h.form
 refine ⟨e2,by rw [e1,Qhj]; exact h.len,fun y hy=>?_⟩
 rw [e1] at hy
 obtain ⟨h',z,hz,rfl⟩:=Qjb hy
 rw [LK.ap_cell]; exact h.cells z hz
theorem Qw6 (hs:List LK) {x:AV} (h:x.nr=true):(Q2 hs x).nr=true:=by
 cases x
 case agg cs =>
  simp only [Q2,AV.nr,Qx] at h ⊢
  intro y hy
  obtain ⟨h',z,hz,rfl⟩:=Qjb hy
  exact LK.ap_nr h' (h z hz)
 all_goals (cases hs <;> simp only [Q2] <;> first | exact h | exact LK.ap_nr _ h)
theorem Quy (hs:List LK) {x:AV} {w:Nat} (hx:x.shaped w) (h:x.scs=true):(Q2 hs x).scs=true:=by
 obtain ⟨hs',e1,e2⟩:=Qdb hs hx.form
 rw [Qb7] at *
 rw [e1]
 intro y hy
 obtain ⟨h',z,hz,rfl⟩:=Qjb hy
 exact LK.ap_sc h' (h z hz)
section
variable {P:Program} {B:Nat} {W0 W:World} {D:List Nat} {M:CM} {ι:Inj} {σ:Sto}
theorem Rel.lessRow (h:Rel P B W0 D M ι σ W) {o:Nat} {bx ro nr fl nr' fl':Bool} {w:Nat} {xs xs':List AV} (hσ:σ o=some (.row bx ro nr fl w xs)) (hl:xs'.length=xs.length)
  (hx:∀(i:Nat) (x x':AV),xs[i]?=some x→xs'[i]?=some x'→∃hs,x'=Q2 hs x) (hnr:nr'=true→AV.nrL xs'=true) (hfl:fl'=true→∀x∈xs',AV.scs x=true) :
  Rel P B W0 D M ι (σ.put o (.row bx ro nr' fl' w xs')) W:=by
 obtain ⟨p0,hp0,hrow⟩:=h.row o bx ro nr fl w xs hσ
 have hat : ∀(i:Nat) (x':AV),xs'[i]?=some x'→∃x hs,xs[i]?=some x∧x'=Q2 hs x:=fun i x' hi=>by
  have hlt:i < xs.length:=by rw [←hl]; exact (List.getElem?_eq_some_iff.1 hi).1
  obtain ⟨hs,e⟩:=hx i _ x' (List.getElem?_eq_getElem hlt) hi
  exact ⟨_,hs,List.getElem?_eq_getElem hlt,e⟩
 have hcell:∀(i j:Nat) (x' y':AV),xs'[i]?=some x'→x'.flat[j]?=some y'→∃x y,xs[i]?=some x∧x.flat[j]?=some y∧∃hk,y'=LK.ap hk y:=fun i j x' y' hi hj=>by
  obtain ⟨x,hs,e1,rfl⟩:=hat i x' hi
  obtain ⟨hs',e2,_⟩:=Qdb hs (hrow.shaped x (List.mem_of_getElem? e1)).form
  rw [e2] at hj
  obtain ⟨hk,y,e3,e4⟩:=Qhr hs' _ j y' hj
  exact ⟨x,y,e1,e3,hk,e4⟩
 refine ⟨h.size,h.below,h.defs,h.agree,fun k bx1 nr1 fl1 w1 xs1 q j hk hq hj=>?_,?_,?_,?_,?_,?_⟩
 ·by_cases e:k=o
  ·subst e; rw [Sto.put_same] at hk; cases hk; exact h.cool _ _ _ _ _ _ _ _ hσ hq hj
  ·rw [Sto.put_ne _ _ e] at hk; exact h.cool _ _ _ _ _ _ _ _ hk hq hj
 ·intro k bx1 ro1 nr1 fl1 w1 xs1 hk
  by_cases e:k=o
  ·subst e
   rw [Sto.put_same] at hk
   cases hk
   refine ⟨p0,hp0,⟨hrow.pw,hrow.pos,hrow.cpos,by rw [hl]; exact hrow.len,fun x' hx'=>?_,hnr,hfl,fun i j x' y' hi hj=>?_,hrow.own,fun hro i j x' y' hi hj=>?_⟩⟩
   ·obtain ⟨i,hi,rfl⟩:=List.mem_iff_getElem.1 hx'
    obtain ⟨x,hs,e1,e2⟩:=hat i _ (List.getElem?_eq_getElem hi)
    rw [e2]; exact Qh6 hs (hrow.shaped x (List.mem_of_getElem? e1))
   ·obtain ⟨x,y,e1,e2,hk,rfl⟩:=hcell i j x' y' hi hj
    obtain ⟨v,hv,hr⟩:=hrow.cells i j x y e1 e2
    exact ⟨v,hv,LK.ap_rep hk hr⟩
   ·obtain ⟨x,y,e1,e2,hk,rfl⟩:=hcell i j x' y' hi hj
    obtain ⟨v,hv,hr⟩:=hrow.imm hro i j x y e1 e2
    exact ⟨v,hv,LK.ap_rep hk hr⟩
  ·rw [Sto.put_ne _ _ e] at hk
   exact h.row k bx1 ro1 nr1 fl1 w1 xs1 hk
 ·intro k fn sl ps as bd st pe hk
  have e:k≠o:=fun e=>by subst e; rw [Sto.put_same] at hk; cases hk
  rw [Sto.put_ne _ _ e] at hk
  exact h.loop k fn sl ps as bd st pe hk
 ·intro k k' bx1 nr1 fl1 w1 xs1 bx2 nr2 fl2 w2 xs2 q q' hkk h1 h2 hq hq'
  have g:∀k bx1 nr1 fl1 w1 xs1,σ.put o (.row bx ro nr' fl' w xs') k=some (.row bx1 false nr1 fl1 w1 xs1)→∃bx nr fl w xs,σ k=some (.row bx false nr fl w xs):=fun k bx1 nr1 fl1 w1 xs1 hk=>by
   by_cases e:k=o
   ·subst e; rw [Sto.put_same] at hk; cases hk; exact ⟨_,_,_,_,_,hσ⟩
   ·rw [Sto.put_ne _ _ e] at hk; exact ⟨_,_,_,_,_,hk⟩
  obtain ⟨_,_,_,_,_,g1⟩:=g _ _ _ _ _ _ h1
  obtain ⟨_,_,_,_,_,g2⟩:=g _ _ _ _ _ _ h2
  exact h.apart _ _ _ _ _ _ _ _ _ _ _ _ _ _ hkk g1 g2 hq hq'
 ·intro k k' fn sl ps as bd st pe fn' sl' ps' as' bd' st' pe' q q' hkk h1 h2 hq hq'
  have e:k≠o:=fun e=>by subst e; rw [Sto.put_same] at h1; cases h1
  have e':k'≠o:=fun e=>by subst e; rw [Sto.put_same] at h2; cases h2
  rw [Sto.put_ne _ _ e] at h1; rw [Sto.put_ne _ _ e'] at h2
  exact h.loops _ _ _ _ _ _ _ _ _ _ _ _ _ _ _ _ _ _ hkk h1 h2 hq hq'
 ·intro k hk
  have e:k≠o:=fun e=>by subst e; rw [hp0] at hk; cases hk
  rw [Sto.put_ne _ _ e]; exact h.used k hk
def X6 (hs:List LK) (b:Bool):List (Nat × AObj)→List (Nat × AObj)
 | []=>[]
 | (o,x)::es=>match es with
  | []=>match x with
   | .row bx ro nr fl w xs=>[(o,.row bx ro nr (b && fl) w (xs.map (Q2 hs)))]
   | x=>[(o,x)]
  | _=>(o,x)::X6 hs b es
theorem Rel.lessEff (hs:List LK) (b:Bool):∀(es:List (Nat × AObj)) (σ:Sto),Rel P B W0 D M ι (σ.puts es) W→Rel P B W0 D M ι (σ.puts (X6 hs b es)) W
 | [],σ,h=>h
 | (o,x)::es,σ,h=>by
  cases es with
  | cons e es=>exact Rel.lessEff hs b (e::es) (σ.put o x) h
  | nil =>
   cases x with
   | row bx ro nr fl w xs =>
    have h':Rel P B W0 D M ι (σ.put o (.row bx ro nr fl w xs)) W:=h
    obtain ⟨p,hp,hrow⟩:=h'.row o bx ro nr fl w xs (Sto.put_same _ _ _)
    have:=h'.lessRow (xs':=xs.map (Q2 hs)) (nr':=nr) (fl':=b && fl) (Sto.put_same _ _ _) (by simp) (fun i x x' hi hi'=>⟨hs,by simp [hi] at hi'; exact hi'.symm⟩)
     (fun hn=>by
      rw [Qx]; intro y hy
      simp only [List.mem_map] at hy
      obtain ⟨z,hz,rfl⟩:=hy
      exact Qw6 hs (Qx.1 (hrow.nr hn) z hz))
     (fun hf y hy=>by
      simp only [List.mem_map] at hy
      obtain ⟨z,hz,rfl⟩:=hy
      exact Quy hs (hrow.shaped z hz) (hrow.fl (by simp at hf; exact hf.2) z hz))
    have e:∀(σ:Sto) (x y:AObj),(σ.put o x).put o y=σ.put o y:=fun σ x y=>by
     funext k; by_cases e:k=o <;> simp [Sto.put,e]
    rw [e] at this
    exact this
   | loop=>exact h
   | dead=>exact h
   | fam=>exact h
   | refs=>exact h
theorem Qjq (hs:List LK) (b:Bool):∀(es:List (Nat × AObj)),(X6 hs b es).map (·.1)=es.map (·.1)
 | []=>rfl
 | (o,x)::es=>by
  cases es with
  | cons e es=>simp only [X6,List.map_cons]; congr 1; exact Qjq hs b (e::es)
  | nil=>cases x <;> rfl
end
section
variable {P:Program} {rd:Option Nat} {base:Nat} {ops:Array Oper} {st st1 st' S:St} {o:Oper} {F:Foot} {out:AOut} {Φ:AOut→Prop} {d:Option (List Sk)} {i:Nat} {nf:Bool} {s:Slots} {σ:Sto} {c:Code}
theorem Qqk (hv he:List LK) (b:Bool) (h:YlL P ops o F s σ):YlL P ops o ⟨F.v.map (Q2 hv),X6 he b F.eff,F.fr,F.fr',F.rd⟩ s σ:=by
 intro s' σ' hs hσ
 rcases h s' σ' hs hσ with ⟨hw,hd⟩ | ⟨hw,h1,h2⟩
 ·refine .inl ⟨hw,?_⟩
  intro B W0 D M ι a W n Q r next hrel hsl hfree hpost
  refine hd B W0 D M ι a W n Q r next hrel hsl hfree (fun v W' M' ι' g1 g2 g3 g4 g5=>hpost v W' M' ι' g1 g2 g3 (Rel.lessEff he b _ _ g4) (fun x hx=>?_))
  simp only [Option.map_eq_some_iff] at hx
  obtain ⟨y,hy,rfl⟩:=hx
  exact Qd4 hv (g5 y hy)
 ·exact .inr ⟨hw,by simp only [h1,Option.map_some]; cases hv <;> (try rename_i x _; cases x) <;> rfl,by simp [h2,X6]⟩
theorem Qts {v:Option AV} {eff:List (Nat × AObj)} {fr:Nat} {rds:List Nat} (hv he:List LK) (b:Bool) {C:FuncId→List AV→Option Xp} (hC:Qi2 P C) (ho:X2 ops i st=some o) (hev:Z0 P nf C st.sto st.objs.length (lk st.slots) o=some (.val ⟨v,eff,fr,rds⟩))
  (hS:Z5 ops i st (v.map (Q2 hv)) (X6 he b eff)=some S) (hl:S.objs.length=fr) (k:RW P rd base ops (Zf d [(eff.map (·.1),rds)]) (i+1) S Φ):RW P rd base ops d i st Φ:=by
 obtain ⟨h1,h2⟩:=Vt ho
 unfold Z5 at hS
 rw [h1] at hS
 simp only at hS
 split at hS
 ·rename_i objs slots ha hp
  cases hS
  refine Qat (s:=(eff.map (·.1),rds)) ⟨o,⟨v.map (Q2 hv),X6 he b eff,st.objs.length,fr,rds⟩,h1,Qtw ?_ rfl hl.symm ha hp rfl,Q4r (by simp [Foot.sk,Qjq])⟩ k
  exact Qqk hv he b (ylL_ev hC h2 hev)
 ·cases hS
noncomputable def Qwf (P:Program) (nf:Bool) (ops:Array Oper) (i:Nat) (st:St) (hv he:List LK) (b:Bool):Option St :=
 match X2 ops i st with
 | some o=>match Z0 P nf noC st.sto st.objs.length (lk st.slots) o with
  | some (.val ⟨v,eff,fr,rd⟩)=>match Z5 ops i st (v.map (Q2 hv)) (X6 he b eff) with
   | some S=>if Nat.beq S.objs.length fr then some S else none
   | none=>none
  | _=>none
 | none=>none
noncomputable def Qto (P:Program) (nf:Bool) (ops:Array Oper) (i:Nat) (st:St):Sk :=
 match X2 ops i st with
 | some o=>match Z0 P nf noC st.sto st.objs.length (lk st.slots) o with
  | some (.val ⟨v,eff,fr,rd⟩)=>(eff.map (·.1),rd)
  | _=>([],[])
 | none=>([],[])
theorem sgL (nf:Bool) (hv he:List LK) (b:Bool) (h:Qwf P nf ops i st hv he b=some S) (k:RW P rd base ops (Zf d [Qto P nf ops i st]) (i+1) S Φ):RW P rd base ops d i st Φ:=by
 unfold Qwf at h
 unfold Qto at k
 split at h
 ·rename_i o ho
  rw [ho] at k
  simp only at k
  split at h
  ·rename_i v eff fr rds hev
   rw [hev] at k
   split at h
   ·rename_i S' hS
    split at h
    ·rename_i hl
     cases h
     exact Qts hv he b noC_sound ho hev hS (Nat.eq_of_beq_eq_true hl) k
    ·cases h
   ·cases h
  ·cases h
 ·cases h
theorem mkL {α R:Type} {enc:α→AV} {z:α} {z0:AV} {n m:Int} {w bytes:Nat} {A:Option R} {r:R} (he:List LK) (b:Bool) (hi:Qzw P ops i st=some (n,m,z0,w,bytes)) (hz0:Q2 he z0=enc z)
  (hS:Z5 ops i st (some (.ref st.objs.length 0 (List.replicate n.toNat z).length)) [(st.objs.length,.row false false z0.nr (b && z0.scs) w ((List.replicate n.toNat z).map enc))]=some S) (hl:Nat.beq S.objs.length (st.objs.length+1)=true)
  (h:(if 0≤n∧n≤m∧m*bytes≤140737488355328 then A else none)=some r) (k:A=some r→RW P rd base ops (Zf d [([st.objs.length],[])]) (i+1) S Φ):RW P rd base ops d i st Φ:=by
 split at h
 ·rename_i hc
  obtain ⟨c1,c2,c3⟩:=hc
  unfold Qzw at hi
  split at hi
  ·rename_i o ho
   split at hi
   ·rename_i t x y hop
    split at hi
    ·rename_i T k1 n' k2 m' hT hx hy
     split at hi
     ·rename_i e hk
      split at hi
      ·rename_i E hE
       split at hi
       ·rename_i z1 hz
        split at hi
        ·rename_i hb
         simp only [Bool.and_eq_true] at hb
         simp only [Option.some.injEq,Prod.mk.injEq] at hi
         obtain ⟨rfl,rfl,rfl,rfl,rfl⟩:=hi
         refine Qts (nf:=false) (v:=some (.ref st.objs.length 0 (List.replicate n'.toNat z1).length)) (eff:=[(st.objs.length,.row false false z1.nr z1.scs E.size (List.replicate n'.toNat z1))]) (fr:=st.objs.length+1) (rds:=[]) [] he b noC_sound ho ?_ ?_ (Nat.eq_of_beq_eq_true hl) (by simpa using k h)
         ·have hb0:=Yd hb.2
          have g1:¬ n' < 0:=by omega
          have g2:¬ m' < 0:=by omega
          have c3':m'.toNat * E.bytes≤140737488355328:=by
           have:((m'.toNat * E.bytes:Nat):Int)≤140737488355328:=by
            rw [Int.natCast_mul,Int.toNat_of_nonneg (by omega)]; exact c3
           omega
          have g3:=Qfj hb0 c3'
          have g4:Nat.ble n'.toNat m'.toNat = true:=Qaf (by omega)
          have g5:Nat.ble m'.toNat 9223372036854775807=true:=by
           refine Qaf ?_
           have:=Nat.le_mul_of_pos_right m'.toNat hb0
           omega
          have g6:=hb.1.1
          have g7:=hb.1.2
          unfold Z0
          rw [hop]
          simp only [Xd,Bool.false_eq_true,if_false]
          unfold evalOp
          rw [hop]
          simp only [hT,hx,hy,hk,asN,g1,g2,if_false,hE,hz,g3,g4,g5,g6,g7,Bool.and_self,if_true,Z7,List.length_replicate]
         ·have e1:(List.replicate n'.toNat z1).map (Q2 he)=(List.replicate n'.toNat z).map enc:=by simp [List.map_replicate,hz0]
          have e2:(List.replicate n'.toNat z1).length=(List.replicate n'.toNat z).length:=by simp
          simp only [X6,e1,e2,Option.map_some,Q2]
          exact hS
        ·cases hi
       ·cases hi
      ·cases hi
     ·cases hi
    ·cases hi
   ·cases hi
  ·cases hi
 ·cases h
def Wk (P:Program) (base:Nat) (st st':St):Prop :=
 ∀B W0 D0 dl M ι a W,Sim P B W0 D0 dl M ι st a W→∃M' ι',CM.Grow B M M'∧Inj.leB base ι ι'∧Sim P B W0 D0 dl M' ι' st' a W
theorem Zq:Wk P base st st:=fun B W0 D0 dl M ι a W h=>⟨M,ι,.refl _ _,.refl _ _,h⟩
theorem Q3 (h1:Wk P base st st1) (h2:Wk P base st1 st'):Wk P base st st':=fun B W0 D0 dl M ι a W h=>by
 obtain ⟨M1,ι1,m1,e1,g1⟩:=h1 B W0 D0 dl M ι a W h
 obtain ⟨M2,ι2,m2,e2,g2⟩:=h2 B W0 D0 dl M1 ι1 a W g1
 exact ⟨M2,ι2,m1.trans m2,e1.trans e2,g2⟩
theorem Q4 {live keep:List Nat} (hg:Qet base live keep st=some st'):Wk P base st st':=fun B W0 D0 dl M ι a W h=>let ⟨ι',e,g⟩:=h.gc hg; ⟨M,ι',.refl _ _,e,g⟩
theorem exec_wk (hk:Wk P base st st') (h:Xe P rd base c st' out):Xe P rd base c st out:=by
 intro B W0 D0 dl M ι a W n Q r hs hr hp
 obtain ⟨M',ι',hM,hι,hs'⟩:=hk B W0 D0 dl M ι a W hs
 exact h B W0 D0 dl M' ι' a W n Q r hs' (hr.mono hι) (hp.step hM hι (List.suffix_refl _))
theorem loopX_wk (hk:Wk P base st st') (h:Qi0 P rd base c st' out):Qi0 P rd base c st out:=by
 obtain ⟨m,hm⟩:=h
 refine ⟨m,?_⟩
 intro B W0 D0 dl M ι a W n Q r hs hr hp
 obtain ⟨M',ι',hM,hι,hs'⟩:=hk B W0 D0 dl M ι a W hs
 exact hm B W0 D0 dl M' ι' a W n Q r hs' (hr.mono hι) (hp.step hM hι (List.suffix_refl _))
theorem Qdz (hk:Wk P base st st') (h:WP P rd base c st' Φ):WP P rd base c st Φ:=let ⟨o,h1,h2⟩:=h; ⟨o,exec_wk hk h1,h2⟩
theorem Qkn (hk:Wk P base st st') (h:LWP P rd base c st' Φ):LWP P rd base c st Φ:=let ⟨o,h1,h2⟩:=h; ⟨o,loopX_wk hk h1,h2⟩
theorem Sim.lt {B:Nat} {W0 W:World} {D0 dl:List Nat} {M:CM} {ι:Inj} {a:Act} {o:Nat} {x:AObj} (h:Sim P B W0 D0 dl M ι st a W) (ho:st.objs[o]?=some x):o < BIG:=Nat.lt_of_lt_of_le (List.getElem?_eq_some_iff.1 ho).1 h.big
theorem Qcv {objs:List AObj} {o:Nat} {x:AObj} (hb:o < BIG) (ho:objs[o]?=some x) (hx:x.isPlain=true):sto objs o=some x:=by rw [Zr hb,ho]; simp [Qfz hx]
def Qjf:AV→Bool
 | .nils | .emp=>true
 | _=>false
theorem Qkk {M:CM} {ι:Inj} {v:Value} {x:AV} (h:Qjf x=true) (hr:Qa M ι v x):∃a,v=.slice a 0 0:=by
 cases x <;> simp [Qjf] at h
 ·exact ⟨none,hr.nils_inv⟩
 ·exact hr.emp_inv
def Qvq (t w:Nat) (nr fl:Bool) (st:St):Option St :=
 match lk st.slots t with
 | some x=>if Qjf x && Nat.blt 0 w && Nat.blt st.objs.length BIG then some ⟨setS st.slots t (.ref st.objs.length 0 0),st.objs++[.row false false nr fl w []],st.nt⟩ else none
 | none=>none
theorem Sim.virt {B:Nat} {W0 W:World} {D0 dl:List Nat} {M:CM} {ι:Inj} {a:Act} (h:Sim P B W0 D0 dl M ι st a W) (nr fl:Bool) {w:Nat} (hw:0 < w) (hb:st.objs.length < BIG) :
  ∃p,ι st.objs.length=none∧p.cap=0∧Sim P B W0 D0 dl M (ι.put st.objs.length p) ⟨st.slots,st.objs++[.row false false nr fl w []],st.nt⟩ a W:=by
 have hn:=h.new st.objs.length (InB.not (Nat.le_refl _) hb)
 refine ⟨⟨B,0,w,0⟩,hn,rfl,⟨?_,fun k y hk=>(h.slots k y hk).mono (CM.le_refl _) (Inj.le_put _ hn),h.nt,h.df,fun k hk=>?_,by simp; omega⟩⟩
 ·show Rel P B W0 (dl++D0) M _ (sto (st.objs++[_])) W
  rw [Qid rfl hb]
  exact h.rel.virt hn hw
 ·have hk:¬ InB (st.objs.length+1) k:=by simpa using hk
  rw [Inj.put_ne _ _ (fun e=>hk (.inl (by omega)))]; exact h.new k (fun c=>hk (c.mono (Nat.le_succ _)))
theorem Zv (t w:Nat) (nr fl:Bool) (h:Qvq t w nr fl st=some st'):Wk P base st st':=by
 unfold Qvq at h
 split at h
 ·rename_i x hx
  split at h
  ·rename_i hc
   simp only [Bool.and_eq_true] at hc
   cases h
   intro B W0 D0 dl M ι a W hsim
   obtain ⟨p,hn,hp,hv⟩:=hsim.virt nr fl (Yd hc.1.2) (Yd hc.2)
   obtain ⟨ad,had⟩:=Qkk hc.1.1 (hsim.slots t x hx)
   refine ⟨M,_,.refl _ _,(Inj.le_put p hn).leB base,⟨hv.rel,fun k y hk=>?_,hv.nt,hv.df,hv.new,hv.big⟩⟩
   have hk:lk (setS st.slots t (.ref st.objs.length 0 0)) k=some y:=hk
   rw [Qca] at hk
   split at hk
   ·rename_i e; cases hk; subst e; rw [had]; exact .ref0 _ _ _ (Inj.put_same _ _ _) hp
   ·exact hv.slots k y hk
  ·cases h
 ·cases h
def Qxv (o i c w:Nat) (nr fl:Bool) (st:St):Option St :=
 match st.objs[o]? with
 | some (.row bx false nr0 fl0 w0 xs)=>match xs[i]? with
  | some x=>match x.flat[c]? with
   | some y=>if Qjf y && Nat.blt 0 w && Nat.blt st.objs.length BIG then match Qd7 x c (.ref st.objs.length 0 0) with
     | some x'=>some ⟨st.slots,st.objs.set o (.row bx false false false w0 (xs.set i x'))++[.row false false nr fl w []],st.nt⟩
     | none=>none
    else none
   | none=>none
  | none=>none
 | _=>none
theorem Qb9 (o i c w:Nat) (nr fl:Bool) (h:Qxv o i c w nr fl st=some st'):Wk P base st st':=by
 unfold Qxv at h
 split at h
 ·rename_i bx nr0 fl0 w0 xs ho
  split at h
  ·rename_i x hx
   split at h
   ·rename_i y hy
    split at h
    ·rename_i hc
     split at h
     ·rename_i x' hx'
      simp only [Bool.and_eq_true] at hc
      cases h
      intro B W0 D0 dl M ι a W hsim
      obtain ⟨p,hn,hp,hv⟩:=hsim.virt nr fl (Yd hc.1.2) (Yd hc.2)
      have hlt:=(List.getElem?_eq_some_iff.1 ho).1
      refine ⟨M,_,.refl _ _,(Inj.le_put p hn).leB base,⟨?_,hv.slots,hv.nt,hv.df,fun k hk=>hv.new k (by simpa using hk),by simpa using hv.big⟩⟩
      show Rel P B W0 (dl++D0) M _ (sto (st.objs.set o _++[_])) W
      have hob:=hsim.lt ho
      have ho1:(st.objs++[AObj.row false false nr fl w []])[o]?=some (.row bx false nr0 fl0 w0 xs):=by rw [List.getElem?_append_left hlt]; exact ho
      have hos:=Qcv hob ho1 rfl
      have e1:sto (st.objs.set o (.row bx false false false w0 (xs.set i x'))++[AObj.row false false nr fl w []])=Sto.put (sto (st.objs++[AObj.row false false nr fl w []])) o (.row bx false false false w0 (xs.set i x')):=by
       rw [←Qci ho1 rfl rfl hob,List.set_append_left _ _ hlt]
      rw [e1]
      have hrel:=hv.rel
      obtain ⟨q,hq,hrow⟩:=hrel.row o bx false nr0 fl0 w0 xs hos
      have hxm:=List.mem_of_getElem? hx
      obtain ⟨g1,g2,g3⟩:=Qhg hx' (hrow.shaped x hxm) ⟨.inr rfl,rfl,fun z hz=>by simp [AV.flat] at hz; subst hz; rfl⟩
      have hil:=(List.getElem?_eq_some_iff.1 hx).1
      have hcap:i*w0+w0≤q.cap*w0:=by
       have:(i+1)*w0≤q.cap*w0:=Nat.mul_le_mul_right _ (by have:=hrow.len; omega)
       rwa [Nat.succ_mul] at this
      have key:=hrel.write (bx':=bx) (nr':=false) (fl':=false) (xs':=xs.set i x') hos hq 0 [] (by simp) (by simpa using hrow.len)
       (fun z hz=>by
        rcases List.mem_or_eq_of_mem_set hz with hz | rfl
        ·exact hrow.shaped z hz
        ·exact g1) (by simp) (by simp)
       (fun k j z r hk hj hlo hhi=>by simp at hhi)
       (fun k j z r hk hj hout=>by
        by_cases e:k=i
        ·subst e
         rw [List.getElem?_set_self hil] at hk
         cases hk
         rcases g3 j r hj with ⟨b1,b2,b3⟩ | ⟨b1,b2⟩
         ·have hj0:j=c:=by simp [AV.flat] at b2; omega
          subst hj0
          simp [AV.flat] at b3
          subst b3
          obtain ⟨v,hv',hr⟩:=hrow.cells k j x y hx hy
          obtain ⟨ad,had⟩:=Qkk hc.1.1 hr
          exact ⟨v,by rw [←Nat.add_assoc]; exact hv',by rw [had]; exact .ref0 _ _ _ (Inj.put_same _ _ _) hp⟩
         ·obtain ⟨v,hv',hr⟩:=hrow.cells k j x r hx b2
          exact ⟨v,by rw [←Nat.add_assoc]; exact hv',hr⟩
        ·rw [List.getElem?_set_ne (Ne.symm e)] at hk
         obtain ⟨v,hv',hr⟩:=hrow.cells k j z r hk hj
         exact ⟨v,by rw [←Nat.add_assoc]; exact hv',hr⟩)
      exact key
     ·cases h
    ·cases h
   ·cases h
  ·cases h
 ·cases h
noncomputable def Qnn (t:Nat) (y:AV) (ids:List Nat) (st:St):Option St :=
 match frz st.sto ids with
 | some es=>match Y5 st.objs es with
  | some objs=>some ⟨setS st.slots t y,objs,st.nt⟩
  | none=>none
 | none=>none
theorem Q24 (t:Nat) {x y:AV} {ids:List Nat} (hx:lk st.slots t=some x) (hsn:Qu st.sto Qs x=some (y,ids)) (h:Qnn t y ids st=some st'):Wk P base st st':=by
 unfold Qnn at h
 split at h
 ·rename_i es hes
  split at h
  ·rename_i objs ha
   cases h
   intro B W0 D0 dl M ι a W hsim
   obtain ⟨p1,p2,p3⟩:=Jj _ _ _ ha
   have h':=Qad hsim.rel hes
   have hg:=hsim.rel.growC ids
   refine ⟨_,ι,hg,.refl _ _,⟨?_,fun k z hk=>?_,hsim.nt,hsim.df,fun k hk=>hsim.new k (fun c=>hk (c.mono p2)),p3 hsim.big⟩⟩
   ·show Rel P B W0 (dl++D0) _ ι (sto objs) W
    rw [p1]; exact h'
   ·have hk:lk (setS st.slots t y) k=some z:=hk
    rw [Qca] at hk
    split at hk
    ·rename_i e; cases hk; subst e
     exact (Ys hsim.rel ids Qs x y ids _ hsn (fun k hk=>hk) (hsim.slots _ x hx)).mono (CM.le_refl _) (Inj.noInj_le _)
    ·exact (hsim.slots k z hk).mono hg.le (Inj.le_refl _)
  ·cases h
 ·cases h
noncomputable def Qo5 (o i:Nat) (y:AV) (ids:List Nat) (st:St):Option St :=
 match frz st.sto ids with
 | some es=>match Y5 st.objs es with
  | some objs=>match objs[o]? with
   | some (.row bx false nr fl w xs)=>some ⟨st.slots,objs.set o (.row bx false false false w (xs.set i y)),st.nt⟩
   | _=>none
  | none=>none
 | none=>none
theorem Q1b (o i:Nat) {bx ro nr fl:Bool} {w:Nat} {xs:List AV} {x y:AV} {ids:List Nat} (ho:st.sto o=some (.row bx ro nr fl w xs)) (hx:xs[i]?=some x) (hno:Qdu ids o=false) (hsn:Qu st.sto Qs x=some (y,ids)) (h:Qo5 o i y ids st=some st'):Wk P base st st':=by
 unfold Qo5 at h
 split at h
 ·rename_i es hes
  split at h
  ·rename_i objs ha
   split at h
   ·rename_i bx' nr' fl' w' xs' ho'
    cases h
    intro B W0 D0 dl M ι a W hsim
    obtain ⟨p1,p2,p3⟩:=Jj _ _ _ ha
    have h':=Qad hsim.rel hes
    have hg:=hsim.rel.growC ids
    have hos':=Qcv (Nat.lt_of_lt_of_le (List.getElem?_eq_some_iff.1 ho').1 (p3 hsim.big)) ho' rfl
    have hob:o < BIG:=Nat.lt_of_lt_of_le (List.getElem?_eq_some_iff.1 ho').1 (p3 hsim.big)
    have hsame:sto objs o=sto st.objs o:=by
     have e1:sto objs o=Sto.puts st.sto es o:=congrFun p1 o
     rw [e1]
     exact K8 hes (Qem hno)
    have ho:sto st.objs o=some (.row bx ro nr fl w xs):=ho
    rw [hos',ho] at hsame
    cases hsame
    have hlt:=(List.getElem?_eq_some_iff.1 ho').1
    have h'':Rel P B W0 (dl++D0) (Zw M W (inC st.sto ι ids)) ι (sto objs) W:=by rw [p1]; exact h'
    obtain ⟨p,hp,hrow⟩:=h''.row o _ false nr fl w xs hos'
    have hxm:=List.mem_of_getElem? hx
    have hil:=(List.getElem?_eq_some_iff.1 hx).1
    obtain ⟨q1,q2⟩:=Kh hsn (hrow.shaped x hxm)
    refine ⟨_,ι,hg,.refl _ _,⟨?_,hsim.slots.mono hg.le (Inj.le_refl _),hsim.nt,hsim.df,fun k hk=>hsim.new k (fun c=>hk ((c.mono p2).mono (by simp))),by simpa using p3 hsim.big⟩⟩
    show Rel P B W0 (dl++D0) _ ι (sto (objs.set o _)) W
    rw [Qci ho' rfl rfl hob]
    refine h''.write (c0:=0) (vs:=[]) hos' hp (by simp) (by simpa using hrow.len) (fun z hz=>?_) (by simp) (by simp) (fun k j z r hk hj hlo hhi=>by simp at hhi) (fun k j z r hk hj hout=>?_)
    ·rcases List.mem_or_eq_of_mem_set hz with hz | rfl
     ·exact hrow.shaped z hz
     ·exact q1
    ·by_cases e:k=i
     ·subst e
      rw [List.getElem?_set_self hil] at hk
      cases hk
      obtain ⟨c,d',is,e1,e2,e3,e4⟩:=q2 j r hj
      obtain ⟨q,hq,hrow0⟩:=hsim.rel.row o bx false nr fl w xs ho
      rw [hp] at hq; cases hq
      obtain ⟨v,hv,hr⟩:=hrow0.cells k j x c hx e1
      exact ⟨v,by rw [←Nat.add_assoc]; exact hv,(Ys hsim.rel ids d' c r is v e3 e4 hr).mono (CM.le_refl _) (Inj.noInj_le _)⟩
     ·rw [List.getElem?_set_ne (Ne.symm e)] at hk
      obtain ⟨v,hv,hr⟩:=hrow.cells k j z r hk hj
      exact ⟨v,by rw [←Nat.add_assoc]; exact hv,hr⟩
   ·cases h
  ·cases h
 ·cases h
end
end Go.Ab
