/- Rules. No conditions. -/
import Derived.Test.YtgogkahhifkocaaDoorEng7
import Derived.Test.YtgogkahhifkocaaDoorEng8
set_option linter.all false
namespace Go.Ab
open Go.RowKit
theorem Xf.trans {ops:Array Oper} {i m k:Nat} (h:Xf ops i m) (h2:Xf ops m k):Xf ops i k:=by
 induction h2 with
 | one hj he hb hon=>exact .more hj he hb (hon ▸ h)
 | more hj he hb _ ih=>exact .more hj he hb ih
def Qoe (ops:Array Oper) (b i:Nat):Bool:=match ops[b]? with
 | some o=>o.after.any fun e=>Region.binds .any e && Nat.beq e.on i
 | none=>false
theorem Qd5 {ops:Array Oper} {b i:Nat} (h:Qoe ops b i=true):Xf ops i b:=by
 unfold Qoe at h
 split at h
 ·rename_i o ho
  obtain ⟨e,he,hb⟩:=Array.any_eq_true'.1 h
  simp only [aE] at hb
  exact .one ho he hb.1 (aJ hb.2)
 cases h
def Qsj (ops:Array Oper):Nat -> List Nat -> Bool
 | 0,_=>true
 | i+1,B=>B.any (fun b=>Qoe ops b i) && Qsj ops i (i::B)
def upB (ops:Array Oper):Nat -> Nat -> List Nat -> Bool
 | 0,_,_=>true
 | m+1,k,B=>B.any (fun b=>Qoe ops k b) && upB ops m (k+1) (k::B)
theorem Qpf {ops:Array Oper} {j:Nat}:∀(i:Nat) (B:List Nat),(∀b∈B,b=j\/Xf ops b j)->Qsj ops i B=true->∀k,k < i->Xf ops k j
 | 0,_,_,_,k,h=>by omega
 | i+1,B,hB,h,k,hk=>by
  simp only [Qsj,aE,bP] at h
  obtain ⟨⟨b,hb,he⟩,h2⟩:=h
  have hi:Xf ops i j:=by
   rcases hB b hb with rfl | h3
   ·exact Qd5 he
   exact (Qd5 he).trans h3
  by_cases e:k=i
  ·subst e; exact hi
  exact Qpf i (i::B) (fun b hb=>(cC.1 hb).elim (fun e=>.inr (e ▸ hi)) (hB b)) h2 k (by omega)
theorem Quc {ops:Array Oper} {j:Nat}:∀(m k:Nat) (B:List Nat),(∀b∈B,b=j\/Xf ops j b)->upB ops m k B=true->∀q,k<=q->q < k+m->Xf ops j q
 | 0,_,_,_,_,q,h,h'=>by omega
 | m+1,k,B,hB,h,q,hq,hq'=>by
  simp only [upB,aE,bP] at h
  obtain ⟨⟨b,hb,he⟩,h2⟩:=h
  have hk:Xf ops j k:=by
   rcases hB b hb with rfl | h3
   ·exact Qd5 he
   exact h3.trans (Qd5 he)
  by_cases e:q=k
  ·subst e; exact hk
  exact Quc m (k+1) (k::B) (fun b hb=>(cC.1 hb).elim (fun e=>.inr (e ▸ hk)) (hB b)) h2 q (by omega) (by omega)
def Qvr (j:Nat) (l:List Oper):Bool:=l.all fun o=>match o.guard with | some (g,_)=>Nat.blt g j | none=>true
def cutB (ops:Array Oper) (j:Nat):Bool:=Nat.blt j ops.size && Qp0 (ops.extract 0 j) && Qvr j (ops.extract 0 j).toList && Qsj ops j [j] && upB ops (ops.size - (j+1)) (j+1) [j] && forced ops (ops.size - j) j (X5 ops.size j)
section
variable {F:Fence} {n:Nat} {P:Program} {ops:Array Oper} {Q Q':Exit->Act->World->Prop}
theorem Qx4 {o:Oper} {a:Act} {w:World} {K K':Act->World->Prop} (h:∀a w,K a w->K' a w) (hq:∀e a w,e≠.normal->Q e a w->Q' e a w) (hh:o.wpIn F n P a w K Q):o.wpIn F n P a w K' Q':=by
 have lo:LetsOut Q->LetsOut Q':=fun ⟨a,w,h⟩=>⟨a,w,hq _ _ _ (by simp) h⟩
 unfold Oper.wpIn at *
 refine ⟨hh.1,?_⟩
 have hh:=hh.2
 generalize (o.semAt F.round a.eval).run P w=r at *
 cases r with
 | ok x w' =>
  cases x <;> simp only [Oper.uponIn] at hh ⊢ <;>
   first
    | exact h _ _ hh
    | exact ⟨hh.1,CallsIn.mono hh.2 (fun e w'' he=>by cases e <;> first | exact h _ _ he | exact hq _ _ _ (by simp) he | exact lo he)⟩
    | exact ⟨hh.1,RowsIn.mono hh.2 (fun _ _ he=>h _ _ he)⟩
    | exact ⟨hh.1,RoundIn.mono hh.2 (fun e w'' he=>by cases e <;> first | exact h _ _ he | exact hq _ _ _ (by simp) he | exact lo he)⟩
 | halt x w'=>cases x <;> simp only [Oper.uponIn] at hh ⊢ <;> first | exact hq _ _ _ (by simp) hh | exact hh
theorem Quv:∀(fuel:Nat) (L:Array Bool) (a:Act) (w:World),wpAnyIn F n P .any ops Q fuel L a w->wpAnyIn F n P .any ops Q (fuel+1) L a w
 | 0,L,a,w,h=>⟨fun _=>h.2,fun i hi=>by rw [h.1] at hi; cases hi⟩
 | fuel+1,L,a,w,h=>⟨h.1,fun i hi=>wpOpIn_mono (fun a w g=>Quv fuel _ a w g) (h.2 i hi)⟩
theorem Qrm (m:Nat):∀(k:Nat) {L:Array Bool} {a:Act} {w:World},wpAnyIn F n P .any ops Q m L a w->wpAnyIn F n P .any ops Q (k+m) L a w
 | 0,L,a,w,h=>by rw [dR]; exact h
 | k+1,L,a,w,h=>by rw [show k+1+m=(k+m)+1 by omega]; exact Quv _ _ _ _ (Qrm m k h)
theorem Qov:∀(m k:Nat) (L:Array Bool) (a:Act) (w:World),forced ops m k L=true->wpOpsIn F n P ops Q (List.range' k m) a w->wpAnyIn F n P .any ops Q m L a w
 | 0,k,L,a,w,hf,h=>⟨by simpa [forced] using hf,by simpa [wpOpsIn] using h⟩
 | m+1,k,L,a,w,hf,h=>by
  simp only [forced,aE] at hf
  obtain ⟨h1,h2⟩:=hf
  have hr:Region.ready .any ops L=[k]:=by
   split at h1
   ·rename_i i hi; rw [hi,aJ h1]
   cases h1
  refine ⟨fun e=>(by rw [hr] at e; cases e),fun i hi=>?_⟩
  rw [hr] at hi
  simp only [bU] at hi
  subst hi
  rw [List.range'_succ,wpOpsIn_cons] at h
  exact wpOpIn_mono (fun a w g=>Qov m (i+1) _ a w h2 g) h
def Qa5 (n:Nat) (L:Array Bool):Array Bool:=L++Array.replicate (n - L.size) false
theorem Qga {N:Nat} {L:Array Bool} (hN:L.size<=N) {i:Nat} {b:Bool}:(Qa5 N L).getD i b=if i < L.size then L.getD i b else if i < N then false else b:=by
 unfold Qa5
 simp only [bC]
 by_cases h:i < L.size
 ·rw [aH h,dV h]
 rw [aI h,Array.getElem?_append_right (by omega)]
 by_cases h2:i < N
 ·rw [aH h2,Array.getElem?_replicate,aH (by omega)]; rfl
 rw [aI h2,Array.getElem?_replicate,aI (by omega)]; rfl
theorem Qwh {N i:Nat} {L:Array Bool} (hi:i < L.size):(Qa5 N L).setIfInBounds i true=Qa5 N (L.setIfInBounds i true):=by
 unfold Qa5
 rw [Array.setIfInBounds_append_left (by omega),Array.size_setIfInBounds]
theorem Qf4 {j i:Nat} (hj:j<=ops.size) (hi:i < j):(ops.extract 0 j)[i]?=ops[i]?:=by
 rw [Array.getElem?_extract]
 simp; omega
theorem Q4a {j m:Nat} (hj:j < ops.size) (hlex:Qjs 0 ((ops.extract 0 j).toList.map (Jk (ops.extract 0 j)))=true) (hg:Qvr j (ops.extract 0 j).toList=true)
  (hB:∀i k,i < j->j<=k->k < ops.size->Xf ops i k) (hn:∀a w,Q' .normal a w->wpAnyIn F n P .any ops Q m (X5 ops.size j) a w) (hq:∀e a w,e≠.normal->Q' e a w->Q e a w) :
  ∀(fuel:Nat) (L:Array Bool) (a:Act) (w:World),L.size=j->Qbe ops (Qa5 ops.size L)->wpAnyIn F n P .any (ops.extract 0 j) Q' fuel L a w->wpAnyIn F n P .any ops Q (fuel+m) (Qa5 ops.size L) a w:=by
 have hsz:(ops.extract 0 j).size=j:=by simp; omega
 have hedge:∀i o,i < j->ops[i]?=some o->∀e∈o.after,Region.binds .any e=true->e.on < i:=fun i o hi ho e he hb=>by
  have h1:=(Qns (ops:=ops.extract 0 j) _ 0 hlex i (Jk (ops.extract 0 j) o) (by
   rw [bD,cX,Qf4 (by omega) hi,ho]; rfl)).1 e.on (by
   simp only [Jk,cD,cN]
   exact ⟨e,⟨Array.mem_toList_iff.2 he,hb⟩,rfl⟩)
  omega
 have hall:∀L:Array Bool,L.size=j->Region.ready .any (ops.extract 0 j) L=[]->∀i,i < j->L.getD i true=true:=fun L hL hr=>by
  intro i
  induction i using Nat.strongRecOn with
  | _ i ih =>
   intro hi
   apply Classical.byContradiction
   intro hno
   have hi':i < ops.size:=by omega
   have:i∈Region.ready .any (ops.extract 0 j) L:=by
    rw [mem_ready]
    refine ⟨by simpa using hno,ops[i],by rw [Qf4 (by omega) hi]; exact aL hi',fun e he hb=>?_⟩
    have hlt:=hedge i ops[i] hi (aL hi') e he hb
    have:=ih e.on hlt (by omega)
    simp only [bC] at this ⊢
    rw [aL (by omega)] at this ⊢
    simpa using this
   rw [hr] at this; cases this
 have hpad:∀L:Array Bool,L.size=j->(∀i,i < j->L.getD i true=true)->Qa5 ops.size L=X5 ops.size j:=fun L hL h=>by
  apply Array.ext_getElem?
  intro i
  have h1:∀b,(Qa5 ops.size L).getD i b=(X5 ops.size j).getD i b:=fun b=>by
   rw [Qga (by omega),Qah,hL]
   by_cases c:i < j
   ·rw [aH c,aH (by omega)]
    have:=h i c
    simp only [bC] at this ⊢
    rw [aL (by omega)] at this ⊢
    simpa [c] using this
   rw [aI c]
   by_cases c2:i < ops.size
   ·rw [aH c2,aH c2]; simp [c]
   rw [aI c2,aI c2]
  have a1:=h1 true
  have a2:=h1 false
  simp only [bC] at a1 a2
  cases e1:(Qa5 ops.size L)[i]? with
  | none =>
   cases e2:(X5 ops.size j)[i]? with
   | none=>rfl
   | some y=>rw [e1,e2] at a1 a2; cases y <;> simp at a1 a2
  | some x =>
   cases e2:(X5 ops.size j)[i]? with
   | none=>rw [e1,e2] at a1 a2; cases x <;> simp at a1 a2
   | some y=>rw [e1,e2] at a1; simpa using a1
 have hready:∀L:Array Bool,L.size=j->Qbe ops (Qa5 ops.size L)->(∃i,i < j/\L.getD i true=false)->∀k,k∈Region.ready .any ops (Qa5 ops.size L)↔k∈Region.ready .any (ops.extract 0 j) L:=fun L hL hcl ⟨i0,h0,hi0⟩ k=>by
  have hpi:(Qa5 ops.size L).getD i0 true=false:=by rw [Qga (by omega),aH (by omega)]; exact hi0
  constructor
  ·intro hk
   have hkj:k < j:=by
    apply Nat.lt_of_not_le
    intro hle
    have hks:k < ops.size:=by
     obtain ⟨_,ok,hok,_⟩:=mem_ready.1 hk
     exact (aY.1 hok).1
    exact Qn9 hcl hk hpi (hB i0 k h0 hle hks)
   obtain ⟨h1,ok,hok,h2⟩:=mem_ready.1 hk
   refine mem_ready.2 ⟨?_,ok,by rw [Qf4 (by omega) hkj]; exact hok,fun e he hb=>?_⟩
   ·rw [Qga (by omega),aH (by omega)] at h1; exact h1
   have:=h2 e he hb
   have hlt:=hedge k ok hkj hok e he hb
   rw [Qga (by omega),aH (by omega)] at this; exact this
  intro hk
  obtain ⟨h1,ok,hok,h2⟩:=mem_ready.1 hk
  have hkj:k < j:=by have:=(aY.1 hok).1; omega
  rw [Qf4 (by omega) hkj] at hok
  refine mem_ready.2 ⟨?_,ok,hok,fun e he hb=>?_⟩
  ·rw [Qga (by omega),aH (by omega)]; exact h1
  have hlt:=hedge k ok hkj hok e he hb
  rw [Qga (by omega),aH (by omega)]; exact h2 e he hb
 intro fuel
 induction fuel with
 | zero =>
  intro L a w hL hcl h
  rw [dR,hpad L hL (hall L hL h.1)]
  exact hn a w h.2
 | succ fuel ih =>
  intro L a w hL hcl h
  by_cases hx:∃i,i < j/\L.getD i true=false
  ·have hr:=hready L hL hcl hx
   rw [show fuel+1+m=(fuel+m)+1 by omega]
   refine ⟨fun he=>?_,fun i hi=>?_⟩
   ·have hemp:Region.ready .any (ops.extract 0 j) L=[]:=List.eq_nil_iff_forall_not_mem.2 fun k hk=>by
     have:=(hr k).2 hk
     rw [he] at this; cases this
    obtain ⟨i,h1,h2⟩:=hx
    rw [hall L hL hemp i h1] at h2; cases h2
   have hi':=(hr i).1 hi
   have h1:=h.2 i hi'
   obtain ⟨_,oi,hoi,_⟩:=mem_ready.1 hi'
   have hij:i < j:=by have:=(aY.1 hoi).1; omega
   have hoi':=hoi
   rw [Qf4 (by omega) hij] at hoi'
   have hy:Region.wanted oi (yielded (ops.extract 0 j) a.tmps)=Region.wanted oi (yielded ops a.tmps):=by
    unfold Region.wanted
    cases hgd:oi.guard with
    | none=>rfl
    | some gw =>
     obtain ⟨g,want⟩:=gw
     have hmem:oi∈(ops.extract 0 j).toList:=Array.mem_toList_iff.2 (Array.mem_of_getElem? hoi)
     have:=bO.1 hg oi hmem
     rw [hgd] at this
     have hgj:g < j:=by simpa [Nat.blt_eq] using this
     simp only [yielded]
     rw [Qf4 (by omega) hgj]
   unfold wpOpIn at h1 ⊢
   simp only [hoi,hoi'] at h1 ⊢
   rw [hy] at h1
   have hnext:∀a w,wpAnyIn F n P .any (ops.extract 0 j) Q' fuel (L.setIfInBounds i true) a w->wpAnyIn F n P .any ops Q (fuel+m) ((Qa5 ops.size L).setIfInBounds i true) a w:=fun a w g=>by
    rw [Qwh (by omega)]
    refine ih _ a w (by simpa using hL) ?_ g
    rw [<-Qwh (by omega)]
    exact hcl.add hi
   split at h1
   ·rename_i hw; rw [aH hw]; exact Qx4 hnext hq h1
   rename_i hw; rw [aI hw]; exact ⟨h1.1,hnext _ _ h1.2⟩
  have hall':∀i,i < j->L.getD i true=true:=fun i hi=>by
   cases e:L.getD i true with
   | true=>rfl
   | false=>exact absurd ⟨i,hi,e⟩ hx
  have hemp:Region.ready .any (ops.extract 0 j) L=[]:=List.eq_nil_iff_forall_not_mem.2 fun k hk=>by
   obtain ⟨h1,ok,hok,_⟩:=mem_ready.1 hk
   have hkj:k < j:=by have:=(aY.1 hok).1; omega
   rw [hall' k hkj] at h1; cases h1
  rw [hpad L hL hall']
  exact Qrm m (fuel+1) (hn a w (h.1 hemp))
end
section
variable {P:Program} {rd:Option Nat} {base:Nat} {ops:Array Oper} {st st':St} {Φ:AOut->Prop}
theorem Q1p {fs:List Foot} {ss:List Sk} (hB:Region.lexB .any ops=true) (hrun:Qpw P ops ops.toList st fs st') (hcov:Qn3 fs ss) (hcomp:Qcf ops.toList ss=true)
  {B:Nat} {W0:World} {D0 dl:List Nat} {M:CM} {ι:Inj} {a:Act} {W:World} {n:Nat} {Q:Exit->Act->World->Prop} {r:Option Nat} (hs:Sim P B W0 D0 dl M ι st a W)
  (hp:∀M' ι' a' W',CM.Grow B M M'->Inj.leB base ι ι'->Sim P B W0 D0 dl M' ι' st' a' W'->Q .normal a' W') :
  wpAnyIn (FW r) n P .any ops Q ops.size (Array.replicate ops.size false) a W:=by
 simp only [Qcf,aE] at hcomp
 have hcomp:=Qe5 (ops:=ops) 0 ops.toList _ _ hcov hcomp.1 hcomp.2 (fun q=>by simp)
 obtain ⟨r1,r2,r3,r4,rb,r5⟩:=Qla _ _ _ _ hrun
 have hbig:=rb hs.big
 have hdef:∀i,i < ops.size->fs[i]?=some (fs.getD i ⟨none,[],st'.objs.length,st'.objs.length,[]⟩):=fun i hi=>by
  rw [List.getD_eq_getElem?_getD,aG (by simp [r1]; exact hi)]; rfl
 have hout:∀i,ops.size<=i->fs.getD i ⟨none,[],st'.objs.length,st'.objs.length,[]⟩=⟨none,[],st'.objs.length,st'.objs.length,[]⟩:=fun i hi=>by
  rw [List.getD_eq_getElem?_getD,dL (by simp [r1]; exact hi)]; rfl
 have hrunA:=r5 (fun i=>fs.getD i ⟨none,[],st'.objs.length,st'.objs.length,[]⟩) 0 (fun j hj=>by simpa using hdef j (by simpa using hj))
 simp only [Region.lexB,aE] at hB
 have hA:=Qjj (P:=P) (ops:=ops) (Ft:=fun i=>fs.getD i ⟨none,[],st'.objs.length,st'.objs.length,[]⟩) (Q:=fun s σ=>s=lk st'.slots/\σ=sto st'.objs) (fun i j oj hij hj hno=>?_) ops.toList 0 (Array.replicate ops.size false) (lk st.slots) (sto st.objs) (fun k ok hk hl=>by simp [Array.getD] at hl) (by simp) (fun _ _=>eC _) (by simpa using hB.2) hrunA
 ·have hsz:ops.toList.length=ops.size:=by simp
  rw [hsz] at hA
  refine Qlf (B:=B) (W0:=W0) (D:=dl++D0) (nt:=st.nt) (lo:=st.objs.length) (hi:=st'.objs.length) (fun i o d hi hd=>r4 i o d (by simpa using hi) hd) hbig (fun i=>?_) (fun i j hij=>?_) ops.size _ _ _ M ι a _ hA hs.rel hs.slots hs.nt (fun i _ k hk=>?_) ?_
  ·rcases bA i ops.size with hi | hi
   ·exact r2.at i _ (hdef i hi)
   ·rw [hout i hi]; exact ⟨r2.le,aZ _,aZ _⟩
  ·rcases bA i ops.size with hi | hi
   ·rcases bA j ops.size with hj | hj
    ·rcases Nat.lt_or_gt_of_ne hij with e | e
     ·exact .inl (r2.lt i j _ _ e (hdef i hi) (hdef j hj))
     ·exact .inr (r2.lt j i _ _ e (hdef j hj) (hdef i hi))
    ·left; rw [hout j hj]; exact (r2.at i _ (hdef i hi)).2.2
   ·rcases bA j ops.size with hj | hj
    ·right; rw [hout i hi]; exact (r2.at j _ (hdef j hj)).2.2
    ·left; rw [hout i hi,hout j hj]; exact aZ _
  ·have hup:(fs.getD i ⟨none,[],st'.objs.length,st'.objs.length,[]⟩).fr'<=st'.objs.length:=by
    rcases bA i ops.size with hi | hi
    ·exact (r2.at i _ (hdef i hi)).2.2
    ·rw [hout i hi]; exact aZ _
   have hlo:st.objs.length<=(fs.getD i ⟨none,[],st'.objs.length,st'.objs.length,[]⟩).fr:=by
    rcases bA i ops.size with hi | hi
    ·exact (r2.at i _ (hdef i hi)).1
    ·rw [hout i hi]; exact r2.le
   exact hs.new k ((hk.mono hlo hup).notB hbig)
  ·intro s' σ' M' ι' a' W' hq g1 g2 g3 g4 g5 g6 g7
   obtain ⟨rfl,rfl⟩:=hq
   exact hp M' ι' a' W' g1 (g2.leB base) ⟨g4,g5,by rw [g6,r3],⟨by rw [g7]; exact hs.df.defs,hs.df.old,hs.df.nd⟩,fun k hk=>by rw [g3 k (fun c=>hk c.inB)]; exact hs.new k (fun c=>hk (c.mono r2.le)),hbig⟩
 ·have hj':j < ops.size:=(aY.1 hj).1
  exact hcomp i j _ _ oj hij (hdef i (by omega)) (hdef j hj') (by simpa using hj) (by simpa using hno)
def Q7r (P:Program) (rd:Option Nat) (base:Nat) (ops:Array Oper) (j:Nat) (Φ:AOut->Prop):AOut->Prop
 | .go .normal st'=>RW P rd base ops none j st' Φ
 | _=>False
theorem Q41 {id j:Nat} (hm:P.follows .mixedOrders=true) (hc:cutB ops j=true) (h:RW P rd base (ops.extract 0 j) (some []) 0 st (Q7r P rd base ops j Φ)):WP P rd base (.region id ops true) st Φ:=by
 obtain ⟨fs,ss,st',h1,hcv,h2,h3⟩:=h
 obtain ⟨out,h3,h4⟩:=h3
 refine ⟨out,?_,h4⟩
 simp only [cutB,aE] at hc
 obtain ⟨⟨⟨⟨⟨c1,c2⟩,c3⟩,c4⟩,c5⟩,c6⟩:=hc
 have hj:j < ops.size:=Xr c1
 have hlexB:=Qwn c2
 simp only [Qp0,aE] at c2
 have hdown:=Qpf (ops:=ops) (j:=j) j [j] (fun b hb=>.inl (by simpa using hb)) c4
 have hup:=Quc (ops:=ops) (j:=j) (ops.size - (j+1)) (j+1) [j] (fun b hb=>.inl (by simpa using hb)) c5
 have hsz:(ops.extract 0 j).size=j:=by simp; omega
 intro B W0 D0 dl M ι a W n Q r hs hr hp
 refine wpIn_region_draw (fun t=>?_)
 have hsch:Region.schedule (P.follows .mixedOrders) ops t=Region.linearise .any ops t:=by
  unfold Region.schedule; rw [aH (by simp [hm])]
 rw [hsch]
 refine wpAnyIn_sound ops.size t _ a _ ?_
 have hA:=Q1p (P:=P) (base:=base) (n:=n) (r:=r) (Q:=fun e a' w'=>e=.normal/\∃M' ι',CM.Grow B M M'/\Inj.leB base ι ι'/\Sim P B W0 D0 dl M' ι' st' a' w') hlexB (by simpa using h1) hcv (by simpa using h2)
  (B:=B) (W0:=W0) (D0:=D0) (dl:=dl) (M:=M) (ι:=ι) (a:=a) ⟨hs.rel.drew,hs.slots,hs.nt,hs.df,hs.new,hs.big⟩ (fun M' ι' a' W' g1 g2 g3=>⟨rfl,M',ι',g1,g2,g3⟩)
 have hpad:Qa5 ops.size (Array.replicate (ops.extract 0 j).size false)=Array.replicate ops.size false:=by
  unfold Qa5
  rw [hsz,Array.size_replicate,Array.replicate_append_replicate,show j+(ops.size - j)=ops.size by omega]
 have hfin:=Q4a (F:=FW r) (n:=n) (P:=P) (ops:=ops) (Q:=Q) (m:=ops.size - j) hj c2.2 c3 (fun i k hi hk hk2=>?_) (fun a' w' hq=>?_) (fun e a' w' he hq=>absurd hq.1 he) (ops.extract 0 j).size (Array.replicate (ops.extract 0 j).size false) _ _ (by simp; omega) (by rw [hpad]; exact fun k ok hk hl=>by simp [Array.getD] at hl) hA
 ·rw [hpad,hsz,show j+(ops.size - j)=ops.size by omega] at hfin
  exact hfin
 ·by_cases e:k=j
  ·subst e; exact hdown i hi
  exact (hdown i hi).trans (hup k (by omega) (by omega))
 obtain ⟨_,M',ι',g1,g2,g3⟩:=hq
 refine Qov _ j _ a' w' c6 ?_
 exact h3 B W0 D0 dl M' ι' a' w' n Q r g3 (hr.mono g2) (hp.step g1 g2 (List.suffix_refl _))
end
end Go.Ab
namespace Go.Ab
inductive Fr where
 | seq (y:Code)
 | blk (id:Nat)
 | inl (fn:Func) (ops:Array Oper) (i:Nat) (st:St) (rd:Option Nat) (base:Nat)
 | inN (fn:Func) (ops:Array Oper) (d:Option (List Sk)) (i:Nat) (st:St) (rd:Option Nat) (base:Nat)
 | rng (fn:Func) (st:St) (rd:Option Nat) (base:Nat)
 | yA (l nt:Nat) (body:Code) (ops:Array Oper) (i:Nat) (st:St) (rd:Option Nat) (base:Nat)
 | yB (l:Nat) (ops:Array Oper) (i:Nat) (st:St) (rd:Option Nat) (base:Nat)
 | lp (c:Code)
 | cut (o:Array Oper) (j:Nat)
 | scp (body:Code)
inductive Pos where
 | lw (c:Code)
 | code (c:Code)
 | ops (o:Array Oper) (d:Option (List Sk)) (i:Nat)
 | out (e:Xo)
structure Cf where
 pos:Pos
 fr:List Fr
 st:St
 rd:Option Nat
 base:Nat
def Phi (P:Program) (Ω:AOut->Prop):List Fr->Option Nat -> Nat -> AOut->Prop
 | [],_,_=>Ω
 | .seq y::r,rd,b=>Qsd (fun s=>WP P rd b y s (Phi P Ω r rd b)) (Phi P Ω r rd b)
 | .blk id::r,rd,b=>Qte id (Phi P Ω r rd b)
 | .inl fn ops i st rd b::r,_,_=>fun out=>∃S,Qij P fn ops i st out=some S/\RW P rd b ops none (i+1) S (Phi P Ω r rd b)
 | .inN fn ops d i st rd b::r,_,_=>fun out=>∃S,Qz7 P fn ops i st out=some S/\RW P rd b ops (Q1 d (Q20 st S)) (i+1) S (Phi P Ω r rd b)
 | .rng fn st rd b::r,_,_=>fun out0=>∃out,J7 P fn st out0=some out/\Phi P Ω r rd b out
 | .yA l nt body ops i st rd b::r,_,_=>fun outA=>∃SA,Qoc l nt outA=some SA/\WP P (some l) st.objs.length body SA (fun outB=>∃S,Qk1 ops i l st outB=some S/\RW P rd b ops none (i+1) S (Phi P Ω r rd b))
 | .yB l ops i st rd b::r,_,_=>fun outB=>∃S,Qk1 ops i l st outB=some S/\RW P rd b ops none (i+1) S (Phi P Ω r rd b)
 | .lp c::r,rd,b=>Qsd (fun s=>LWP P rd b c s (Phi P Ω r rd b)) (Phi P Ω r rd b)
 | .cut o j::r,rd,b=>Q7r P rd b o j (Phi P Ω r rd b)
 | .scp body::r,rd,b=>Qi3 P rd b body (Phi P Ω r rd b)
def Gl (P:Program) (Ω:AOut->Prop):Cf->Prop
 | ⟨.code x,fr,st,rd,b⟩=>WP P rd b x st (Phi P Ω fr rd b)
 | ⟨.ops o d i,fr,st,rd,b⟩=>RW P rd b o d i st (Phi P Ω fr rd b)
 | ⟨.out e,fr,st,rd,b⟩=>Phi P Ω fr rd b (.go e st)
 | ⟨.lw x,fr,st,rd,b⟩=>LWP P rd b x st (Phi P Ω fr rd b)
noncomputable def ctl (P:Program):Cf->Option Cf
 | ⟨.code x,fr,st,rd,b⟩=>match x with
  | .seq x y=>some ⟨.code x,.seq y::fr,st,rd,b⟩
  | .block id x=>some ⟨.code x,.blk id::fr,st,rd,b⟩
  | .scope x=>some ⟨.code x,.scp x::fr,st,rd,b⟩
  | .skip=>some ⟨.out .normal,fr,st,rd,b⟩
  | .label _=>some ⟨.out .normal,fr,st,rd,b⟩
  | .region _ o false=>some ⟨.ops o none 0,fr,st,rd,b⟩
  | _=>none
 | ⟨.ops o d i,fr,st,rd,b⟩=>if Nat.beq i o.size then match d with
   | none=>some ⟨.out .normal,fr,st,rd,b⟩
   | some acc=>if Qcf o.toList acc then some ⟨.out .normal,fr,st,rd,b⟩ else none
  else none
 | ⟨.out e,fr,st,rd,b⟩=>match fr with
  | []=>none
  | .seq y::r=>match e with
   | .normal=>some ⟨.code y,r,st,rd,b⟩
   | e=>some ⟨.out e,r,st,rd,b⟩
  | .blk id::r=>match e with
   | .exit j=>if Nat.beq j id then some ⟨.out .normal,r,st,rd,b⟩ else some ⟨.out (.exit j),r,st,rd,b⟩
   | e=>some ⟨.out e,r,st,rd,b⟩
  | .inl fn ops i st0 rd0 b0::r=>match Qij P fn ops i st0 (.go e st) with
   | some S=>some ⟨.ops ops none (i+1),r,S,rd0,b0⟩
   | none=>none
  | .inN fn ops d i st0 rd0 b0::r=>match Qz7 P fn ops i st0 (.go e st) with
   | some S=>some ⟨.ops ops (Q1 d (Q20 st0 S)) (i+1),r,S,rd0,b0⟩
   | none=>none
  | .rng fn st0 rd0 b0::r=>match J7 P fn st0 (.go e st) with
   | some (.go e' S)=>some ⟨.out e',r,S,rd0,b0⟩
   | _=>none
  | .yA l nt body ops i st0 rd0 b0::r=>match Qoc l nt (.go e st) with
   | some S=>some ⟨.code body,.yB l ops i st0 rd0 b0::r,S,some l,st0.objs.length⟩
   | none=>none
  | .yB l ops i st0 rd0 b0::r=>match Qk1 ops i l st0 (.go e st) with
   | some S=>some ⟨.ops ops none (i+1),r,S,rd0,b0⟩
   | none=>none
  | .lp c::r=>match e with
   | .normal=>some ⟨.lw c,r,st,rd,b⟩
   | e=>some ⟨.out e,r,st,rd,b⟩
  | .cut o j::r=>match e with
   | .normal=>some ⟨.ops o none j,r,st,rd,b⟩
   | _=>none
  | .scp body::r=>match e with
   | .goto l=>match findLabel body l with
    | some rest=>some ⟨.code rest,.scp body::r,st,rd,b⟩
    | none=>some ⟨.out (.goto l),r,st,rd,b⟩
   | e=>some ⟨.out e,r,st,rd,b⟩
 | ⟨.lw _,_,_,_,_⟩=>none
noncomputable def stp (P:Program):Cf->Option Cf
 | ⟨.code x,fr,st,rd,b⟩=>match x with
  | .cond op x y=>match evo (lk st.slots) op with
   | some (.bool v)=>match v with
    | true=>some ⟨.code x,fr,st,rd,b⟩
    | false=>some ⟨.code y,fr,st,rd,b⟩
   | _=>none
  | .region _ o true=>if P.follows .mixedOrders && Qp0 o then some ⟨.ops o (some []) 0,fr,st,rd,b⟩ else none
  | .ret=>some ⟨.out .ret,fr,st,rd,b⟩
  | .exit j=>some ⟨.out (.exit j),fr,st,rd,b⟩
  | .goto l=>some ⟨.out (.goto l),fr,st,rd,b⟩
  | _=>none
 | ⟨.ops o d i,fr,st,rd,b⟩=>match Qxx P false o 1 i st with
  | some S=>some ⟨.ops o (Q1 d (Qxc P false o 1 i st)) (i+1),fr,S,rd,b⟩
  | none=>none
 | ⟨.out _,_,_,_,_⟩=>none
 | ⟨.lw _,_,_,_,_⟩=>none
noncomputable def settle (P:Program):Nat -> Cf->Cf
 | 0,c=>c
 | n+1,c=>match ctl P c with
  | some c'=>settle P n c'
  | none=>c
noncomputable def go (P:Program):Nat -> Cf->Option Cf
 | 0,c=>some (settle P 1000 c)
 | n+1,c=>match stp P (settle P 1000 c) with
  | some c'=>go P n c'
  | none=>none
def Cf.bad:Cf:=⟨.out .normal,[],⟨[],[],0⟩,none,0⟩
noncomputable def gg (P:Program) (n:Nat) (c:Cf):Cf:=match go P n c with | some c=>c | none=>.bad
section
variable {P:Program} {Ω:AOut->Prop} {c c':Cf}
theorem Q5o (h:ctl P c=some c') (g:Gl P Ω c'):Gl P Ω c:=by
 obtain ⟨pos,fr,st,rd,b⟩:=c
 cases pos with
 | code x =>
  simp only [ctl] at h
  split at h
  ·cases h; exact Q6g g
  ·cases h; exact Q13 g
  ·cases h; exact Q2b g
  ·cases h; exact wp_skip g
  ·cases h; exact Q2m g
  ·cases h; exact Q7c g
  cases h
 | ops o d i =>
  simp only [ctl] at h
  split at h
  ·rename_i hi
   have hi:=aJ hi
   cases d with
   | none=>cases h; exact Q39 hi g
   | some acc =>
    simp only at h
    split at h
    ·rename_i hc; cases h; exact Q1u (rd:=rd) (base:=b) hi hc g
    cases h
  cases h
 | out e =>
  simp only [ctl] at h
  split at h
  ·cases h
  ·split at h
   ·cases h; exact g
   rename_i hne
   cases h
   cases e with
   | normal=>exact absurd rfl hne
   | exit j=>exact g
   | ret=>exact g
   | goto l=>exact g
  ·split at h
   ·rename_i j
    split at h
    ·rename_i hj
     cases h
     show Phi P Ω _ _ _ (AOut.inBlock _ (.go (.exit j) st))
     simp only [AOut.inBlock,hj,eK]; exact g
    rename_i hj
    cases h
    show Phi P Ω _ _ _ (AOut.inBlock _ (.go (.exit j) st))
    simp only [AOut.inBlock,hj,eJ]; exact g
   rename_i hne
   cases h
   cases e with
   | normal=>exact g
   | exit j=>exact absurd rfl (hne j)
   | ret=>exact g
   | goto l=>exact g
  ·split at h
   ·rename_i hS; cases h; exact ⟨_,hS,g⟩
   cases h
  ·split at h
   ·rename_i hS; cases h; exact ⟨_,hS,g⟩
   cases h
  ·split at h
   ·rename_i hS; cases h; exact ⟨_,hS,g⟩
   cases h
  ·split at h
   ·rename_i hS; cases h; exact ⟨_,hS,g⟩
   cases h
  ·split at h
   ·rename_i hS; cases h; exact ⟨_,hS,g⟩
   cases h
  ·split at h
   ·cases h; exact g
   rename_i hne
   cases h
   cases e with
   | normal=>exact absurd rfl hne
   | exit j=>exact g
   | ret=>exact g
   | goto l=>exact g
  ·split at h
   ·cases h; exact g
   cases h
  split at h
  ·split at h
   ·rename_i hf
    cases h
    unfold Gl Phi
    simp only [Qi3,hf]
    exact Q0m g
   rename_i hf
   cases h
   unfold Gl Phi
   simp only [Qi3,hf]
   exact g
  rename_i hne
  cases h
  cases e with
  | normal=>exact g
  | exit j=>exact g
  | ret=>exact g
  | goto l=>exact absurd rfl (hne l)
 | lw x=>cases h
theorem Q7i (h:stp P c=some c') (g:Gl P Ω c'):Gl P Ω c:=by
 obtain ⟨pos,fr,st,rd,b⟩:=c
 cases pos with
 | code x =>
  simp only [stp] at h
  split at h
  ·split at h
   ·rename_i v he
    cases v with
    | true=>cases h; exact Q2f he g
    | false=>cases h; exact Q1l he g
   cases h
  ·split at h
   ·rename_i hm
    simp only [aE] at hm
    cases h; exact rga hm.1 g hm.2
   cases h
  ·cases h; exact Q7j g
  ·cases h; exact Q3p g
  ·cases h; exact Q4r g
  cases h
 | ops o d i =>
  simp only [stp] at h
  split at h
  ·rename_i S hS; cases h; exact sg false 1 _ hS rfl g
  cases h
 | out e=>cases h
 | lw x=>cases h
theorem Qlv:∀(n:Nat) (c:Cf),Gl P Ω (settle P n c)->Gl P Ω c
 | 0,c,g=>g
 | n+1,c,g=>by
  unfold settle at g
  split at g
  ·rename_i c' hc; exact Q5o hc (Qlv n c' g)
  exact g
theorem Qha:∀(n:Nat) (c c':Cf),go P n c=some c'->Gl P Ω c'->Gl P Ω c
 | 0,c,c',h,g=>by unfold go at h; cases h; exact Qlv _ _ g
 | n+1,c,c',h,g=>by
  unfold go at h
  split at h
  ·rename_i c1 hc; exact Qlv _ _ (Q7i hc (Qha n c1 c' h g))
  cases h
theorem Qc3 {n:Nat} (h:(go P n c).isSome=true) (g:Gl P Ω (gg P n c)):Gl P Ω c:=by
 unfold gg at g
 split at g
 ·rename_i c1 hc; exact Qha n c c1 hc g
 rename_i hn; rw [hn] at h; cases h
def Cf.o (c:Cf):Array Oper:=match c.pos with | .ops o _ _=>o | _=>#[]
def Cf.d (c:Cf):Option (List Sk):=match c.pos with | .ops _ d _=>d | _=>none
def Cf.i (c:Cf):Nat := match c.pos with | .ops _ _ i=>i | _=>0
def Cf.isO (c:Cf):Bool:=match c.pos with | .ops _ _ _=>true | _=>false
def Cf.x (c:Cf):Code:=match c.pos with | .code x=>x | _=>.skip
def Cf.isX (c:Cf):Bool:=match c.pos with | .code _=>true | _=>false
def Cf.free (c:Cf):Bool:=match c.pos with | .code _=>true | .ops _ none _=>true | .lw _=>true | _=>false
def Cf.nx (c:Cf) (s:List Sk) (S:St):Cf:=⟨.ops c.o (Q1 c.d s) (c.i+1),c.fr,S,c.rd,c.base⟩
def Cf.nx2 (c:Cf) (s s':List Sk) (S:St):Cf:=⟨.ops c.o (Q1 (Q1 c.d s) s') (c.i+1+1),c.fr,S,c.rd,c.base⟩
def Cf.to (c:Cf) (S:St):Cf:=⟨c.pos,c.fr,S,c.rd,c.base⟩
noncomputable def goO (P:Program) (n:Nat) (c:Cf):Bool:=match go P n c with | some c=>c.isO | none=>false
noncomputable def goX (P:Program) (n:Nat) (c:Cf):Bool:=match go P n c with | some c=>c.isX | none=>false
noncomputable def goF (P:Program) (n:Nat) (c:Cf):Bool:=match go P n c with | some c=>c.free | none=>false
theorem Jw {n:Nat} (h:goO P n c=true) (g:(gg P n c).isO=true->Gl P Ω (gg P n c)):Gl P Ω c:=by
 unfold goO at h
 split at h
 ·rename_i c1 hc; exact Qc3 (by rw [hc]; rfl) (g (by unfold gg; rw [hc]; exact h))
 cases h
theorem Q49 {n:Nat} (h:goX P n c=true) (g:(gg P n c).isX=true->Gl P Ω (gg P n c)):Gl P Ω c:=by
 unfold goX at h
 split at h
 ·rename_i c1 hc; exact Qc3 (by rw [hc]; rfl) (g (by unfold gg; rw [hc]; exact h))
 cases h
theorem Q7q {n:Nat} (h:goF P n c=true) (g:(gg P n c).free=true->Gl P Ω (gg P n c)):Gl P Ω c:=by
 unfold goF at h
 split at h
 ·rename_i c1 hc; exact Qc3 (by rw [hc]; rfl) (g (by unfold gg; rw [hc]; exact h))
 cases h
theorem Jl (h:c.isO=true) (g:RW P c.rd c.base c.o c.d c.i c.st (Phi P Ω c.fr c.rd c.base)):Gl P Ω c:=by
 obtain ⟨pos,fr,st,rd,b⟩:=c
 cases pos with
 | ops o d i=>exact g
 | _=>cases h
theorem Q3s (h:c.isX=true) (g:WP P c.rd c.base c.x c.st (Phi P Ω c.fr c.rd c.base)):Gl P Ω c:=by
 obtain ⟨pos,fr,st,rd,b⟩:=c
 cases pos with
 | code x=>exact g
 | _=>cases h
theorem Q7t {S:St} (h:c.free=true) (hw:Wk P c.base c.st S) (g:Gl P Ω (c.to S)):Gl P Ω c:=by
 obtain ⟨pos,fr,st,rd,b⟩:=c
 cases pos with
 | code x=>exact Q7u hw g
 | ops o d i =>
  cases d with
  | none=>exact Q8f hw g
  | some _=>cases h
 | out _=>cases h
 | lw x=>exact Qly hw g
end
def Cf.cutOk (P:Program) (j:Nat) (c:Cf):Bool:=match c.pos with | .code (.region _ o true)=>P.follows .mixedOrders && cutB o j | _=>false
def Cf.cut (j:Nat) (c:Cf):Cf:=match c.pos with | .code (.region _ o true)=>⟨.ops (o.extract 0 j) (some []) 0,.cut o j::c.fr,c.st,c.rd,c.base⟩ | _=>c
noncomputable def goC (P:Program) (n j:Nat) (c:Cf):Bool:=match go P n c with | some c=>c.cutOk P j | none=>false
theorem Q5g {P:Program} {Ω:AOut->Prop} {c:Cf} {n j:Nat} (h:goC P n j c=true) (g:Gl P Ω ((gg P n c).cut j)):Gl P Ω c:=by
 unfold goC at h
 split at h
 ·rename_i c1 hc
  refine Qc3 (n:=n) (by rw [hc]; rfl) ?_
  rw [show gg P n c=c1 by unfold gg; rw [hc]] at g ⊢
  obtain ⟨pos,fr,st,rd,b⟩:=c1
  unfold Cf.cutOk at h
  simp only at h
  split at h
  ·simp only [aE] at h; exact Q41 h.1 h.2 g
  cases h
 cases h
def Hl {R:Type} (P:Program) (Ω:R->AOut->Prop) (c:Cf) (D:Option R):Prop:=∀r,D=some r->Gl P (Ω r) c
section
variable {P:Program} {R:Type} {Ω:R->AOut->Prop} {c:Cf} {D A B:Option R}
theorem hnn:Hl P Ω c none:=fun _ h=>by cases h
theorem hbd {α:Type} {o:Option α} {K:α->Option R} (k:∀a,o=some a->Hl P Ω c (K a)):Hl P Ω c (o.bind K):=fun r h=>Qzk h fun a q h=>k a q r h
theorem hct (n j:Nat) (k:Hl P Ω ((gg P n c).cut j) D) (e:goC P n j c=true:=by kernel_rfl):Hl P Ω c D:=fun r h=>Q5g e (k r h)
theorem hop (n:Nat) {S:St} {s:List Sk} (rule:∀Φ:AOut->Prop,RW P (gg P n c).rd (gg P n c).base (gg P n c).o (Q1 (gg P n c).d s) ((gg P n c).i+1) S Φ->RW P (gg P n c).rd (gg P n c).base (gg P n c).o (gg P n c).d (gg P n c).i (gg P n c).st Φ)
  (k:Hl P Ω ((gg P n c).nx s S) D) (e:goO P n c=true:=by kernel_rfl):Hl P Ω c D:=fun r h=>Jw e fun hO=>Jl hO (rule _ (k r h))
theorem Q8o (n:Nat) {S:St} {s s':List Sk} (rule:∀Φ:AOut->Prop,RW P (gg P n c).rd (gg P n c).base (gg P n c).o (Q1 (Q1 (gg P n c).d s) s') ((gg P n c).i+1+1) S Φ->RW P (gg P n c).rd (gg P n c).base (gg P n c).o (gg P n c).d (gg P n c).i (gg P n c).st Φ)
  (k:Hl P Ω ((gg P n c).nx2 s s' S) D) (e:goO P n c=true:=by kernel_rfl):Hl P Ω c D:=fun r h=>Jw e fun hO=>Jl hO (rule _ (k r h))
theorem hoh (n:Nat) {S:St} {s:List Sk} (rule:∀(Φ:AOut->Prop) (r:R),D=some r->(A=some r->RW P (gg P n c).rd (gg P n c).base (gg P n c).o (Q1 (gg P n c).d s) ((gg P n c).i+1) S Φ)->RW P (gg P n c).rd (gg P n c).base (gg P n c).o (gg P n c).d (gg P n c).i (gg P n c).st Φ)
  (k:Hl P Ω ((gg P n c).nx s S) A) (e:goO P n c=true:=by kernel_rfl):Hl P Ω c D:=fun r h=>Jw e fun hO=>Jl hO (rule _ r h fun h=>k r h)
theorem hwk (n:Nat) {S:St} (w:Wk P (gg P n c).base (gg P n c).st S) (k:Hl P Ω ((gg P n c).to S) D) (e:goF P n c=true:=by kernel_rfl):Hl P Ω c D:=fun r h=>Q7q e fun hF=>Q7t hF w (k r h)
theorem hbq (n:Nat) (ts:List Nat) {b:Bool} (k:b=true->Hl P Ω ((gg P n c).to (pB ts true (gg P n c).st)) A) (k':b=false->Hl P Ω ((gg P n c).to (pB ts false (gg P n c).st)) B)
  (e:(go P n c).isSome=true:=by kernel_rfl) (hS:(gg P n c).st=pB ts b (gg P n c).st:=by kernel_rfl):Hl P Ω c (if b=true then A else B):=fun r h=>Qc3 e (by
 have ht:gg P n c=(gg P n c).to (pB ts b (gg P n c).st):=by rw [<-hS]; rfl
 rw [ht]
 cases b with
 | true=>exact k rfl r (by simpa using h)
 | false=>exact k' rfl r (by simpa using h))
theorem hbr (n:Nat) (ts:List Nat) {b:Bool} (k:Hl P Ω ((gg P n c).to (pB ts true (gg P n c).st)) A) (k':Hl P Ω ((gg P n c).to (pB ts false (gg P n c).st)) B)
  (e:(go P n c).isSome=true:=by kernel_rfl) (hS:(gg P n c).st=pB ts b (gg P n c).st:=by kernel_rfl):Hl P Ω c (if b=true then A else B):=hbq n ts (fun _=>k) (fun _=>k') e hS
theorem hbt (n:Nat) {b:Bool} (S:Bool->St) (k:b=true->Hl P Ω ((gg P n c).to (S true)) A) (k':b=false->Hl P Ω ((gg P n c).to (S false)) B) (e:(go P n c).isSome=true:=by kernel_rfl) (hS:(gg P n c).st=S b:=by kernel_rfl):Hl P Ω c (if b=true then A else B):=fun r h=>Qc3 e (by
 have ht:gg P n c=(gg P n c).to (S b):=by rw [<-hS]; rfl
 rw [ht]
 cases b with
 | true=>exact k rfl r (by simpa using h)
 | false=>exact k' rfl r (by simpa using h))
theorem hkb (n:Nat) (ts:List Nat) {b b':Bool} (hb:b=b') (k:Hl P Ω ((gg P n c).to (pB ts b' (gg P n c).st)) D) (e:(go P n c).isSome=true:=by kernel_rfl) (hS:(gg P n c).st=pB ts b (gg P n c).st:=by kernel_rfl):Hl P Ω c D:=fun r h=>Qc3 e (by
 have ht:gg P n c=(gg P n c).to (pB ts b (gg P n c).st):=by rw [<-hS]; rfl
 rw [ht,hb]; exact k r h)
theorem hkn (n:Nat) {α:Type} {x y:α} (S:α->St) (hb:x=y) (k:Hl P Ω ((gg P n c).to (S y)) D) (e:(go P n c).isSome=true:=by kernel_rfl) (hS:(gg P n c).st=S x:=by kernel_rfl):Hl P Ω c D:=fun r h=>Qc3 e (by
 have ht:gg P n c=(gg P n c).to (S x):=by rw [<-hS]; rfl
 rw [ht,hb]; exact k r h)
theorem hkl (n:Nat) (ts:List Nat) {x y:Nat} (hb:x=y) (k:Hl P Ω ((gg P n c).to (pL ts y (gg P n c).st)) D) (e:(go P n c).isSome=true:=by kernel_rfl) (hS:(gg P n c).st=pL ts x (gg P n c).st:=by kernel_rfl):Hl P Ω c D:=hkn n (fun x=>pL ts x (gg P n c).st) hb k e hS
theorem ls {α:Type} (l:List α) (i:Nat) (a:α):l.length=(l.set i a).length:=by simp
theorem hqi (n:Nat) {x m:Int} (S:Int->St) (k:x=m->Hl P Ω ((gg P n c).to (S m)) A) (k':x≠m->Hl P Ω (gg P n c) B) (e:(go P n c).isSome=true:=by kernel_rfl) (hS:(gg P n c).st=S x:=by kernel_rfl):Hl P Ω c (if x=m then A else B):=fun r h=>Qc3 e (by
 by_cases hx:x=m
 ·have ht:gg P n c=(gg P n c).to (S x):=by rw [<-hS]; rfl
  rw [ht,hx]; exact k hx r (by simpa [hx] using h)
 exact k' hx r (by simpa [hx] using h))
structure Wt where
 i:Nat
 n:Nat
 xs:List AV
 ys:List AV
 h:i+n<=xs.length/\(xs.drop i).take n=ys
def F {α:Type} (enc:α->AV) (l:List α):Option Wt:=some ⟨0,l.length,l.map enc,l.map enc,by simp [List.take_of_length_le]⟩
def Qh7 (f:AV->List (Option Wt)->Option (AV × List Nat × List ((Nat × Nat × List AV) × Wt) × List (Option Wt))):List AV->List (Option Wt)->Option (List AV × List Nat × List ((Nat × Nat × List AV) × Wt) × List (Option Wt))
 | [],ws=>some ([],[],[],ws)
 | x::xs,ws=>match f x ws with
  | some (y,a,e,ws1)=>match Qh7 f xs ws1 with
   | some (ys,b,e',ws2)=>some (y::ys,a++b,e++e',ws2)
   | none=>none
  | none=>none
def snW (σ:Sto):Nat -> AV->List (Option Wt)->Option (AV × List Nat × List ((Nat × Nat × List AV) × Wt) × List (Option Wt))
 | 0,_,_=>none
 | d+1,a,ws=>match a with
  | .ref o i n=>match ws with
   | some w::ws=>match σ o with
    | some (.row _ _ true fl _ xs)=>some (.lst fl w.ys,[o],[((i,n,xs),w)],ws)
    | _=>none
   | ws=>match Qt σ (d+1) (.ref o i n) with
    | some (y,ids)=>some (y,ids,[],ws.tail)
    | none=>none
  | .agg cs=>match Qh7 (snW σ d) cs ws with | some (ys,r)=>some (.agg ys,r) | none=>none
  | .tup cs=>match Qh7 (snW σ d) cs ws with | some (ys,r)=>some (.tup ys,r) | none=>none
  | .ptr o i c=>match ws with
   | some w::ws=>match σ o with
    | some (.row _ _ _ _ _ xs)=>match Qh7 (snW σ d) xs (some w::ws) with
     | some (ys,ids,e,ws')=>match ys[i]? with
      | some y=>some (.fz (y.flat.drop c),o::ids,e,ws')
      | none=>none
     | none=>none
    | _=>none
   | ws=>match Qt σ (d+1) (.ptr o i c) with
    | some (y,ids)=>some (y,ids,[],ws)
    | none=>none
  | .fn f a b=>match ws with
   | some w::ws=>match Qh7 (snW σ d) a (some w::ws) with
    | some (x,i,e,ws1)=>match Qh7 (snW σ d) b ws1 with
     | some (y,j,e',ws2)=>some (.fn f x y,i++j,e++e',ws2)
     | none=>none
    | none=>none
   | ws=>match Qt σ (d+1) (.fn f a b) with
    | some (y,ids)=>some (y,ids,[],ws)
    | none=>none
  | a=>match Qt σ (d+1) a with
   | some (y,ids)=>some (y,ids,[],ws)
   | none=>none
def eqW (e:List ((Nat × Nat × List AV) × Wt)):Prop:=e.map (·.1)=e.map fun p=>(p.2.i,p.2.n,p.2.xs)
theorem Qjr {a b:List ((Nat × Nat × List AV) × Wt)} (h:eqW (a++b)):eqW a/\eqW b:=by
 unfold eqW at h ⊢
 rw [cV,cV] at h
 exact List.append_inj h (by simp)
theorem Qcl {f:AV->List (Option Wt)->Option (AV × List Nat × List ((Nat × Nat × List AV) × Wt) × List (Option Wt))} {g:AV->Option (AV × List Nat)}
  (hf:∀x ws y a e ws',f x ws=some (y,a,e,ws')->eqW e->g x=some (y,a)):∀(xs:List AV) (ws:List (Option Wt)) ys b e ws',Qh7 f xs ws=some (ys,b,e,ws')->eqW e->Qx g xs=some (ys,b)
 | [],ws,ys,b,e,ws',h,he=>by simp only [Qh7,aK,aV] at h; obtain ⟨rfl,rfl,rfl,rfl⟩:=h; rfl
 | x::xs,ws,ys,b,e,ws',h,he=>by
  simp only [Qh7] at h
  split at h
  ·rename_i y a e1 ws1 h1
   split at h
   ·rename_i ys2 b2 e2 ws2 h2
    simp only [aK,aV] at h
    obtain ⟨rfl,rfl,rfl,rfl⟩:=h
    obtain ⟨g1,g2⟩:=Qjr he
    simp only [Qx,hf _ _ _ _ _ _ h1 g1,Qcl hf xs _ _ _ _ _ h2 g2]
   cases h
  cases h
theorem Qaf {σ:Sto}:∀(d:Nat) (x:AV) (ws:List (Option Wt)) y a e ws',snW σ d x ws=some (y,a,e,ws')->eqW e->Qt σ d x=some (y,a)
 | 0,x,ws,y,a,e,ws',h,he=>by cases h
 | d+1,x,ws,y,a,e,ws',h,he=>by
  unfold snW at h
  split at h
  ·rename_i o i n
   split at h
   ·rename_i w ws0
    split at h
    ·rename_i xs hσ
     simp only [aK,aV] at h
     obtain ⟨rfl,rfl,rfl,rfl⟩:=h
     simp only [eqW,dE,dF,List.cons.injEq,aV,and_true] at he
     obtain ⟨e1,e2,e3⟩:=he
     subst e1 e2 e3
     simp [Qt,hσ,w.h.1,w.h.2]
    cases h
   split at h
   ·rename_i hs
    simp only [aK,aV] at h
    obtain ⟨rfl,rfl,rfl,rfl⟩:=h; exact hs
   cases h
  ·split at h
   ·rename_i ys r hm
    simp only [aK,aV] at h
    obtain ⟨rfl,rfl⟩:=h
    have:=Qcl (Qaf d) _ _ _ _ _ _ hm he
    simp only [Qt,this]
   cases h
  ·split at h
   ·rename_i ys r hm
    simp only [aK,aV] at h
    obtain ⟨rfl,rfl⟩:=h
    have:=Qcl (Qaf d) _ _ _ _ _ _ hm he
    simp only [Qt,this]
   cases h
  ·split at h
   ·split at h
    ·rename_i hσ
     split at h
     ·rename_i hm
      split at h
      ·rename_i y hy
       simp only [aK,aV] at h
       obtain ⟨rfl,rfl,rfl,rfl⟩:=h
       have:=Qcl (Qaf d) _ _ _ _ _ _ hm he
       simp only [Qt,hσ,this,hy]
      cases h
     cases h
    cases h
   split at h
   ·rename_i hs
    simp only [aK,aV] at h
    obtain ⟨rfl,rfl,rfl,rfl⟩:=h; exact hs
   cases h
  ·split at h
   ·split at h
    ·rename_i hm
     split at h
     ·rename_i hm2
      simp only [aK,aV] at h
      obtain ⟨rfl,rfl,rfl,rfl⟩:=h
      obtain ⟨g1,g2⟩:=Qjr he
      have h1:=Qcl (Qaf d) _ _ _ _ _ _ hm g1
      have h2:=Qcl (Qaf d) _ _ _ _ _ _ hm2 g2
      simp only [Qt,h1,h2]
     cases h
    cases h
   split at h
   ·rename_i hs
    simp only [aK,aV] at h
    obtain ⟨rfl,rfl,rfl,rfl⟩:=h; exact hs
   cases h
  split at h
  ·rename_i hs
   simp only [aK,aV] at h
   obtain ⟨rfl,rfl,rfl,rfl⟩:=h; exact hs
  cases h
noncomputable def Cf.sn (c:Cf) (ws:List (Option Wt)):Option (List AV × List Nat × List ((Nat × Nat × List AV) × Wt) × List (Option Wt)):=match Zk c.o c.i c.st with
 | some (_,as0)=>Qh7 (snW c.st.sto Qo) as0 ws
 | none=>none
noncomputable def Cf.ids (c:Cf) (ws:List (Option Wt)):List Nat := match c.sn ws with | some x=>x.2.1 | none=>[]
noncomputable def Cf.eqs (c:Cf) (ws:List (Option Wt)):List ((Nat × Nat × List AV) × Wt):=match c.sn ws with | some x=>x.2.2.1 | none=>[]
noncomputable def Cf.us (c:Cf) (ws:List (Option Wt)):Option (List AV):=(c.sn ws).map (·.1)
noncomputable def Cf.cl (c:Cf) (ws:List (Option Wt)) (r:AV) (objs:List AObj):Cf:=c.nx [Qir c.st (c.ids ws) r objs] (gt0 (Qdj c.o c.i c.st (c.ids ws) r objs))
theorem hcl (n:Nat) (ws:List (Option Wt)) {α:Type} {G:Option α} {K:α->Option R} {f:FuncId} {us:List AV} {rv:α->AV} {ro:α->List AObj} (C:∀x,G=some x->Q3 P f us (.ret (rv x) (ro x)))
  (k:∀x,G=some x->Hl P Ω ((gg P n c).cl ws (rv x) (ro x)) (K x)) (e:goO P n c=true:=by kernel_rfl) (hb:Qhj P f=true:=by kernel_rfl)
  (hi:(Zk (gg P n c).o (gg P n c).i (gg P n c).st).map (·.1)=some f:=by kernel_rfl) (hu:(gg P n c).us ws=some us:=by kernel_rfl) (hw:((gg P n c).eqs ws).map (·.1)=((gg P n c).eqs ws).map (fun p=>(p.2.i,p.2.n,p.2.xs)):=by kernel_rfl)
  (hS:∀x,(Qdj (gg P n c).o (gg P n c).i (gg P n c).st ((gg P n c).ids ws) (rv x) (ro x)).isSome=true:=by (intro _; kernel_rfl)):Hl P Ω c (G.bind K):=fun r h=>Jw e fun hO=>Jl hO (by
 generalize gg P n c=c' at *
 have hsn:∃as0,Zk c'.o c'.i c'.st=some (f,as0)/\Qx (Qt c'.st.sto Qo) as0=some (us,c'.ids ws):=by
  cases hc:Zk c'.o c'.i c'.st with
  | none=>rw [hc] at hi; cases hi
  | some y =>
   obtain ⟨g,as0⟩:=y
   rw [hc] at hi
   simp only [bK,aK] at hi
   subst hi
   refine ⟨as0,rfl,?_⟩
   unfold Cf.us at hu
   unfold Cf.ids; unfold Cf.eqs at hw
   cases hs:c'.sn ws with
   | none=>rw [hs] at hu; cases hu
   | some z =>
    obtain ⟨ys,ids,es,ws'⟩:=z
    rw [hs] at hu hw
    simp only [bK,aK] at hu
    subst hu
    unfold Cf.sn at hs
    rw [hc] at hs
    exact Qcl (Qaf Qo) _ _ _ _ _ _ hs hw
 obtain ⟨as0,h1,h2⟩:=hsn
 exact Qw2 h1 hb h2 C (fun x=>gE (hS x)) h fun x q h=>k x q r h)
theorem hcn (n:Nat) (ws:List (Option Wt)) {α:Type} {G:Option (List α)} {B:α->List α->Option R} {f:FuncId} {us:List AV} {fl:Bool} {enc:α->AV} (C:∀x,G=some x->Q3 P f us (.ret (nlE fl enc x) []))
  (k:Hl P Ω ((gg P n c).cl ws .nils []) A) (k':∀a t,Hl P Ω ((gg P n c).cl ws (.lst fl ((a::t).map enc)) []) (B a t)) (e:goO P n c=true:=by kernel_rfl) (hb:Qhj P f=true:=by kernel_rfl)
  (hi:(Zk (gg P n c).o (gg P n c).i (gg P n c).st).map (·.1)=some f:=by kernel_rfl) (hu:(gg P n c).us ws=some us:=by kernel_rfl) (hw:((gg P n c).eqs ws).map (·.1)=((gg P n c).eqs ws).map (fun p=>(p.2.i,p.2.n,p.2.xs)):=by kernel_rfl)
  (h0:(Qdj (gg P n c).o (gg P n c).i (gg P n c).st ((gg P n c).ids ws) .nils []).isSome=true:=by kernel_rfl)
  (h1:∀a t,(Qdj (gg P n c).o (gg P n c).i (gg P n c).st ((gg P n c).ids ws) (.lst fl ((a::t).map enc)) []).isSome=true:=by (intro _ _; kernel_rfl)):Hl P Ω c (G.bind fun x=>Q3b x A B):=fun r h=>Jw e fun hO=>Jl hO (by
 generalize gg P n c=c' at *
 have hsn:∃as0,Zk c'.o c'.i c'.st=some (f,as0)/\Qx (Qt c'.st.sto Qo) as0=some (us,c'.ids ws):=by
  cases hc:Zk c'.o c'.i c'.st with
  | none=>rw [hc] at hi; cases hi
  | some y =>
   obtain ⟨g,as0⟩:=y
   rw [hc] at hi
   simp only [bK,aK] at hi
   subst hi
   refine ⟨as0,rfl,?_⟩
   unfold Cf.us at hu
   unfold Cf.ids; unfold Cf.eqs at hw
   cases hs:c'.sn ws with
   | none=>rw [hs] at hu; cases hu
   | some z =>
    obtain ⟨ys,ids,es,ws'⟩:=z
    rw [hs] at hu hw
    simp only [bK,aK] at hu
    subst hu
    unfold Cf.sn at hs
    rw [hc] at hs
    exact Qcl (Qaf Qo) _ _ _ _ _ _ hs hw
 obtain ⟨as0,g1,g2⟩:=hsn
 exact Q7b g1 hb g2 C (gE h0) (fun a t=>gE (h1 a t)) h (fun h=>k r h) fun a t h=>k' a t r h)
theorem hoa (n:Nat) {α:Type} {G:Option α} {K:α->Option R} {S:α->St} {s:α->List Sk}
  (rule:∀(Φ:AOut->Prop) (r:R),G.bind K=some r->(∀x,G=some x->K x=some r->RW P (gg P n c).rd (gg P n c).base (gg P n c).o (Q1 (gg P n c).d (s x)) ((gg P n c).i+1) (S x) Φ)->RW P (gg P n c).rd (gg P n c).base (gg P n c).o (gg P n c).d (gg P n c).i (gg P n c).st Φ)
  (k:∀x,G=some x->Hl P Ω ((gg P n c).nx (s x) (S x)) (K x)) (e:goO P n c=true:=by kernel_rfl):Hl P Ω c (G.bind K):=fun r h=>Jw e fun hO=>Jl hO (rule _ r h fun x q h=>k x q r h)
theorem hob (n:Nat) {α:Type} {G:Option α} {K:α->Option R} {S:α->St} {s:α->List Sk}
  (rule:∀(Φ:AOut->Prop) (r:R),G.bind K=some r->(∀x,K x=some r->RW P (gg P n c).rd (gg P n c).base (gg P n c).o (Q1 (gg P n c).d (s x)) ((gg P n c).i+1) (S x) Φ)->RW P (gg P n c).rd (gg P n c).base (gg P n c).o (gg P n c).d (gg P n c).i (gg P n c).st Φ)
  (k:∀x,Hl P Ω ((gg P n c).nx (s x) (S x)) (K x)) (e:goO P n c=true:=by kernel_rfl):Hl P Ω c (G.bind K):=fun r h=>Jw e fun hO=>Jl hO (rule _ r h fun x h=>k x r h)
theorem hoq (n:Nat) {C:Prop} {S:St} {s:List Sk} (rule:∀(Φ:AOut->Prop) (r:R),D=some r->(C->A=some r->RW P (gg P n c).rd (gg P n c).base (gg P n c).o (Q1 (gg P n c).d s) ((gg P n c).i+1) S Φ)->RW P (gg P n c).rd (gg P n c).base (gg P n c).o (gg P n c).d (gg P n c).i (gg P n c).st Φ)
  (k:C->Hl P Ω ((gg P n c).nx s S) A) (e:goO P n c=true:=by kernel_rfl):Hl P Ω c D:=fun r h=>Jw e fun hO=>Jl hO (rule _ r h fun q h=>k q r h)
def RdI {σ ρ:Type} (P:Program) (base:Nat) (I:σ->St) (E:ρ->Xo × St) (o:Qh σ ρ):AOut->Prop:=Qjx P base I (fun v out=>out=.go (E v).1 (E v).2) o
def Cf.lb (c:Cf):Code:=match c.x with | .loop x=>x | _=>.skip
noncomputable def goL (P:Program) (n:Nat) (c:Cf):Bool:=match go P n c with | some c=>(match c.pos with | .code (.loop _)=>true | _=>false) | none=>false
def Cf.at' (c:Cf) (x:Code) (S:St):Cf:=⟨.code x,[],S,c.rd,c.base⟩
def Cf.ex (c:Cf) (y:Xo × St):Cf:=⟨.out y.1,c.fr,y.2,c.rd,c.base⟩
theorem Q0g {n:Nat} (h:goL P n c=true) {Ψ:AOut->Prop} (g:WP P (gg P n c).rd (gg P n c).base (.loop (gg P n c).lb) (gg P n c).st (Phi P Ψ (gg P n c).fr (gg P n c).rd (gg P n c).base)):Gl P Ψ c:=by
 unfold goL at h
 split at h
 ·rename_i c1 hc
  have hg:gg P n c=c1:=by unfold gg; rw [hc]
  rw [hg] at g
  refine Qha n c c1 hc ?_
  obtain ⟨pos,fr,st,rd,b⟩:=c1
  cases pos with
  | code x=>cases x <;> first | exact g | cases h
  | _=>cases h
 cases h
theorem hlp (n:Nat) {σ ρ:Type} {N:Nat} {body:σ->Option (Qh σ ρ)} {K:ρ->Option R} {s0:σ} (I:σ->St) (E:ρ->Xo × St) (w:Wk P (gg P n c).base (gg P n c).st (I s0))
  (b:∀s,Hl P (RdI P (gg P n c).base I E) ((gg P n c).at' (gg P n c).lb (I s)) (body s)) (k:∀x,Hl P Ω ((gg P n c).ex (E x)) (K x)) (e:goL P n c=true:=by kernel_rfl):Hl P Ω c ((Qc N body s0).bind K):=fun r h =>
 Q0g e (Q1a s0 w h (fun s o ho=>b s o ho) fun x hx out ho=>by subst ho; exact k x r hx)
theorem hsm {α β:Type} {D:α ⊕ β->Option R} {C:α ⊕ β->Cf} (k:∀x,Hl P Ω (C (.inl x)) (D (.inl x))) (k':∀x,Hl P Ω (C (.inr x)) (D (.inr x))):∀x,Hl P Ω (C x) (D x)
 | .inl x=>k x
 | .inr x=>k' x
theorem wkv {base:Nat} {st:St} {α:Type} {x y:α} (S:α->St) (hb:x=y) (hS:st=S x:=by kernel_rfl):Wk P base st (S y):=by rw [hS,hb]; exact Qwi
theorem wz {base:Nat} {st S:St} (keep:List Nat) (h:Qe1 base (S.slots.map (·.1)) keep st=some S:=by kernel_rfl):Wk P base st S:=Vo h
theorem wl {base:Nat} {st:St} (live keep:List Nat) (h:(Qe1 base live keep st).isSome=true:=by kernel_rfl):Wk P base st (gt0 (Qe1 base live keep st)):=Vo (gE h)
noncomputable def goN (P:Program) (n:Nat) (c:Cf):Bool:=match go P n c with | some ⟨.out .normal,[],_,_,_⟩=>true | _=>false
noncomputable def goE (P:Program) (n:Nat) (c:Cf):Option AOut:=match go P n c with | some ⟨.out e,[],st,_,_⟩=>some (.go e st) | _=>none
theorem hnx (n:Nat) {σ ρ:Type} {b0:Nat} {I:σ->St} {E:ρ->Xo × St} {s':σ} (w:Wk P b0 (gg P n c).st (I s')) (e:goN P n c=true:=by kernel_rfl):Hl P (RdI P b0 I E) c (some (.next s')):=fun r h=>by
 cases h
 unfold goN at e
 split at e
 ·rename_i st rd b hc
  refine Qha n c _ hc ⟨_,rfl,?_⟩
  have:(gg P n c).st=st:=by unfold gg; rw [hc]
  rw [<-this]; exact w
 cases e
theorem hdn (n:Nat) {σ ρ:Type} {b0:Nat} {I:σ->St} {E:ρ->Xo × St} {v:ρ} (e:goE P n c=some (.go (E v).1 (E v).2):=by kernel_rfl) (hn:(AOut.go (E v).1 (E v).2).normal=false:=by kernel_rfl):Hl P (RdI P b0 I E) c (some (.done v)):=fun r h=>by
 cases h
 unfold goE at e
 split at e
 ·rename_i ex st rd b hc
  cases e
  exact Qha n c _ hc ⟨rfl,hn⟩
 cases e
theorem hdx (n:Nat) {σ ρ:Type} {b0:Nat} {I:σ->St} {E:ρ->Xo × St} {v:ρ} (w:Wk P (gg P n c).base (gg P n c).st (E v).2) (f:goF P n c=true:=by kernel_rfl) (e:goE P 1 ((gg P n c).to (E v).2)=some (.go (E v).1 (E v).2):=by kernel_rfl)
  (hn:(AOut.go (E v).1 (E v).2).normal=false:=by kernel_rfl):Hl P (RdI P b0 I E) c (some (.done v)):=hwk n w (hdn 1 e hn) f
theorem hrt (n:Nat) {fn:Func} {hss:List (List LK)} {rv:R->AV} {ro:R->List AObj} {v:R} (e:(goE P n c).bind (Qfa P fn hss)=some (rv v,ro v):=by kernel_rfl):Hl P (fun x out=>Qfa P fn hss out=some (rv x,ro x)) c (some v):=fun r h=>by
 cases h
 unfold goE at e
 split at e
 ·rename_i ex st rd b hc
  exact Qha n c _ hc e
 cases e
def Ct {R:Type} (P:Program) (f:FuncId) (args:List AV) (D:Option R) (rv:R->AV) (ro:R->List AObj):Prop:=∀x,D=some x->Q3 P f args (.ret (rv x) (ro x))
def Func.cd (fn:Func):Code:=fn.body.getD .skip
theorem hfn (hss:List (List LK)) {f:FuncId} {fn:Func} {args:List AV} (hf:P.funcs[f]?=some fn) {rv:R->AV} {ro:R->List AObj}
  (k:Hl P (fun x out=>Qfa P fn hss out=some (rv x,ro x)) ⟨.code (Func.cd fn),[],st0 fn.ntmps args,none,0⟩ D) (hb:fn.body.isSome=true:=by kernel_rfl) (hn:(fn.name == "runtime.NumGoroutine")=false:=by decide +kernel) (hle:Nat.ble args.length fn.ntmps=true:=by kernel_rfl):Ct P f args D rv ro:=fun x h=>by
 cases hc:fn.body with
 | none=>rw [hc] at hb; cases hb
 | some cd=>have:=k x h; simp only [Func.cd,hc] at this; exact Q7s hss hf hc hn hle this
noncomputable def Cf.as (c:Cf):List AV:=match Zk c.o c.i c.st with | some (_,zs)=>zs | none=>[]
noncomputable def Cf.fid (c:Cf):Option FuncId:=(Zk c.o c.i c.st).map (·.1)
noncomputable def Cf.il (c:Cf) (fn:Func):Cf:=⟨.code (Func.cd fn),.inl fn c.o c.i c.st c.rd c.base::c.fr,⟨Vm 0 c.as,c.st.objs,fn.ntmps⟩,none,c.st.objs.length⟩
theorem Qoq {f:FuncId} (h:c.fid=some f):Zk c.o c.i c.st=some (f,c.as):=by
 unfold Cf.fid at h
 unfold Cf.as
 cases hc:Zk c.o c.i c.st with
 | none=>rw [hc] at h; cases h
 | some y=>rw [hc] at h; simp only [bK,aK] at h; subst h; rfl
theorem Qob {fn:Func} (h:fn.body.isSome=true):fn.body=some (Func.cd fn):=by
 unfold Func.cd
 cases hc:fn.body with
 | none=>rw [hc] at h; cases h
 | some x=>rfl
theorem hil (n:Nat) {f:FuncId} {fn:Func} (hf:P.funcs[f]?=some fn) (k:Hl P Ω ((gg P n c).il fn) D) (e:goO P n c=true:=by kernel_rfl) (hi:(gg P n c).fid=some f:=by kernel_rfl) (hd:(gg P n c).d=none:=by kernel_rfl)
  (hb:fn.body.isSome=true:=by kernel_rfl) (hn:(fn.name == "runtime.NumGoroutine")=false:=by decide +kernel) (hle:Nat.ble (gg P n c).as.length fn.ntmps=true:=by kernel_rfl):Hl P Ω c D:=fun r h=>Jw e fun hO=>Jl hO (by
 rw [hd]; exact Q7a (Qoq hi) hf (Qob hb) hn hle (k r h))
noncomputable def Cf.rg (c:Cf):Option (FuncId × List AV × List AV × List Tmp × Code × Code):=match c.x with
 | .rangeFunc g ps a b=>match evo (lk c.st.slots) g with
  | some (.fn (.func f) first caps)=>some (f,first,caps,ps.toList,a,b)
  | _=>none
 | _=>none
noncomputable def Cf.rS (c:Cf) (fn:Func):Cf:=match c.rg with
 | some (_,first,caps,ps,a,b)=>⟨.code (Func.cd fn),.rng fn c.st c.rd c.base::c.fr,Qmh c.st ps a b first caps fn.ntmps,none,c.st.objs.length+1⟩
 | none=>.bad
noncomputable def Cf.rL (c:Cf):Nat := match c.rg with
 | some (_,first,caps,_)=>(first++[AV.yld c.st.objs.length]++caps).length
 | none=>0
theorem hrg (n:Nat) {f:FuncId} {fn:Func} (hf:P.funcs[f]?=some fn) (k:Hl P Ω ((gg P n c).rS fn) D) (e:goX P n c=true:=by kernel_rfl) (hi:(gg P n c).rg.map (·.1)=some f:=by kernel_rfl)
  (hb:fn.body.isSome=true:=by kernel_rfl) (hn:(fn.name == "runtime.NumGoroutine")=false:=by decide +kernel) (hle:Nat.ble (gg P n c).rL fn.ntmps=true:=by kernel_rfl) (hr:Q1e (gg P n c).rd (gg P n c).st.objs=true:=by kernel_rfl):Hl P Ω c D:=fun r h=>Q49 e fun hX=>Q3s hX (by
 have k:=k r h
 generalize gg P n c=c' at *
 cases hc:c'.rg with
 | none=>rw [hc] at hi; cases hi
 | some y =>
  obtain ⟨g,first,caps,ps,a,b⟩:=y
  rw [hc] at hi
  simp only [bK,aK] at hi
  subst hi
  unfold Cf.rL at hle
  unfold Cf.rS at k
  rw [hc] at hle k
  unfold Cf.rg at hc
  split at hc
  ·rename_i g' ps' a' b' hx
   split at hc
   ·rename_i he
    cases hc
    rw [hx]
    exact Q08 he hf (Qob hb) hn hle hr k
   cases hc
  cases hc)
noncomputable def Cf.yi (c:Cf):Option (Nat × Nat × List AV × List (Nat × AV) × List Tmp × Code × Code):=match Qqq c.o c.i c.st with
 | some (l,us)=>match c.st.objs[l]? with
  | some (.loop nt sl ps a b .ready _)=>some (l,nt,us,sl,ps,a,b)
  | _=>none
 | none=>none
noncomputable def Cf.yS (c:Cf):Cf:=match c.yi with
 | some (l,nt,us,sl,ps,a,b)=>⟨.code a,.yA l nt b c.o c.i c.st c.rd c.base::c.fr,⟨Qmx sl ps us,c.st.objs,nt⟩,some l,c.st.objs.length⟩
 | none=>.bad
noncomputable def Cf.yb (c:Cf):Bool:=match c.yi with
 | some (l,nt,us,sl,ps,a,b)=>Nat.beq us.length ps.length && ps.all fun t=>Nat.blt t nt
 | none=>false
theorem hyl (n:Nat) (k:Hl P Ω (gg P n c).yS D) (e:goO P n c=true:=by kernel_rfl) (hd:(gg P n c).d=none:=by kernel_rfl) (hy:(gg P n c).yb=true:=by kernel_rfl):Hl P Ω c D:=fun r h=>Jw e fun hO=>Jl hO (by
 have k:=k r h
 generalize gg P n c=c' at *
 rw [hd]
 cases hc:c'.yi with
 | none=>unfold Cf.yb at hy; rw [hc] at hy; cases hy
 | some y =>
  obtain ⟨l,nt,us,sl,ps,a,b⟩:=y
  unfold Cf.yb at hy
  unfold Cf.yS at k
  rw [hc] at hy k
  unfold Cf.yi at hc
  split at hc
  ·rename_i hi
   split at hc
   ·rename_i hl
    cases hc
    exact Q8q hi hl hy k
   cases hc
  cases hc)
noncomputable def Qjy (t:Nat) (ws:List (Option Wt)) (st:St):Option (Option St × List ((Nat × Nat × List AV) × Wt)):=match lk st.slots t with
 | some x=>match snW st.sto Qo x ws with
  | some (y,ids,es,_)=>some (Qnt t y ids st,es)
  | none=>none
 | none=>none
noncomputable def Qjk (o i:Nat) (ws:List (Option Wt)) (st:St):Option (Option St × List ((Nat × Nat × List AV) × Wt)):=match st.sto o with
 | some (.row _ _ _ _ _ xs)=>match xs[i]? with
  | some x=>match snW st.sto Qo x ws with
   | some (y,ids,es,_)=>if Qb3 ids o then none else some (Qi5 o i y ids st,es)
   | none=>none
  | none=>none
 | _=>none
noncomputable def sn1 (x:Option (Option St × List ((Nat × Nat × List AV) × Wt))):Option St:=match x with | some (s,_)=>s | none=>none
noncomputable def sn2 (x:Option (Option St × List ((Nat × Nat × List AV) × Wt))):List ((Nat × Nat × List AV) × Wt):=match x with | some (_,e)=>e | none=>[]
theorem wsk {base:Nat} {st S:St} (t:Nat) (ws:List (Option Wt)) (h:sn1 (Qjy t ws st)=some S:=by kernel_rfl) (he:(sn2 (Qjy t ws st)).map (·.1)=(sn2 (Qjy t ws st)).map (fun p=>(p.2.i,p.2.n,p.2.xs)):=by kernel_rfl):Wk P base st S:=by
 cases hs:Qjy t ws st with
 | none=>rw [hs] at h; cases h
 | some z =>
  obtain ⟨s,es⟩:=z
  rw [hs] at h he
  unfold Qjy at hs
  split at hs
  ·rename_i x hx
   split at hs
   ·rename_i y ids es' ws' hsn
    cases hs
    exact Q30 t hx (Qaf Qo _ _ _ _ _ _ hsn he) h
   cases hs
  cases hs
theorem wsn {base:Nat} {st:St} (t:Nat) (ws:List (Option Wt)) (h:(sn1 (Qjy t ws st)).isSome=true:=by kernel_rfl) (he:(sn2 (Qjy t ws st)).map (·.1)=(sn2 (Qjy t ws st)).map (fun p=>(p.2.i,p.2.n,p.2.xs)):=by kernel_rfl):Wk P base st (gt0 (sn1 (Qjy t ws st))):=wsk t ws (gE h) he
theorem wok {base:Nat} {st S:St} (o i:Nat) (ws:List (Option Wt)) (h:sn1 (Qjk o i ws st)=some S:=by kernel_rfl) (he:(sn2 (Qjk o i ws st)).map (·.1)=(sn2 (Qjk o i ws st)).map (fun p=>(p.2.i,p.2.n,p.2.xs)):=by kernel_rfl):Wk P base st S:=by
 cases hs:Qjk o i ws st with
 | none=>rw [hs] at h; cases h
 | some z =>
  obtain ⟨s,es⟩:=z
  rw [hs] at h he
  unfold Qjk at hs
  split at hs
  ·rename_i ho
   split at hs
   ·rename_i x hx
    split at hs
    ·rename_i y ids es' ws' hsn
     split at hs
     ·cases hs
     rename_i hn
     cases hs
     exact Qt5 o i ho hx (by simpa using hn) (Qaf Qo _ _ _ _ _ _ hsn he) h
    cases hs
   cases hs
  cases hs
theorem won {base:Nat} {st:St} (o i:Nat) (ws:List (Option Wt)) (h:(sn1 (Qjk o i ws st)).isSome=true:=by kernel_rfl) (he:(sn2 (Qjk o i ws st)).map (·.1)=(sn2 (Qjk o i ws st)).map (fun p=>(p.2.i,p.2.n,p.2.xs)):=by kernel_rfl):Wk P base st (gt0 (sn1 (Qjk o i ws st))):=wok o i ws (gE h) he
noncomputable def Qn4 (o i:Nat) (A:AV) (ws:List (Option Wt)) (st:St):Option (Option St × List ((Nat × Nat × List AV) × Wt)):=match snW st.sto Qo A ws with
 | some (y,ids,es,_)=>if Qb3 ids o then none else some (Qi5 o i y ids st,es)
 | none=>none
theorem wcl {base:Nat} {st:St} (o:Nat) (ws:List (Option Wt)) {α:Type} {enc:α->AV} {L:List α} {n:Int} {a:α} {A:AV} {bx ro nr fl:Bool} {w:Nat} (ha:lkI L n=some a) (ho:st.sto o=some (.row bx ro nr fl w (Zd enc L n A)):=by kernel_rfl)
  (h:(sn1 (Qn4 o n.toNat A ws st)).isSome=true:=by kernel_rfl) (he:(sn2 (Qn4 o n.toNat A ws st)).map (·.1)=(sn2 (Qn4 o n.toNat A ws st)).map (fun p=>(p.2.i,p.2.n,p.2.xs)):=by kernel_rfl):Wk P base st (gt0 (sn1 (Qn4 o n.toNat A ws st))):=by
 have h:=gE h
 revert h he
 generalize gt0 (sn1 (Qn4 o n.toNat A ws st))=S
 cases hs:Qn4 o n.toNat A ws st with
 | none=>intro _ h; cases h
 | some z =>
  obtain ⟨s,es⟩:=z
  intro he h
  unfold Qn4 at hs
  split at hs
  ·rename_i y ids es' ws' hsn
   split at hs
   ·cases hs
   rename_i hn
   cases hs
   exact Q1m o ha ho (by simpa using hn) (Qaf Qo _ _ _ _ _ _ hsn he) h
  cases hs
def snP (σ:Sto):List (Nat × AV)->List (Option Wt)->Option (List (Nat × AV) × List Nat × List ((Nat × Nat × List AV) × Wt))
 | [],_=>some ([],[],[])
 | (i,x)::r,ws=>if x.nr then match snP σ r ws with
   | some (ys,b,e)=>some ((i,x)::ys,b,e)
   | none=>none
  else match snW σ Qo x ws with
   | some (y,a,e,ws)=>match snP σ r ws with
    | some (ys,b,e')=>some ((i,y)::ys,a++b,e++e')
    | none=>none
   | none=>none
theorem Qsw {σ:Sto}:∀(ps:List (Nat × AV)) (ws:List (Option Wt)) ys b e,snP σ ps ws=some (ys,b,e)->eqW e->Z3 σ ps=some (ys,b)
 | [],ws,ys,b,e,h,he=>by cases h; rfl
 | (i,x)::r,ws,ys,b,e,h,he=>by
  unfold snP at h
  split at h
  ·rename_i hx
   split at h
   ·rename_i ys2 b2 e2 h2
    cases h
    exact Qvj hx (Qsw r _ _ _ _ h2 he)
   cases h
  rename_i hx
  split at h
  ·rename_i y a e1 ws1 h1
   split at h
   ·rename_i ys2 b2 e2 h2
    cases h
    obtain ⟨g1,g2⟩:=Qjr he
    exact Qve (by simpa using hx) (Qaf _ _ _ _ _ _ _ h1 g1) (Qsw r _ _ _ _ h2 g2) rfl
   cases h
  cases h
noncomputable def Cf.bs (P:Program) (c:Cf) (he:List LK) (b:Bool) (ws:List (Option Wt)):Option (St × List (Nat × AObj) × List Nat × List ((Nat × Nat × List AV) × Wt)):=match Qtb P c.o c.i c.st with
 | some ps=>match snP c.st.sto ps ws with
  | some (parts,ids,e)=>match Q1k P c.o c.i c.st he b parts ids with
   | some (S,es)=>some (S,es,ids,e)
   | none=>none
  | none=>none
 | none=>none
noncomputable def Cf.bS (P:Program) (c:Cf) (he:List LK) (b:Bool) (ws:List (Option Wt)):Cf:=match c.bs P he b ws with
 | some (S,es,ids,_)=>c.nx [(es.map (·.1),ids)] S
 | none=>.bad
noncomputable def Cf.be (P:Program) (c:Cf) (he:List LK) (b:Bool) (ws:List (Option Wt)):List ((Nat × Nat × List AV) × Wt):=match c.bs P he b ws with
 | some (_,_,_,e)=>e
 | none=>[]
theorem hbs (n:Nat) (he:List LK) (b:Bool) (ws:List (Option Wt)) (k:Hl P Ω ((gg P n c).bS P he b ws) D) (e:goO P n c=true:=by kernel_rfl) (h:((gg P n c).bs P he b ws).isSome=true:=by kernel_rfl)
  (hw:((gg P n c).be P he b ws).map (·.1)=((gg P n c).be P he b ws).map (fun p=>(p.2.i,p.2.n,p.2.xs)):=by kernel_rfl):Hl P Ω c D:=fun r hr=>Jw e fun hO=>by
 have k:=k r hr
 revert k h hw
 unfold Cf.bS Cf.be
 generalize gg P n c=c' at *
 cases hs:c'.bs P he b ws with
 | none=>intro h; cases h
 | some z =>
  obtain ⟨S,es,ids,eq⟩:=z
  intro h hw k
  refine Jl hO ?_
  unfold Cf.bs at hs
  split at hs
  ·rename_i ps hi
   split at hs
   ·rename_i parts ids' e' hp
    split at hs
    ·rename_i S' es' hS
     cases hs
     exact bsR he b hi (Qsw _ _ _ _ _ hp hw) hS k
    cases hs
   cases hs
  cases hs
def Qk7:Code->List Bool->List Fr->Code × List Fr
 | .seq a b,w::ws,fr=>if w then Qk7 b ws fr else Qk7 a ws (.seq b::fr)
 | .block id x,_::ws,fr=>Qk7 x ws (.blk id::fr)
 | .scope x,_::ws,fr=>Qk7 x ws fr
 | .cond _ x y,w::ws,fr=>if w then Qk7 y ws fr else Qk7 x ws fr
 | c,_,fr=>(c,fr)
noncomputable def atW (P:Program) (fn:Func) (way:List Bool) (S:St):Cf:=settle P 1000 ⟨.code (Qk7 (Func.cd fn) way []).1,(Qk7 (Func.cd fn) way []).2,S,none,0⟩
theorem hjn (n:Nat) {c':Cf} (h:Hl P Ω c' D) (w:Wk P (gg P n c).base (gg P n c).st c'.st) (f:goF P n c=true:=by kernel_rfl) (e:(gg P n c).to c'.st=c':=by kernel_rfl):Hl P Ω c D:=hwk n w (by rw [e]; exact h) f
def Cf.lc (c:Cf) (S:St):Cf:=⟨.code c.lb,.lp c.lb::c.fr,S,c.rd,c.base⟩
theorem hst (n:Nat) {σ ρ:Type} {N:Nat} {cnd:σ->Bool} {body:σ->Option (Qh σ ρ)} {K:σ ⊕ ρ->Option R} {s0:σ} (I:σ->St) (E:ρ->Xo × St) (w:Wk P (gg P n c).base (gg P n c).st (I s0))
  (b:∀s,Hl P (RdI P (gg P n c).base I E) ((gg P n c).at' (gg P n c).lb (I s)) (body s)) (k1:∀y,Hl P Ω ((gg P n c).lc (I y)) (K (.inl y))) (k2:∀x,Hl P Ω ((gg P n c).ex (E x)) (K (.inr x))) (e:goL P n c=true:=by kernel_rfl):Hl P Ω c ((Qc N (Qlg cnd body) s0).bind K):=fun r h =>
 Q0g e (Qy0 s0 w h (fun s o ho=>b s o ho) (fun y hy=>Qg2 (k1 y r hy)) fun x hx out ho=>by subst ho; exact k2 x r hx)
def Quh {ρ:Type} (P:Program) (N:Nat) (E:ρ->St) (x:ρ):AOut->Prop
 | .go e s=>(e=.ret\/e=.normal)/\Wk P N s (E x)
 | .pan _=>False
theorem Q3w {σ ρ:Type} {N:Nat} {cd:Code} {I:σ->St} {E:ρ->St} {G:σ->Option ρ} (h:∀s,Hl P (Quh P N E) ⟨.code cd,[],I s,none,N⟩ (G s)):∀s x,G s=some x->WP P none N cd (I s) (fun o=>o=.go .ret (E x)\/o=.go .normal (E x)):=fun s x hx=>by
 refine Q36 ((h s x hx:WP P none N cd (I s) (Quh P N E x)).mono fun out ho=>?_)
 cases out with
 | pan v=>exact ho.elim
 | go e s1 =>
  obtain ⟨he,hw⟩:=ho
  refine ⟨_,hw,?_⟩
  rcases he with rfl | rfl
  ·exact .inl rfl
  exact .inr rfl
noncomputable def goR (P:Program) (n:Nat) (c:Cf):Bool:=match go P n c with | some ⟨.out .ret,[],_,_,_⟩=>true | some ⟨.out .normal,[],_,_,_⟩=>true | _=>false
theorem hre (n:Nat) {ρ:Type} {N:Nat} {E:ρ->St} {v:ρ} (w:Wk P N (gg P n c).st (E v)) (e:goR P n c=true:=by kernel_rfl):Hl P (Quh P N E) c (some v):=fun r h=>by
 cases h
 unfold goR at e
 split at e
 ·rename_i st rd b hc
  refine Qha n c _ hc ⟨.inl rfl,?_⟩
  have:(gg P n c).st=st:=by unfold gg; rw [hc]
  rw [<-this]; exact w
 ·rename_i st rd b hc
  refine Qha n c _ hc ⟨.inr rfl,?_⟩
  have:(gg P n c).st=st:=by unfold gg; rw [hc]
  rw [<-this]; exact w
 cases e
noncomputable def Cf.rc (c:Cf) (fn:Func) (N:Nat) (S:St):Cf:=⟨.out .ret,.inl fn c.o c.i c.st c.rd c.base::c.fr,S,none,N⟩
def Cf.rb (fn:Func) (N:Nat) (S:St):Cf:=⟨.code (Func.cd fn),[],S,none,N⟩
theorem hrc (n N:Nat) {σ ρ:Type} {F:(σ->Option ρ)->σ->Option ρ} {K:ρ->Option R} {s0:σ} (I:σ->St) (E:ρ->St) {f:FuncId} {fn:Func} (hf:P.funcs[f]?=some fn)
  (step:∀d,Qf2 P N (Func.cd fn) I E d->∀s,Hl P (Quh P N E) (Cf.rb fn N (I s)) (F d s)) (k:∀x,Hl P Ω ((gg P n c).rc fn N (E x)) (K x)) (e:goO P n c=true:=by kernel_rfl) (hi:(gg P n c).fid=some f:=by kernel_rfl) (hd:(gg P n c).d=none:=by kernel_rfl)
  (hb:fn.body.isSome=true:=by kernel_rfl) (hn:(fn.name == "runtime.NumGoroutine")=false:=by decide +kernel) (hle:Nat.ble (gg P n c).as.length fn.ntmps=true:=by kernel_rfl)
  (h0:(⟨Vm 0 (gg P n c).as,(gg P n c).st.objs,fn.ntmps⟩:St)=I s0:=by kernel_rfl) (hN:(gg P n c).st.objs.length=N:=by kernel_rfl):Hl P Ω c ((Qa7 F fuel s0).bind K):=fun r h=>Jw e fun hO=>Jl hO (by
 rw [hd]; exact Q8k s0 (Qoq hi) hf (Qob hb) hn hle h0 hN h (fun d hd'=>Q3w (step d hd')) fun x hx=>k x r hx)
theorem hrJ (n N:Nat) {σ ρ:Type} {F:σ->Option ρ} {K:ρ->Option R} {s0:σ} {I:σ->St} {E:ρ->St} {f:FuncId} {fn:Func} (hf:P.funcs[f]?=some fn)
  (IH:Qf2 P N (Func.cd fn) I E F) (k:∀x,Hl P Ω ((gg P n c).rc fn N (E x)) (K x)) (e:goO P n c=true:=by kernel_rfl) (hi:(gg P n c).fid=some f:=by kernel_rfl) (hd:(gg P n c).d=none:=by kernel_rfl)
  (hb:fn.body.isSome=true:=by kernel_rfl) (hn:(fn.name == "runtime.NumGoroutine")=false:=by decide +kernel) (hle:Nat.ble (gg P n c).as.length fn.ntmps=true:=by kernel_rfl)
  (h0:(⟨Vm 0 (gg P n c).as,(gg P n c).st.objs,fn.ntmps⟩:St)=I s0:=by kernel_rfl) (hN:(gg P n c).st.objs.length=N:=by kernel_rfl):Hl P Ω c ((F s0).bind K):=fun r h=>Jw e fun hO=>Jl hO (by
 rw [hd]; exact Q6d s0 (Qoq hi) hf (Qob hb) hn hle h0 hN IH h fun x hx=>k x r hx)
theorem hri (n N:Nat) {σ ρ:Type} {F:σ->Option ρ} {K:ρ->Option R} {s0:σ} {I:σ->St} {E:ρ->St} (eff:ρ->List (Nat × AObj)) (w:List Nat) {f:FuncId} {fn:Func} (hf:P.funcs[f]?=some fn)
  (hA:∀y∈(gg P n c).st.objs.take N,Qa1 N y) (hA':∀x,∀y∈(E x).objs,Qa1 N y) (IH:Qf2 P N (Func.cd fn) I E F)
  (k:∀x,Hl P Ω ((gg P n c).nx [(w,List.range N)] (gt0 (Ql0 P fn (gg P n c).o (gg P n c).i (gg P n c).st (eff x) (E x)))) (K x)) (e:goO P n c=true:=by kernel_rfl) (hi:(gg P n c).fid=some f:=by kernel_rfl)
  (hb:fn.body.isSome=true:=by kernel_rfl) (hn:(fn.name == "runtime.NumGoroutine")=false:=by decide +kernel) (hle:Nat.ble (gg P n c).as.length fn.ntmps=true:=by kernel_rfl)
  (h0:(⟨Vm 0 (gg P n c).as,(gg P n c).st.objs.take N,fn.ntmps⟩:St)=I s0:=by kernel_rfl) (hN:Nat.ble N (gg P n c).st.objs.length=true:=by kernel_rfl) (hbig:Nat.ble (gg P n c).st.objs.length BIG=true:=by kernel_rfl) (hlive:((gg P n c).st.objs.take N).all Qsh=true:=by kernel_rfl)
  (hE:∀x,Nat.beq (E x).objs.length N=true:=by (intro _; kernel_rfl)) (hsl:((gg P n c).as.all fun a=>a.ids.all fun o=>Nat.blt o N)=true:=by kernel_rfl) (heff:∀x,Z5 ((gg P n c).st.objs.take N) (eff x)=some (E x).objs:=by (intro _; kernel_rfl))
  (hw:∀x,(eff x).map (·.1)=w:=by (intro _; rfl)) (hwl:(w.all fun o=>Nat.blt o N)=true:=by kernel_rfl) (hS:∀x,(Ql0 P fn (gg P n c).o (gg P n c).i (gg P n c).st (eff x) (E x)).isSome=true:=by (intro _; kernel_rfl)):Hl P Ω c ((F s0).bind K):=fun r h=>Jw e fun hO=>Jl hO
 (Q8l s0 eff _ w (Qoq hi) hf (Qob hb) hn hle h0 hN hbig hlive hA hE hA' hsl heff hw hwl IH h (fun x=>gE (hS x)) fun x hx=>k x r hx)
end
section
variable {P:Program} {R:Type} {Ω:R->AOut->Prop} {c:Cf} {D A B:Option R}
end
attribute [irreducible] Hl Gl Phi ctl stp settle go gg goO goX goF goL goN goE Cf.o Cf.d Cf.i Cf.isO Cf.x Cf.isX Cf.free Cf.nx Cf.nx2 Cf.to Cf.sn Cf.ids Cf.eqs Cf.us Cf.cl Cf.lb Cf.at' Cf.ex Cf.as Cf.fid Cf.il Cf.rg Cf.rS Cf.rL Cf.yi Cf.yS Cf.yb Cf.bs Cf.bS Cf.be Cf.lc atW goR Cf.rc Cf.rb Quh RdI Cf.cut Cf.cutOk goC Func.cd
end Go.Ab
namespace Go.Ab
open Go.RowKit
section
variable {P:Program} {rd:Option Nat} {base:Nat} {ops:Array Oper} {d:Option (List Sk)} {st S:St} {Φ:AOut->Prop} {i:Nat}
end
def Qlj {α:Type} (f:α->α):Nat -> List α->List α
 | _,[]=>[]
 | 0,v::vs=>f v::vs
 | n+1,v::vs=>v::Qlj f n vs
def setJ (x:Int):List Nat -> AV->AV
 | [],.int k _=>.int k x
 | i::p,.agg vs=>.agg (Qlj (setJ x p) i vs)
 | i::p,.fz vs=>.fz (Qlj (setJ x p) i vs)
 | _,v=>v
def Qxa (x:Int):List (Nat × List Nat)->List (Nat × AV)->List (Nat × AV)
 | [],s=>s
 | (t,p)::ts,s=>Qxa x ts (match lk s t with | some v=>setS s t (setJ x p v) | none=>s)
def Q70 (x:Int) (p:List Nat):AObj->AObj
 | .row bx ro nr fl w vs=>.row bx ro nr fl w (Qlj (setJ x p) 0 vs)
 | o=>o
def Q3f (x:Int):List (Nat × List Nat)->List AObj->List AObj
 | [],s=>s
 | (o,p)::ts,s=>Q3f x ts (Qlj (Q70 x p) o s)
def pJ (ts:List Nat) (ps os:List (Nat × List Nat)) (x:Int) (st:St):St:=⟨Qxa x ps (Qxa x (ts.map fun t=>(t,[])) st.slots),Q3f x os st.objs,st.nt⟩
section
variable {P:Program} {R:Type} {Ω:R->AOut->Prop} {c:Cf} {A B:Option R}
theorem hqj (n:Nat) (ts:List Nat) (ps os:List (Nat × List Nat)) {x m:Int} (k:x=m->Hl P Ω ((gg P n c).to (pJ ts ps os m (gg P n c).st)) A) (k':x≠m->Hl P Ω (gg P n c) B) (e:(go P n c).isSome=true:=by kernel_rfl) (hS:(gg P n c).st=pJ ts ps os x (gg P n c).st:=by kernel_rfl):Hl P Ω c (if x=m then A else B):=hqi n (fun x=>pJ ts ps os x (gg P n c).st) k k' e hS
theorem hsq (n:Nat) {x m:Nat} (S:Nat -> St) (k:Hl P Ω ((gg P n c).to (S m)) A) (e:(go P n c).isSome=true:=by kernel_rfl) (hS:(gg P n c).st=S x:=by kernel_rfl):Hl P Ω c (if x=m then A else none):=by
 by_cases hx:x=m
 ·rw [aH hx]; exact hkn n S hx k e hS
 rw [aI hx]; exact hnn
end
def Q8s:Option Nat -> AV
 | none=>.nilf
 | some g=>.fn (.func g) [] []
theorem mgs {α:Type} {p:Int × α} {r:List (Int × α)} {n:Int} (h:n≠p.1) (h2:Qa2 r n=none):Qa2 (p::r) n=none:=by
 simp only [Qa2,dC,aI h,h2]
section
variable {P:Program} {rd:Option Nat} {base:Nat} {ops:Array Oper} {d:Option (List Sk)} {st S:St} {Φ:AOut->Prop} {i:Nat}
theorem Q8d {α:Type} {enc:α->AV} {kk:IntKind} {l:List (Int × α)} {n:Int} {z:α} {ob:Nat} {c:Bool} (hno:Qa2 l n=none) (hi:Qpu P ops i st=some (ob,.int kk n,c,enc z)) (hrow:st.sto ob=some (Q6r kk enc l)) (hok:∀v,(enc v).okv=true)
  (hS:Zl ops i st (some (if c then .tup [enc z,.bool false] else enc z)) []=some S) (k:RW P rd base ops (Q1 d [([],[ob])]) (i+1) S Φ):RW P rd base ops d i st Φ :=
 Q77 hi hrow hok (by rw [hno]; exact hS) k
end
end Go.Ab
