/- Rules on plain values. No conditions. -/
import Derived.Test.YtebpheijhmlpjaaEng7
import Derived.ChangeArms
import Derived.OpenShut
import Derived.WideKeyArgs
import Derived.Test.YtebpheijhmlpjaaEng5
import Derived.KernelRfl
import Derived.Shelf.SlSortCmp.NoneTotal
set_option linter.all false
namespace Go.Ab
open Go.RowKit
inductive Sh where
 | int (k:IntKind)
 | bool
 | str
 | slice (fl ag:Bool) (w:Nat) (e:Sh)
 | cat (a b:Sh)
 | unit
def Sh.scal:Sh→Bool
 | .slice ..=>false
 | .cat a b=>a.scal && b.scal
 | _=>true
def Sh.width:Sh→Nat
 | .cat a b=>a.width+b.width
 | .unit=>0
 | _=>1
def WT:Sh→List AV→Prop
 | .int k,cs=>∃n,cs=[.int k n]∧(Lit.int k n).wf=true
 | .bool,cs=>∃b,cs=[.bool b]
 | .str,cs=>∃s,cs=[.str s]∧s.size≤maxLen
 | .slice fl ag w e,cs=>∃xs,cs=[.lst fl xs]∧xs.length≤maxLen∧∀x∈xs,WT e x.flat ∧ (if ag then x=.agg x.flat else x.cell=true)
 | .cat a b,cs=>∃x y,cs=x++y∧WT a x∧WT b y
 | .unit,cs=>cs=[]
def isAggT (P:Program) (t:TypeId):Bool:=match P.underlying t with | some (.struct _)=>true | _=>false
def shFields (P:Program) (rec:TypeId→Option Sh):List Field→Nat → Option Sh
 | [],_=>some .unit
 | f::r,o=>match rec f.type with
  | some s=>if Nat.beq f.offset o && Nat.beq s.width (P.cellsOf f.type) then (match shFields P rec r (o+s.width) with | some q=>some (.cat s q) | none=>none) else none
  | none=>none
def shOf (P:Program):Nat → TypeId→Option Sh
 | 0,_=>none
 | n+1,t=>match P.underlying t with
  | some .bool=>some .bool
  | some (.int k)=>some (.int k)
  | some .string=>some .str
  | some (.slice e)=>match shOf P n e with
   | some s=>if Nat.beq s.width (P.cellsOf e) && Nat.blt 0 (P.cellsOf e) && (isAggT P e || Nat.beq s.width 1) then some (.slice s.scal (isAggT P e) (P.cellsOf e) s) else none
   | none=>none
  | some (.struct fs)=>match shFields P (shOf P n) fs.toList 0 with
   | some s=>if Nat.beq s.width (P.cellsOf t) then some s else none
   | none=>none
  | _=>none
theorem WT_len:∀{s:Sh} {cs:List AV},WT s cs→cs.length=s.width
 | .int k,cs,h=>by obtain ⟨n,rfl,_⟩:=h; rfl
 | .bool,cs,h=>by obtain ⟨n,rfl⟩:=h; rfl
 | .str,cs,h=>by obtain ⟨n,rfl,_⟩:=h; rfl
 | .slice _ _ _ _,cs,h=>by obtain ⟨n,rfl,_⟩:=h; rfl
 | .cat a b,cs,h=>by obtain ⟨x,y,rfl,h1,h2⟩:=h; simp [Sh.width,WT_len h1,WT_len h2]
 | .unit,cs,h=>by cases h; rfl
theorem WT_scal:∀{s:Sh} {cs:List AV},WT s cs→s.scal=true→cs.all AV.sc=true
 | .int k,cs,h,_=>by obtain ⟨n,rfl,_⟩:=h; rfl
 | .bool,cs,h,_=>by obtain ⟨n,rfl⟩:=h; rfl
 | .str,cs,h,_=>by obtain ⟨n,rfl,_⟩:=h; rfl
 | .slice _ _ _ _,cs,h,hs=>by cases hs
 | .cat a b,cs,h,hs=>by
  obtain ⟨x,y,rfl,h1,h2⟩:=h
  simp only [Sh.scal,Bool.and_eq_true] at hs
  rw [List.all_append,WT_scal h1 hs.1,WT_scal h2 hs.2]; rfl
 | .unit,cs,h,_=>by cases h; rfl
def CellsOk (M:CM) (cs:List Value) (avs:List AV):Prop:=avs.length=cs.length∧∀(j:Nat) (v:Value) (y:AV),cs[j]?=some v→avs[j]?=some y→RepV M noInj v y∧y.cell=true
theorem cellsOk_one {M:CM} {v:Value} {y:AV} (h:RepV M noInj v y) (hc:y.cell=true):CellsOk M [v] [y]:=by
 refine ⟨rfl,fun j v' y' h1 h2=>?_⟩
 cases j with
 | zero=>cases h1; cases h2; exact ⟨h,hc⟩
 | succ j=>simp at h1
theorem cellsOk_append {M:CM} {a b:List Value} {x y:List AV} (h1:CellsOk M a x) (h2:CellsOk M b y):CellsOk M (a++b) (x++y):=by
 refine ⟨by simp [h1.1,h2.1],fun j v z hv hz=>?_⟩
 rcases Nat.lt_or_ge j a.length with hj | hj
 ·rw [List.getElem?_append_left hj] at hv
  rw [List.getElem?_append_left (by rw [h1.1]; exact hj)] at hz
  exact h1.2 j v z hv hz
 ·rw [List.getElem?_append_right hj] at hv
  rw [List.getElem?_append_right (by rw [h1.1]; exact hj),h1.1] at hz
  exact h2.2 _ v z hv hz
theorem choose_list {α:Type} {n:Nat} {Q:Nat → α→Prop} (h:∀i,i < n→∃x,Q i x):∃xs:List α,xs.length=n∧∀i x,xs[i]?=some x→Q i x:=by
 induction n with
 | zero=>exact ⟨[],rfl,fun i x hx=>by simp at hx⟩
 | succ n ih =>
  obtain ⟨xs,h1,h2⟩:=ih fun i hi=>h i (by omega)
  obtain ⟨x,hx⟩:=h n (by omega)
  refine ⟨xs++[x],by simp [h1],fun i y hy=>?_⟩
  rcases Nat.lt_or_ge i xs.length with hi | hi
  ·rw [List.getElem?_append_left hi] at hy; exact h2 i y hy
  ·rw [List.getElem?_append_right hi] at hy
   cases hk:i - xs.length with
   | zero =>
    rw [hk] at hy
    cases hy
    rw [show i=n by omega]; exact hx
   | succ k=>rw [hk] at hy; simp at hy
def memOf (w:World):CM:=fun b o=>w.cell? ⟨b,o,none⟩
theorem mapM_some {α β:Type} {f:α→Option β}:∀{l:List α} {r:List β},l.mapM f=some r→r.length=l.length∧∀(i:Nat) (a:α),l[i]?=some a→f a=r[i]?
 | [],r,h=>by simp at h; subst h; simp
 | a::l,r,h=>by
  simp only [List.mapM_cons,Option.pure_def,Option.bind_eq_bind,Option.bind_eq_some_iff] at h
  obtain ⟨b,hb,bs,hbs,h⟩:=h
  cases h
  obtain ⟨h1,h2⟩:=mapM_some hbs
  refine ⟨by simp [h1],fun i x hx=>?_⟩
  cases i with
  | zero=>cases hx; simpa using hb
  | succ i=>simpa using h2 i x (by simpa using hx)
theorem cells_at {w:World} {base:Nat} {a:Addr} {n:Nat} {row:List Value} (h:w.cells? base a n=some row):row.length=n∧∀i,i < n→w.cell? (a.add i)=row[i]?:=by
 unfold World.cells? at h
 split at h
 ·obtain ⟨h1,h2⟩:=mapM_some h
  refine ⟨by simpa using h1,fun i hi=>h2 i i (by simp [hi])⟩
 ·cases h
theorem cell_spot {w:World} {a:Addr} {v:Value} (h:w.cell? a=some v):a.spot=none:=by
 unfold World.cell? at h
 cases hs:a.spot with
 | none=>rfl
 | some s =>
  simp only [hs] at h
  split at h <;> simp at h
theorem add_zero' (a:Addr):a.add 0=a:=by simp [Addr.add]
theorem add_none (b off k:Nat):(⟨b,off,none⟩:Addr).add k=⟨b,off+k,none⟩:=by
 unfold Addr.add
 split
 ·rename_i h; subst h; rfl
 ·rfl
section
variable {H:Type} {enc:TypeId × Value→H} {P:Program} {w:World} {base:Nat}
theorem fields_rep {cs:List Value} {m:Nat} {rec:TypeId→Option Sh} (ih:∀(t:TypeId) (s:Sh),rec t=some s→∀(cs:List Value) (x:DataW H × List MemPlace),DataW.trod enc P w base (fun _=>true) true m t cs=some x→∃avs,CellsOk (memOf w) cs avs∧WT s avs) :
  ∀(l:List Field) (o:Nat) (s:Sh),shFields P rec l o=some s→(∀f∈l,∃x,DataW.trod enc P w base (fun _=>true) true m f.type ((cs.drop f.offset).take (P.cellsOf f.type))=some x)→∃avs,CellsOk (memOf w) ((cs.drop o).take s.width) avs∧WT s avs
 | [],o,s,h,_=>by
  cases h
  exact ⟨[],⟨by simp [Sh.width],fun j v y h1 h2=>by simp at h2⟩,rfl⟩
 | f::l,o,s,h,hf=>by
  unfold shFields at h
  split at h
  ·rename_i s1 hs1
   split at h
   ·rename_i hc
    split at h
    ·rename_i q hq
     cases h
     simp only [Bool.and_eq_true] at hc
     have h1:=Nat.eq_of_beq_eq_true hc.1
     have h2:=Nat.eq_of_beq_eq_true hc.2
     obtain ⟨x,hx⟩:=hf f (by simp)
     rw [h1,←h2] at hx
     obtain ⟨a1,c1,w1⟩:=ih _ _ hs1 _ _ hx
     obtain ⟨a2,c2,w2⟩:=fields_rep ih l (o+s1.width) q hq (fun g hg=>hf g (by simp [hg]))
     refine ⟨a1++a2,?_,a1,a2,rfl,w1,w2⟩
     have e:(cs.drop o).take (s1.width+q.width)=(cs.drop o).take s1.width++(cs.drop (o+s1.width)).take q.width:=by
      rw [List.take_add,List.drop_drop]
     simp only [Sh.width]
     rw [e]
     exact cellsOk_append c1 c2
    ·cases h
   ·cases h
  ·cases h
theorem flat_agg (cs:List AV):(AV.agg cs).flat = cs:=rfl
theorem trod_rep:∀(n:Nat) (t:TypeId) (s:Sh),shOf P n t=some s→∀(m:Nat) (cs:List Value) (x:DataW H × List MemPlace),DataW.trod enc P w base (fun _=>true) true m t cs=some x→∃avs,CellsOk (memOf w) cs avs∧WT s avs
 | 0,t,s,h=>by simp [shOf] at h
 | n+1,t,s,h=>by
  intro m cs x hx
  unfold shOf at h
  split at h
  ·rename_i ht
   cases h
   obtain ⟨b,rfl,_⟩:=DataW.trod_bool ht hx
   exact ⟨[.bool b],cellsOk_one (.bool b) rfl,b,rfl⟩
  ·rename_i k ht
   cases h
   obtain ⟨z,rfl,_,hw⟩:=DataW.trod_int ht hx
   exact ⟨[.int k z],cellsOk_one (.int k z) rfl,z,rfl,hw⟩
  ·rename_i ht
   cases h
   obtain ⟨z,rfl,_,hw⟩:=DataW.trod_string ht hx
   exact ⟨[.str z],cellsOk_one (.str z) rfl,z,rfl,hw⟩
  ·rename_i e ht
   split at h
   ·rename_i s1 hs1
    split at h
    ·rename_i hc
     cases h
     simp only [Bool.and_eq_true,Bool.or_eq_true] at hc
     obtain ⟨⟨hw,hpos⟩,hag⟩:=hc
     have hw:=Nat.eq_of_beq_eq_true hw
     have hpos:0 < P.cellsOf e:=by simpa using hpos
     rcases DataW.trod_slice ht hx with ⟨rfl,_⟩ | ⟨a,len,cap,elems,rest,n',_,rfl,_,hb,hl,hm,hlen,hel,hsp,_⟩
     ·exact ⟨[.lst s1.scal []],cellsOk_one (.lst0 none _) rfl,[],rfl,by simp,fun x hx=>by cases hx⟩
     ·have hsp:=hsp rfl
      have hspot:0 < cap→a.spot=none:=fun hcap=>by
       have key:∃row,w.cells? base a (P.cellsOf e)=some row:=by
        rcases Nat.eq_zero_or_pos len with h0 | h0
        ·have:=hsp.2 0 (by omega)
         rw [List.getElem?_eq_getElem (by omega)] at this
         obtain ⟨row,h1,_⟩:=Option.bind_eq_some_iff.1 this
         rw [h0,Nat.add_zero,Nat.zero_mul,add_zero'] at h1
         exact ⟨row,h1⟩
        ·have:=hel 0 h0
         rw [List.getElem?_eq_getElem (by omega)] at this
         obtain ⟨row,h1,_⟩:=Option.bind_eq_some_iff.1 this
         rw [Nat.zero_mul,add_zero'] at h1
         exact ⟨row,h1⟩
       obtain ⟨row,hk⟩:=key
       obtain ⟨h1,h2⟩:=cells_at hk
       have h3:=h2 0 hpos
       rw [List.getElem?_eq_getElem (by omega),add_zero'] at h3
       exact cell_spot h3
      rcases Nat.eq_zero_or_pos cap with h0 | h0
      ·have hl0:len=0:=by omega
       subst h0; subst hl0
       exact ⟨[.lst s1.scal []],cellsOk_one (.lst0 _ _) rfl,[],rfl,by simp,fun x hx=>by cases hx⟩
      ·have hspot:=hspot h0
       obtain ⟨blk,off,spot⟩:=a
       simp only at hspot
       subst hspot
       have each:∀i,i < len→∃z:AV,z.shaped (P.cellsOf e)∧WT s1 z.flat ∧ (if isAggT P e then z=.agg z.flat else z.cell=true)∧∀(j:Nat) (y:AV),z.flat[j]?=some y→∃v,w.cell? ⟨blk,off+i*P.cellsOf e+j,none⟩=some v∧RepV (memOf w) noInj v y:=by
        intro i hi
        have h1:=hel i hi
        rw [List.getElem?_eq_getElem (by omega)] at h1
        obtain ⟨row,h2,h3⟩:=Option.bind_eq_some_iff.1 h1
        obtain ⟨avs,c1,w1⟩:=trod_rep n e s1 hs1 _ _ _ h3
        obtain ⟨g1,g2⟩:=cells_at h2
        have hlen':=WT_len w1
        have cellv:∀(j:Nat) (y:AV),avs[j]?=some y→∃v,w.cell? ⟨blk,off+i*P.cellsOf e+j,none⟩=some v∧RepV (memOf w) noInj v y∧y.cell=true:=fun j y hy=>by
         have hj:=(List.getElem?_eq_some_iff.1 hy).1
         have h5:=g2 j (by omega)
         have h6:row[j]?=some row[j]:=List.getElem?_eq_getElem (by rw [←c1.1]; exact hj)
         rw [h6] at h5
         refine ⟨_,?_,c1.2 j _ y h6 hy⟩
         rw [add_none,add_none] at h5
         exact h5
        by_cases ha:isAggT P e=true
        ·refine ⟨.agg avs,⟨.inl rfl,by rw [flat_agg]; omega,fun y hy=>?_⟩,w1,by rw [if_pos ha]; rfl,fun j y hy=>?_⟩
         ·rw [flat_agg] at hy
          obtain ⟨j,hj⟩:=List.mem_iff_getElem?.1 hy
          obtain ⟨_,_,_,h⟩:=cellv j y hj
          exact h
         ·obtain ⟨v,h1,h2,_⟩:=cellv j y hy
          exact ⟨v,h1,h2⟩
        ·have h1:s1.width=1:=by
          rcases hag with h | h
          ·exact absurd h ha
          ·exact Nat.eq_of_beq_eq_true h
         obtain ⟨z,rfl⟩:∃z,avs=[z]:=by
          match avs,hlen' with
          | [z],_=>exact ⟨z,rfl⟩
          | [],h=>simp [h1] at h
          | _::_::_,h=>simp [h1] at h
         obtain ⟨v,hv,hr,hcell⟩:=cellv 0 z rfl
         have hflat : z.flat = [z]:=by cases z <;> simp_all [AV.flat,AV.cell]
         refine ⟨z,⟨.inr hcell,by rw [hflat]; simp; omega,fun y hy=>by rw [hflat] at hy; simp at hy; rw [hy]; exact hcell⟩,by rw [hflat]; exact w1,by rw [if_neg ha]; exact hcell,fun j y hy=>?_⟩
         rw [hflat] at hy
         cases j with
         | zero=>cases hy; exact ⟨v,by simpa using hv,hr⟩
         | succ j=>simp at hy
       obtain ⟨xs,hxl,hxs⟩:=choose_list each
       refine ⟨[.lst s1.scal xs],cellsOk_one ?_ rfl,xs,rfl,by omega,fun z hz=>?_⟩
       ·have:=RepV.lst (M:=memOf w) (ι:=noInj) blk off cap (P.cellsOf e) s1.scal xs (fun i j=>(w.cell? ⟨blk,off+i*P.cellsOf e+j,none⟩).getD default) (by omega)
         (fun hfl z hz=>by
          obtain ⟨i,hi⟩:=List.mem_iff_getElem?.1 hz
          exact WT_scal (hxs i z hi).2.1 hfl)
         (fun z hz=>by
          obtain ⟨i,hi⟩:=List.mem_iff_getElem?.1 hz
          exact (hxs i z hi).1)
         (fun i j z y hz hy=>by
          obtain ⟨v,h1,h2⟩:=(hxs i z hz).2.2.2 j y hy
          simp only [memOf]
          rw [h1]; rfl)
         (fun i j z y hz hy=>by
          obtain ⟨v,h1,h2⟩:=(hxs i z hz).2.2.2 j y hy
          rw [h1]; exact h2)
        rwa [hxl] at this
       ·obtain ⟨i,hi⟩:=List.mem_iff_getElem?.1 hz
        exact ⟨(hxs i z hi).2.1,(hxs i z hi).2.2.1⟩
    ·cases h
   ·cases h
  ·rename_i fs ht
   split at h
   ·rename_i s1 hs1
    split at h
    ·rename_i hw
     cases h
     have hw:=Nat.eq_of_beq_eq_true hw
     obtain ⟨xs,n',_,_,hl,hxs,hf⟩:=DataW.trod_struct ht hx
     obtain ⟨avs,c1,w1⟩:=fields_rep (cs:=cs) (m:=n') (rec:=shOf P n) (fun t s hs cs x hx=>trod_rep n t s hs _ _ _ hx) fs.toList 0 s hs1 (fun f hf'=>by
      obtain ⟨i,hi⟩:=List.mem_iff_getElem?.1 hf'
      have h1:=hf i f (by simpa using hi)
      have hi':=(List.getElem?_eq_some_iff.1 hi).1
      rw [List.getElem?_eq_getElem (by rw [hxs]; simpa using hi')] at h1
      exact ⟨_,h1⟩)
     refine ⟨avs,?_,w1⟩
     rw [List.drop_zero,List.take_of_length_le (by omega)] at c1
     exact c1
    ·cases h
   ·cases h
  ·cases h
theorem arg_struct {t:TypeId} {s:Sh} {v:Value} {d:DataW H} {ps:List MemPlace} {b0:Nat} (n:Nat) (hs:shOf P n t=some s) (ha:isAggT P t=true) (hok:Value.okWide P w .any b0 t v)
  (h:DataW.Trod enc P w base (fun _=>true) true t v d ps):∃avs,RepV (memOf w) noInj v (.agg avs)∧WT s avs:=by
 obtain ⟨m,hm⟩:=h
 obtain ⟨avs,c1,w1⟩:=trod_rep n t s hs m _ _ hm
 have hv:∃cs,v=.agg cs:=by
  unfold isAggT at ha
  unfold Value.okWide at hok
  split at ha
  ·rename_i fs hfs
   rw [hfs] at hok
   obtain ⟨cs,h1,_⟩:=hok
   exact ⟨cs,h1⟩
  ·cases ha
 obtain ⟨cs,rfl⟩:=hv
 refine ⟨avs,.agg cs avs (by simpa [Value.cells] using c1.1.symm) (fun y hy=>?_) (fun j u y hu hy=>?_),w1⟩
 ·obtain ⟨j,hj⟩:=List.mem_iff_getElem?.1 hy
  have hj':=(List.getElem?_eq_some_iff.1 hj).1
  rw [c1.1] at hj'
  exact (c1.2 j _ y (List.getElem?_eq_getElem hj') hj).2
 ·exact (c1.2 j u y (by simpa [Value.cells] using hu) hy).1
end
theorem sameAt_of {W W':World} (h:∀b,b < W.heap.size→W'.heap[b]?=W.heap[b]?) {p:MemPlace} (hp:p.block < W.heap.size):W.sameAt W' p:=by
 cases p with
 | cell b off =>
  show W'.cell? ⟨b,off,none⟩=W.cell? ⟨b,off,none⟩
  unfold World.cell?
  rw [h b hp]
 | map b=>exact h b hp
theorem calls_args {P:Program} {f:FuncId} {args:List AV} {b:Bool} (h:CallOk P f args (.ret (.bool b) [])) {W:World} {vs:Array Value} (hl:vs.size=args.length)
  (hr:∀(j:Nat) (v:Value) (a:AV),vs[j]?=some v→args[j]?=some a→RepV (memOf W) noInj v a):Calls P f vs W fun e W'=>e=.returned (.bool b)∧Below W.heap.size W W'∧∀b,b < W.heap.size→W'.heap[b]?=W.heap[b]?:=by
 refine (h W (memOf W) vs (fun _ _ _ h=>h) hl hr).mono fun e W' he=>?_
 obtain ⟨v,M',ι',he,_,hrel,_,hv⟩:=he
 cases hv
 exact ⟨he,hrel.below.toBelow,fun b hb=>hrel.below.block b hb⟩
theorem flat_cell {x:AV} (h:x.cell=true):x.flat = [x]:=by cases x <;> simp_all [AV.flat,AV.cell]
theorem lists_of {α:Type} {enc:α→AV} {R:α→Prop} {xs:List AV} (h:∀x∈xs,∃a,x=enc a∧R a):∃l:List α,xs=l.map enc∧∀a∈l,R a:=by
 induction xs with
 | nil=>exact ⟨[],rfl,fun n hn=>by cases hn⟩
 | cons x xs ih =>
  obtain ⟨l,rfl,hl⟩:=ih fun y hy=>h y (by simp [hy])
  obtain ⟨a,rfl,ha⟩:=h x (by simp)
  refine ⟨a::l,rfl,fun m hm=>?_⟩
  rcases List.mem_cons.1 hm with rfl | hm
  ·exact ha
  ·exact hl m hm
end Go.Ab
namespace Go.Ab
open Go.RowKit
def isCellT (P:Program) (t:TypeId):Bool:=match P.underlying t with | some (.int _)=>true | some .bool=>true | some .string=>true | some (.slice _)=>true | _=>false
section
variable {H:Type} {enc:TypeId × Value→H} {P:Program} {w:World} {base:Nat}
theorem arg_cell {t:TypeId} {s:Sh} {v:Value} {d:DataW H} {ps:List MemPlace} {b0:Nat} (n:Nat) (hs:shOf P n t=some s) (ha:isCellT P t=true) (hok:Value.okWide P w .any b0 t v)
  (h:DataW.Trod enc P w base (fun _=>true) true t v d ps):∃y,RepV (memOf w) noInj v y∧WT s [y]:=by
 obtain ⟨m,hm⟩:=h
 obtain ⟨avs,c1,w1⟩:=trod_rep n t s hs m _ _ hm
 have hv:v.cells=#[v]:=by
  cases v with
  | agg cs =>
   exfalso
   unfold isCellT at ha
   unfold Value.okWide at hok
   split at ha <;> (rename_i hu; first | (rw [hu] at hok; unfold Cell.okWide at hok; rw [hu] at hok; unfold Cell.ok at hok; rw [hu] at hok; exact hok) | cases ha)
  | _=>rfl
 rw [hv] at c1
 obtain ⟨h1,h2⟩:=c1
 simp at h1
 obtain ⟨y,rfl⟩:∃y,avs=[y]:=List.length_eq_one_iff.1 h1
 exact ⟨y,(h2 0 v y rfl rfl).1,w1⟩
end
end Go.Ab
namespace Go.Ab
section
variable {P:Program} {rd:Option Nat} {base:Nat} {ops:Array Oper} {st S:St} {Φ:AOut→Prop} {d:Option (List Sk)} {i:Nat} {c y:Code}
theorem sgz (k j:Nat) {S:St} (hk:RW P rd base ops none j S Φ) (h:runSt P false ops k i st=some S:=by as_aux_lemma=>kernel_rfl) (hj:i+k=j:=by rfl):RW P rd base ops none i st Φ:=sg false k j h hj hk
theorem sgy (k j:Nat) {S:St} (hk:RW P rd base ops (dAdd d (runSk P false ops k i st)) j S Φ) (h:runSt P false ops k i st=some S:=by as_aux_lemma=>kernel_rfl) (hj:i+k=j:=by rfl):RW P rd base ops d i st Φ:=sg false k j h hj hk
theorem rgN {id:Nat} {S:St} (hk:Φ (.go .normal S)) (h:runSt P false ops ops.size 0 st=some S:=by as_aux_lemma=>kernel_rfl):WP P rd base (.region id ops false) st Φ :=
 reg_in (sg false ops.size ops.size h (Nat.zero_add _) (reg_end rfl hk))
theorem sqN {id:Nat} {S:St} (hk:WP P rd base y S Φ) (h:runSt P false ops ops.size 0 st=some S:=by as_aux_lemma=>kernel_rfl):WP P rd base (.seq (.region id ops false) y) st Φ :=
 wp_seq (rgN hk h)
theorem wgc (live keep:List Nat) (S:St) (hk:WP P rd base c S Φ) (h:gcSt base live keep st=some S:=by as_aux_lemma=>kernel_rfl):WP P rd base c st Φ:=wp_wk (wk_gc h) hk
theorem rga {id:Nat} (hm:P.follows .mixedOrders=true) (h:RW P rd base ops (some []) 0 st Φ) (hB:lexF ops=true:=by as_aux_lemma=>kernel_rfl):WP P rd base (.region id ops true) st Φ:=reg_any (by simp [hm]) (lexF_ok hB) h
def gt (o:Option St) (d:St):St:=match o with | some S=>S | none=>d
noncomputable def nx (P:Program) (ops:Array Oper) (k i:Nat) (st:St):St:=gt (runSt P false ops k i st) st
noncomputable def gx (base:Nat) (live keep:List Nat) (st:St):St:=gt (gcSt base live keep st) st
noncomputable def lx (P:Program) (ops:Array Oper) (i:Nat) (st:St) (hv he:List LK) (b:Bool):St:=gt (runL P false ops i st hv he b) st
theorem get_of {o:Option St} {d:St} (h:o.isSome=true):o=some (gt o d):=by
 cases o with
 | none=>cases h
 | some S=>rfl
theorem sz (k j:Nat) (hk:RW P rd base ops none j (nx P ops k i st) Φ) (h:(runSt P false ops k i st).isSome=true:=by as_aux_lemma=>kernel_rfl) (hj:i+k=j:=by rfl):RW P rd base ops none i st Φ:=sg false k j (get_of h) hj hk
theorem sy (k j:Nat) (hk:RW P rd base ops (dAdd d (runSk P false ops k i st)) j (nx P ops k i st) Φ) (h:(runSt P false ops k i st).isSome=true:=by as_aux_lemma=>kernel_rfl) (hj:i+k=j:=by rfl):RW P rd base ops d i st Φ:=sg false k j (get_of h) hj hk
theorem rn {id:Nat} (hk:Φ (.go .normal (nx P ops ops.size 0 st))) (h:(runSt P false ops ops.size 0 st).isSome=true:=by as_aux_lemma=>kernel_rfl):WP P rd base (.region id ops false) st Φ:=rgN hk (get_of h)
theorem sq {id:Nat} (hk:WP P rd base y (nx P ops ops.size 0 st) Φ) (h:(runSt P false ops ops.size 0 st).isSome=true:=by as_aux_lemma=>kernel_rfl):WP P rd base (.seq (.region id ops false) y) st Φ:=sqN hk (get_of h)
theorem wg (live keep:List Nat) (hk:WP P rd base c (gx base live keep st) Φ) (h:(gcSt base live keep st).isSome=true:=by as_aux_lemma=>kernel_rfl):WP P rd base c st Φ:=wgc live keep _ hk (get_of h)
theorem sl (nf:Bool) (hv he:List LK) (b:Bool) (hn:nf=false) (hk:RW P rd base ops (dAdd d [runLSk P nf ops i st]) (i+1) (lx P ops i st hv he b) Φ) (h:(runL P false ops i st hv he b).isSome=true:=by as_aux_lemma=>kernel_rfl):RW P rd base ops d i st Φ:=by
 subst hn; exact sgL false hv he b (get_of h) hk
theorem wbr {R:Type} {b:Bool} {S:Bool→St} {A B:Option R} {r:R} (h:(if b=true then A else B)=some r) (h1:b=true→A=some r→WP P rd base c (S true) Φ) (h2:b=false→B=some r→WP P rd base c (S false) Φ) (hS:st=S b:=by as_aux_lemma=>kernel_rfl):WP P rd base c st Φ:=by
 rw [hS]; exact wp_br h h1 h2
theorem wwh {σ ρ R:Type} {n:Nat} {body:σ→Option (Step σ ρ)} {K:ρ→Option R} {r:R} {s0:σ} (h:(whileN n body s0).bind K=some r) (I:σ→St) (Ex:ρ→AOut→Prop) (hw:Wk P base st (I s0))
  (round:∀s o,body s=some o→WP P rd base c (I s) (RoundIs' P base I Ex o)) (k:∀x,K x=some r→∀out,Ex x out→Φ out):WP P rd base (.loop c) st Φ:=wp_while s0 hw h round k
theorem wbz {R:Type} {b:Bool} {A B:Option R} {r:R} {x:Code} {op:Operand} (h:(if b=true then A else B)=some r) (h1:b=true→A=some r→WP P rd base x st Φ) (h2:b=false→B=some r→WP P rd base y st Φ)
  (he:evo (lk st.slots) op=some (.bool b):=by as_aux_lemma=>kernel_rfl):WP P rd base (.cond op x y) st Φ:=wp_cond he (fun hb=>h1 hb (by rw [hb] at h; simpa using h)) (fun hb=>h2 hb (by rw [hb] at h; simpa using h))
theorem rwg (live keep:List Nat) (hk:RW P rd base ops none i (gx base live keep st) Φ) (h:(gcSt base live keep st).isSome=true:=by as_aux_lemma=>kernel_rfl):RW P rd base ops none i st Φ:=rw_wk (wk_gc (get_of h)) hk
theorem wcT {x:Code} {op:Operand} (h:WP P rd base x st Φ) (he:evo (lk st.slots) op=some (.bool true):=by as_aux_lemma=>kernel_rfl):WP P rd base (.cond op x y) st Φ:=wp_condT he h
theorem wcF {x:Code} {op:Operand} (h:WP P rd base y st Φ) (he:evo (lk st.slots) op=some (.bool false):=by as_aux_lemma=>kernel_rfl):WP P rd base (.cond op x y) st Φ:=wp_condF he h
theorem rgd {acc:List Sk} (h:Φ (.go .normal st)) (hi:i=ops.size:=by rfl) (hc:compatD ops.toList acc=true:=by as_aux_lemma=>kernel_rfl):RW P rd base ops (some acc) i st Φ:=reg_endD hi hc h
theorem kr {α:Sort _} {a b:α} (h:a=b:=by as_aux_lemma=>kernel_rfl):a=b:=h
def gt0 (o:Option St):St:=match o with | some S=>S | none=>⟨[],[],0⟩
theorem gE {o:Option St} (h:o.isSome=true:=by as_aux_lemma=>kernel_rfl):o=some (gt0 o):=by
 cases o with
 | none=>cases h
 | some S=>rfl
theorem gF {α:Type} {o:α→Option St} (h:∀x,(o x).isSome=true:=by as_aux_lemma=>(intro _; kernel_rfl)):∀x,o x=some (gt0 (o x)):=fun x=>gE (h x)
def putBs (b:Bool):List Nat → List (Nat × AV)→List (Nat × AV)
 | [],s=>s
 | t::ts,s=>putBs b ts (setS s t (.bool b))
def pB (ts:List Nat) (b:Bool) (st:St):St:=⟨putBs b ts st.slots,st.objs,st.nt⟩
def setLen (n:Nat):AV→AV
 | .ref o i _=>.ref o i n
 | .lin o i _=>.lin o i n
 | x=>x
def putLs (n:Nat):List Nat → List (Nat × AV)→List (Nat × AV)
 | [],s=>s
 | t::ts,s=>putLs n ts (match lk s t with | some x=>setS s t (setLen n x) | none=>s)
def pL (ts:List Nat) (n:Nat) (st:St):St:=⟨putLs n ts st.slots,st.objs,st.nt⟩
theorem wb (ts:List Nat) {R:Type} {b:Bool} {A B:Option R} {r:R} (h:(if b=true then A else B)=some r) (h1:b=true→A=some r→WP P rd base c (pB ts true st) Φ) (h2:b=false→B=some r→WP P rd base c (pB ts false st) Φ) (hS:st=pB ts b st:=by as_aux_lemma=>kernel_rfl):WP P rd base c st Φ:=by
 rw [hS]; exact wp_br (S:=fun b=>pB ts b st) h h1 h2
theorem rb (ts:List Nat) {R:Type} {b:Bool} {A B:Option R} {r:R} (h:(if b=true then A else B)=some r) (h1:b=true→A=some r→RW P rd base ops d i (pB ts true st) Φ) (h2:b=false→B=some r→RW P rd base ops d i (pB ts false st) Φ) (hS:st=pB ts b st:=by as_aux_lemma=>kernel_rfl):RW P rd base ops d i st Φ:=by
 rw [hS]; exact rw_br (S:=fun b=>pB ts b st) h h1 h2
theorem wk (ts:List Nat) {b c':Bool} (hb:b=c') (h:WP P rd base c (pB ts c' st) Φ) (hS:st=pB ts b st:=by as_aux_lemma=>kernel_rfl):WP P rd base c st Φ:=by rw [hS,hb]; exact h
theorem rl (ts:List Nat) {n m:Nat} (hn:n=m) (h:RW P rd base ops d i (pL ts m st) Φ) (hS:st=pL ts n st:=by as_aux_lemma=>kernel_rfl):RW P rd base ops d i st Φ:=by rw [hS,hn]; exact h
theorem callW {α R:Type} {G:Option α} {K:α→Option R} {f:FuncId} {us:List AV} {rv:α→AV} {ro:α→List AObj} {r:R} (hb:bodyB P f=true)
  (hc:∀x,G=some x→CallOk P f us (.ret (rv x) (ro x))) (h:G.bind K=some r)
  (k:∀x,G=some x→K x=some r→RW P rd base ops (dAdd d [callSk st [] (rv x) (ro x)]) (i+1) (gt0 (callSt ops i st [] (rv x) (ro x))) Φ)
  (hi:callInfo ops i st=some (f,us):=by as_aux_lemma=>kernel_rfl) (hsn:mapSnap (snap st.sto snapDepth) us=some (us,[]):=by as_aux_lemma=>kernel_rfl)
  (hS:∀x,(callSt ops i st [] (rv x) (ro x)).isSome=true:=by as_aux_lemma=>(intro _; kernel_rfl)):RW P rd base ops d i st Φ :=
 callR hi hb hsn hc (gF hS) h k
theorem rknN {n m:Nat} {S:Nat → St} (hb:n=m) (h:RW P rd base ops d i (S m) Φ) (hS:st=S n:=by as_aux_lemma=>kernel_rfl):RW P rd base ops d i st Φ:=by rw [hS]; exact rw_knN hb h
end
abbrev z1:List Int→AV:=eL true eI
abbrev z2:List (List Int)→AV:=eL false z1
abbrev zw:Int→Int:=IntKind.i64.wrap
abbrev zv:Int→Int:=IntKind.u64.wrap
abbrev zt:Int→Nat := Int.toNat
abbrev zn {α:Type} (l:List α):Int:=(l.length:Int)
end Go.Ab
namespace Go.Ab
section
variable {P:Program} {rd:Option Nat} {base:Nat} {ops:Array Oper} {st:St} {Φ:AOut→Prop} {i:Nat}
end
section
variable {P:Program} {rd:Option Nat} {base:Nat} {ops:Array Oper} {st:St} {Φ:AOut→Prop} {i:Nat}
end
noncomputable def slotSt (t:Nat) (hs:List LK) (st:St):Option St :=
 match lk st.slots t with
 | some x=>some ⟨setS st.slots t (loosen1 hs x),st.objs,st.nt⟩
 | none=>none
theorem wk_slotK {P:Program} {base:Nat} {st st':St} (t:Nat) (hs:List LK) (h:slotSt t hs st=some st'):Wk P base st st':=by
 unfold slotSt at h
 split at h
 ·rename_i x hx; cases h; exact wk_slot t hs hx
 ·cases h
noncomputable def frzSt (ids:List Nat) (st:St):Option St :=
 match frz st.sto ids with
 | some es=>match applyEff st.objs es with
  | some objs=>some ⟨st.slots,objs,st.nt⟩
  | none=>none
 | none=>none
theorem wk_frz {P:Program} {base:Nat} {st st':St} (ids:List Nat) (h:frzSt ids st=some st'):Wk P base st st':=by
 unfold frzSt at h
 split at h
 ·rename_i es hes
  split at h
  ·rename_i objs ha
   cases h
   intro B W0 D0 dl M ι a W hsim
   obtain ⟨p1,p2,p3⟩:=applyEff_puts _ _ _ ha
   have h':=frz_sound hsim.rel hes
   have hg:=hsim.rel.growC ids
   refine ⟨_,ι,hg,.refl _ _,⟨?_,fun k z hk=>(hsim.slots k z hk).mono hg.le (Inj.le_refl _),hsim.nt,hsim.df,fun k hk=>hsim.new k (fun c=>hk (c.mono p2)),p3 hsim.big⟩⟩
   show Rel P B W0 (dl++D0) _ ι (sto objs) W
   rw [p1]; exact h'
  ·cases h
 ·cases h
end Go.Ab
namespace Go.Ab
open Go.RowKit
def CallIn (P:Program) (f:FuncId) (az:List AV) (objs:List AObj) (r:AV) (objs':List AObj):Prop :=
 ∀(B:Nat) (W0 W:World) (D:List Nat) (M:CM) (ι:Inj) (vs:Array Value),Rel P B W0 D M ι (sto objs) W→D.Nodup→(∀k,¬ InB objs.length k→ι k=none)→objs.length≤BIG→vs.size=az.length →
  (∀(j:Nat) (v:Value) (a:AV),vs[j]?=some v→az[j]?=some a→RepV M ι v a) →
  Calls P f vs W fun e W'=>∃v M' ι',e=.returned v∧CM.Grow B M M'∧ι.le ι'∧Rel P B W0 D M' ι' (sto objs') W'∧(∀k,¬ InB objs'.length k→ι' k=none)∧objs'.length≤BIG∧RepV M' ι' v r
theorem opX_callIn {P:Program} {rd:Option Nat} {base:Nat} {o:Oper} {st:St} {g:Operand} {args:Array Operand} {ts:Array TypeId} {f:FuncId} {fn:Func} {first caps az:List AV} {x:AV} {objs':List AObj} {slots:List (Nat × AV)}
  (ho:o.op=.call { callee:=.value g,args,argTypes:=ts }) (hg:evo (lk st.slots) g=some (.fn (.func f) first caps)) (has:evos (lk st.slots) args.toList=some az)
  (hf:P.funcs[f]?=some fn) (hb:fn.body.isSome=true) (hn:(fn.name == "runtime.NumGoroutine")=false)
  (h:CallIn P f (first++az++caps) st.objs x objs') (hput:putD st.slots st.nt o.dst (some x)=some slots) :
  OpX P rd base o st (.go .normal ⟨slots,objs',st.nt⟩):=by
 intro B W0 D0 dl M ι a W n Q r hs hr' hp
 have hgv:=evo_sound hs.slots hg
 generalize hgu:a.eval g=gu at hgv
 cases hgv with
 | fn _ first' caps' _ _ hy hm h1 h2 hr1 hr2 =>
 obtain ⟨l1,e1⟩:=evos_sound hs.slots has
 refine ⟨fun _ _=>trivial,?_⟩
 rw [Oper.semAt_eq _ _ _ (by rw [ho]; simp)]
 have hrun:(execOp a.eval o).run P W=.ok (.enter f (first'++args.map a.eval++caps')) W:=by
  simp only [execOp,ho,resolve,hgu,Deferred.ofValue,Sem.run_bind,Sem.run_pure,Result.andThen_ok,invoke]
  exact run_callFunc' hf hb hn _ W
 rw [hrun,Oper.uponIn_enter]
 have hrep:∀(j:Nat) (v:Value) (y:AV),(first'++args.map a.eval++caps')[j]?=some v→(first++az++caps)[j]?=some y→RepV M ι v y :=
  list3_at h1 (by simpa using l1.symm) h2 hr1 (fun j v y hv hy=>by
   simp only [Array.getElem?_map,Option.map_eq_some_iff] at hv
   obtain ⟨w,hw,rfl⟩:=hv
   exact (e1 j w y (by simpa using hw) hy).2) hr2
 refine ⟨fun hd=>by simp [FW,Fence.wide] at hd,callsIn_FW ((h B W0 W (dl++D0) M ι _ hs.rel hs.df.nd hs.new hs.big (by simp [h1,h2,l1]) hrep).mono ?_)⟩
 rintro e W' ⟨v,M',ι',rfl,g1,g2,g3,g4,g4b,g5⟩
 obtain ⟨k1,k2,k3⟩:=slotsOk_put (u:=v) (hs.slots.mono g1.le g2) hs.nt hput (fun y hy=>by cases hy; exact g5)
 exact hp.go .normal _ rfl dl M' ι' _ W' g1 (g2.leB base) (List.suffix_refl _) ⟨g3,k1,k2,hs.df.put,g4,g4b⟩
def putRes (ops:Array Oper) (i:Nat) (st:St) (x:AV) (objs':List AObj):Option St :=
 match ops[i]? with
 | some o=>match putD st.slots st.nt o.dst (some x) with
  | some slots=>some ⟨slots,objs',st.nt⟩
  | none=>none
 | none=>none
section
variable {P:Program} {rd:Option Nat} {base:Nat} {ops:Array Oper} {st:St} {Φ:AOut→Prop} {i:Nat}
theorem callInR {f:FuncId} {fn:Func} {as0:List AV} {x:AV} {objs':List AObj} {S:St} (hi:callInfo ops i st=some (f,as0)) (hf:P.funcs[f]?=some fn) (hb:fn.body.isSome=true) (hn:(fn.name == "runtime.NumGoroutine")=false)
  (h:CallIn P f as0 st.objs x objs') (hS:putRes ops i st x objs'=some S) (k:RW P rd base ops none (i+1) S Φ):RW P rd base ops none i st Φ:=by
 obtain ⟨o,g,args,ts,first,caps,as1,ho,hop,hg,has,rfl⟩:=callInfo_spec hi
 obtain ⟨h1,h2⟩:=opAt_spec ho
 unfold putRes at hS
 rw [h1] at hS
 simp only at hS
 split at hS
 ·rename_i slots hp
  cases hS
  obtain ⟨out2,k1,k2⟩:=k
  have hi':i < ops.size:=(Array.getElem?_eq_some_iff.1 h1).1
  refine ⟨out2,?_,k2⟩
  rw [restI_cons hi']
  exact opsX_cons h1 h2 (opX_callIn hop hg has hf hb hn h hp) k1
 ·cases hS
end
end Go.Ab
namespace Go.Ab
open Go.RowKit Go.Shelf Go.Sort Go.Proofs
structure CmpOk {T:Type} (good:T→Bool) (c:T→T→Option Int) (le:T→T→Bool):Prop where
 tot:∀x y,good x=true→good y=true→∃r,c x y=some r∧(r < 0↔le y x=false)
 trans:∀x y z,le x y=true→le y z=true→le x z=true
 total:∀x y,(le x y || le y x)=true
 anti:∀x y,le x y=true→le y x=true→x=y
def insL {T:Type} (le:T→T→Bool) (x:T):List T→List T
 | []=>[x]
 | y::l=>if le x y=true then x::y::l else y::insL le x l
def isort {T:Type} (le:T→T→Bool):List T→List T
 | []=>[]
 | x::l=>insL le x (isort le l)
theorem insL_perm {T:Type} (le:T→T→Bool) (x:T):∀(l:List T),(insL le x l).Perm (x::l)
 | []=>.refl _
 | y::l=>by
  unfold insL
  split
  ·exact .refl _
  ·exact ((insL_perm le x l).cons y).trans (.swap x y l)
theorem isort_perm {T:Type} (le:T→T→Bool):∀(l:List T),(isort le l).Perm l
 | []=>.refl _
 | x::l=>(insL_perm le x (isort le l)).trans ((isort_perm le l).cons x)
theorem insL_sorted {T:Type} {le:T→T→Bool} (trans:∀x y z,le x y=true→le y z=true→le x z=true) (total:∀x y,(le x y || le y x)=true) (x:T):∀(l:List T),l.Pairwise (fun x y=>le x y=true)→(insL le x l).Pairwise (fun x y=>le x y=true)
 | [],_=>by simp [insL]
 | y::l,h=>by
  unfold insL
  rw [List.pairwise_cons] at h
  split
  ·rename_i hxy
   refine List.pairwise_cons.2 ⟨fun z hz=>?_,List.pairwise_cons.2 h⟩
   rcases List.mem_cons.1 hz with rfl | hz
   ·exact hxy
   ·exact trans _ _ _ hxy (h.1 z hz)
  ·rename_i hxy
   refine List.pairwise_cons.2 ⟨fun z hz=>?_,insL_sorted trans total x l h.2⟩
   rcases List.mem_cons.1 ((insL_perm le x l).mem_iff.1 hz) with rfl | hz
   ·have:=total z y
    simp only [Bool.or_eq_true] at this
    exact this.resolve_left hxy
   ·exact h.1 z hz
theorem isort_sorted {T:Type} {le:T→T→Bool} (trans:∀x y z,le x y=true→le y z=true→le x z=true) (total:∀x y,(le x y || le y x)=true):∀(l:List T),(isort le l).Pairwise (fun x y=>le x y=true)
 | []=>.nil
 | x::l=>insL_sorted trans total x _ (isort_sorted trans total l)
theorem sorted_one {T:Type} {le:T→T→Bool} (anti:∀x y,le x y=true→le y x=true→x=y):∀{l l':List T},l.Perm l'→l.Pairwise (fun x y=>le x y=true)→l'.Pairwise (fun x y=>le x y=true)→l=l'
 | [],l',h,_,_=>by rw [List.Perm.nil_eq h]
 | x::l,[],h,_,_=>absurd h.length_eq (by simp)
 | x::l,y::l',h,h1,h2=>by
  rw [List.pairwise_cons] at h1 h2
  have e:x=y:=by
   have m1:x∈y::l':=h.mem_iff.1 (by simp)
   have m2:y∈x::l:=h.mem_iff.2 (by simp)
   rcases List.mem_cons.1 m1 with e | m1
   ·exact e
   ·rcases List.mem_cons.1 m2 with e | m2
    ·exact e.symm
    ·exact anti x y (h1.1 y m2) (h2.1 x m1)
  subst e
  rw [sorted_one anti h.cons_inv h1.2 h2.2]
structure RawOk {T:Type} (M:CM) (good:T→Bool) (enc:T→AV) (k:Nat) (z:T × List Value):Prop where
 good:good z.1=true
 len:z.2.length=k
 one:∀v∈z.2,v.oneCell'=true
 rep:∀(j:Nat) (v:Value) (y:AV),z.2[j]?=some v→(enc z.1).flat[j]?=some y→RepV M noInj v y
theorem grow_of {W W':World} (h:Beneath W.heap.size W W'):∃q os,W'=grow (W.drewN q) os:=by
 obtain ⟨⟨h1,h2,h3,h4,h5⟩,h6⟩:=h
 refine ⟨W'.drawn - W.drawn,W'.heap.extract W.heap.size W'.heap.size,?_⟩
 have e:W'.heap=W.heap++W'.heap.extract W.heap.size W'.heap.size:=by
  apply Array.ext_getElem?
  intro k
  rcases Nat.lt_or_ge k W.heap.size with hk | hk
  ·rw [Array.getElem?_append_left hk]; exact h5 k hk
  ·rw [Array.getElem?_append_right hk,Array.getElem?_extract]
   rcases Nat.lt_or_ge k W'.heap.size with hk' | hk'
   ·rw [if_pos (by omega)]; congr 1; omega
   ·rw [if_neg (by omega),Array.getElem?_eq_none hk']
 cases W'; cases W
 simp only [grow,World.drewN] at *
 subst h1; subst h2; subst h3
 congr 1
 omega
theorem setMany_all (F:Array Value) (vs:List Value) (h:vs.length=F.size):Go.Sort.setMany F 0 vs=vs.toArray:=by
 apply Array.ext (by simp [h])
 intro t ht1 ht2
 have h1:t < F.size:=by simpa using ht1
 have:=Go.Sort.get_setMany vs 0 F t h1
 rw [if_pos (by omega)] at this
 rw [getElem!_pos _ t (by simpa using ht1),getElem!_pos _ (t - 0) (by omega)] at this
 simpa using this
theorem sort_callIn {P:Program} {ρ:Ren} (L:SlLaysF0.n6 P ρ) {T:Type} {enc:T→AV} {k:Nat} (aE:∀w,(isAgg (ρ.t 24)).run P w=.ok true w) (zE:∀w,(Go.sizeOf (ρ.t 24)).run P w=.ok k w)
  {good:T→Bool} {c:T→T→Option Int} {le:T→T→Bool} (hc:CmpOk good c le) {g:FuncId} {gfn:Func} (hgf:P.funcs[g]?=some gfn) (hgb:gfn.body.isSome=true) (hgn:(gfn.name == "runtime.NumGoroutine")=false)
  (hcon:∀x y r,c x y=some r→CallOk P g [enc x,enc y] (.ret (.int .i64 r) [])) (hagg:∀x,enc x=.agg (enc x).flat) (hw:∀x,(enc x).flat.length=k) (hcl:∀x,∀y∈(enc x).flat,AV.cell y=true)
  {objs:List AObj} {o:Nat} {fl:Bool} {l:List T} (hrow:objs[o]?=some (.row false false true fl k (l.map enc))) (hgood:l.all good=true) (hlen:l.length < 4611686018427387904) :
  CallIn P (ρ.f 6) [.ref o 0 l.length,.fn (.func g) [] []] objs (.tup []) (objs.set o (.row false false true fl k ((isort le l).map enc))):=by
 intro B W0 W D M ι vs hrel hnd hnew hbig hsz hrep
 have hob:o < BIG:=Nat.lt_of_lt_of_le (List.getElem?_eq_some_iff.1 hrow).1 hbig
 have hσ:sto objs o=some (.row false false true fl k (l.map enc)):=sto_at hob hrow rfl
 obtain ⟨p,hp,hrw⟩:=hrel.row o _ _ _ _ _ _ hσ
 obtain ⟨v0,v1,rfl⟩:∃v0 v1,vs=#[v0,v1]:=by
  have h2:vs.size=2:=hsz
  refine ⟨vs[0],vs[1],?_⟩
  apply Array.ext (by simp [h2])
  intro i h3 h4
  match i,h4 with
  | 0,_=>rfl
  | 1,_=>rfl
 have r0:=hrep 0 v0 _ rfl rfl
 have r1:=hrep 1 v1 _ rfl rfl
 obtain ⟨v1',e1⟩:∃x:Unit,v1=.func (.func g) #[] #[]:=by
  cases r1 with
  | fn _ first' caps' _ _ hy hm h1 h2 hr1 hr2 =>
   have a1:first'=#[]:=Array.eq_empty_of_size_eq_zero h1
   have a2:caps'=#[]:=Array.eq_empty_of_size_eq_zero h2
   exact ⟨(),by rw [a1,a2]⟩
 subst e1
 have hset:sto (objs.set o (.row false false true fl k ((isort le l).map enc)))=(sto objs).put o (.row false false true fl k ((isort le l).map enc)):=sto_set hrow rfl rfl hob
 have hlen':(objs.set o (.row false false true fl k ((isort le l).map enc))).length=objs.length:=List.length_set
 have hinb:∀k',¬ InB (objs.set o (.row false false true fl k ((isort le l).map enc))).length k'→ι k'=none:=by rw [hlen']; exact hnew
 by_cases hne:l=[]
 ·subst hne
  obtain ⟨ad,cap,rfl⟩:∃ad cap,v0=.slice ad 0 cap:=by
   cases r0 with
   | ref0 a o p hp hc=>exact ⟨a,0,rfl⟩
   | ref _ _ _ q off cap hq hi' hcap hoff=>exact ⟨_,cap,rfl⟩
  refine (AnyF.slices_SortFunc_none L ad cap (.func (.func g) #[] #[]) W).mono ?_
  rintro e W' ⟨rfl,rfl⟩
  have hs:(sto objs).put o (.row false false true fl k ((isort le ([]:List T)).map enc))=sto objs:=by
   funext j
   by_cases e:j=o
   ·subst e; rw [Sto.put_same,hσ]; rfl
   ·rw [Sto.put_ne _ _ e]
  exact ⟨_,M,ι,rfl,.refl _ _,Inj.le_refl _,by rw [hset,hs]; exact hrel,hinb,by rw [hlen']; exact hbig,.tup _ _ rfl (fun j v y h=>by simp at h)⟩
 ·have hpos:0 < l.length:=List.length_pos_iff.2 hne
  have hcapl:l.length≤p.cap:=by have:=hrw.len; simpa using this
  obtain ⟨cap,rfl⟩:∃cap,v0=.slice (some ⟨p.blk,p.base,none⟩) l.length cap:=by
   generalize hn:l.length=n at r0
   cases r0 with
   | ref0 a o q hq hc=>rw [hp] at hq; cases hq; omega
   | ref _ _ _ q off cap hq hi' hcap hoff =>
    rw [hp] at hq; cases hq
    refine ⟨cap,?_⟩
    rcases hoff with h1 | h1
    ·rw [h1]; simp
    ·omega
  obtain ⟨hB,hown⟩:=hrw.own rfl
  have hk0:0 < k:=hrw.pos
  have hfit:l.length*k≤p.cap*k:=Nat.mul_le_mul_right _ hcapl
  have hblk:p.blk < W.heap.size:=by
   obtain ⟨v,hv⟩:=Option.isSome_iff_exists.1 (hown 0 (by have:=Nat.mul_pos (Nat.lt_of_lt_of_le hpos hcapl) hk0; omega)).1
   exact World.block_lt_of_cell? W _ hv
  have hshape:∀x∈l,(enc x).flat.length=k:=fun x hx=>(hrw.shaped (enc x) (List.mem_map_of_mem hx)).len
  have hcells:∀i (hi:i < l.length) j,j < k→∃v,W.cell? ⟨p.blk,p.base+i*k+j,none⟩=some v∧∀y,(enc l[i]).flat[j]?=some y→RepV M noInj v y∧v.oneCell'=true:=fun i hi j hj=>by
   have hx:(l.map enc)[i]?=some (enc l[i]):=by rw [List.getElem?_map,List.getElem?_eq_getElem hi]; rfl
   have hy:(enc l[i]).flat[j]?=some ((enc l[i]).flat[j]'(by rw [hshape _ (List.getElem_mem hi)]; exact hj)):=List.getElem?_eq_getElem _
   obtain ⟨v,h1,h2⟩:=hrw.cells i j _ _ hx hy
   refine ⟨v,h1,fun y hy'=>?_⟩
   rw [hy] at hy'; cases hy'
   have hnr:=AV.nr_flat (nrL_mem.1 (hrw.nr rfl) (enc l[i]) (List.mem_of_getElem? hx)) _ (List.getElem_mem (show j < (enc l[i]).flat.length by rw [hshape _ (List.getElem_mem hi)]; exact hj))
   exact ⟨h2.of_nr hnr,h2.oneCell ((hrw.shaped (enc l[i]) (List.mem_of_getElem? hx)).cells _ (List.getElem_mem _))⟩
  let raw:Nat → List Value:=fun i=>(List.range k).map fun j=>(W.cell? ⟨p.blk,p.base+i*k+j,none⟩).getD undef
  have hraw:∀i (hi:i < l.length),RawOk M good enc k (l[i],raw i):=fun i hi=>by
   have hat : ∀j v,(raw i)[j]?=some v→j < k∧W.cell? ⟨p.blk,p.base+i*k+j,none⟩=some v:=fun j v hv=>by
    simp only [raw,List.getElem?_map,Option.map_eq_some_iff] at hv
    obtain ⟨a,ha,rfl⟩:=hv
    have hj:j < k:=by have:=(List.getElem?_eq_some_iff.1 ha).1; simpa using this
    rw [List.getElem?_range hj] at ha; cases ha
    obtain ⟨v,hv,_⟩:=hcells i hi j hj
    exact ⟨hj,by rw [hv]; rfl⟩
   refine ⟨List.all_eq_true.1 hgood _ (List.getElem_mem hi),by simp [raw],fun v hv=>?_,fun j v y hv hy=>?_⟩
   ·obtain ⟨j,hj⟩:=List.mem_iff_getElem?.1 hv
    obtain ⟨hjk,h1⟩:=hat j v hj
    obtain ⟨v',h2,h3⟩:=hcells i hi j hjk
    rw [h1] at h2; cases h2
    exact (h3 _ (List.getElem?_eq_getElem (by rw [hshape _ (List.getElem_mem hi)]; exact hjk))).2
   ·obtain ⟨hjk,h1⟩:=hat j v hv
    obtain ⟨v',h2,h3⟩:=hcells i hi j hjk
    rw [h1] at h2; cases h2
    exact (h3 y hy).1
  let α:={ z:T × List Value // RawOk M good enc k z }
  letI:Inhabited α:=⟨⟨(l[0],raw 0),hraw 0 hpos⟩⟩
  let encR:α→List Value:=fun z=>z.1.2
  let cf:α→α→Int:=fun x y=>(c x.1.1 y.1.1).getD 0
  have hcf:∀x y:α,c x.1.1 y.1.1=some (cf x y)∧(cf x y < 0↔le y.1.1 x.1.1=false):=fun x y=>by
   obtain ⟨r,h1,h2⟩:=hc.tot x.1.1 y.1.1 x.2.good y.2.good
   simp only [cf,h1,Option.getD_some]
   exact ⟨trivial,h2⟩
  have hlt:∀x y:α,ltOf cf x y=!(le y.1.1 x.1.1):=fun x y=>by
   unfold ltOf
   rw [Bool.eq_iff_iff,decide_eq_true_eq,(hcf x y).2]; simp
  have lerefl:∀x,le x x=true:=fun x=>by have:=hc.total x x; simpa using this
  have letot:∀x y,le x y=false→le y x=true:=fun x y h=>by have:=hc.total x y; rw [h] at this; simpa using this
  have hO:SWO (ltOf cf):=by
   refine ⟨fun x=>by rw [hlt,lerefl]; rfl,fun x y z h1 h2=>?_,fun x y z h1 h2=>?_⟩
   ·rw [hlt] at *
    simp only [Bool.not_eq_true'] at *
    rw [Bool.eq_false_iff]
    intro h3
    have:=hc.trans _ _ _ h3 (letot _ _ h1)
    rw [this] at h2; cases h2
   ·rw [hlt] at *
    simp only [Bool.not_eq_false'] at *
    exact hc.trans _ _ _ h2 h1
  let d:Array α:=Array.ofFn (n:=l.length) fun i=>⟨(l[i.1],raw i.1),hraw i.1 i.2⟩
  have hds:d.size=l.length:=by simp [d]
  have hd:∀i (hi:i < l.length),d[i]! = ⟨(l[i],raw i),hraw i hi⟩:=fun i hi=>by
   rw [getElem!_pos d i (by rw [hds]; exact hi)]; simp [d]
  have hH:HoldsK encR k W p.blk p.base d:=by
   intro t ht
   rw [size_flatK,hds] at ht
   rw [get_flatK _ _ _ t (by rw [hds]; exact ht)]
   have hi:t / k < l.length:=(Nat.div_lt_iff_lt_mul hk0).2 ht
   have hj:t % k < k:=Nat.mod_lt _ hk0
   rw [hd _ hi]
   obtain ⟨v,hv,_⟩:=hcells (t / k) hi (t % k) hj
   have et:p.base+(t / k)*k+t % k=p.base+t:=by rw [Nat.add_assoc,Nat.mul_comm,Nat.div_add_mod]
   rw [et] at hv
   constructor
   ·show W.cell? _=some (id ((raw (t / k))[t % k]!))
    have:(raw (t / k))[t % k]! = v:=by
     rw [getElem!_pos _ _ (by simpa [raw] using hj)]
     simp only [raw,List.getElem_map,List.getElem_range]
     rw [et,hv]; rfl
    rw [this,hv]; rfl
   ·exact hrel.cool o _ _ _ _ _ p t hσ hp (by omega)
  have hcmp:CmpLays P g #[] encR k cf p.blk p.base d.size W:=by
   intro m os dk hdk x y
   have hMrow:∀b o' v,M b o'=some v→(sortWorldK encR k W p.blk p.base m dk os).cell? ⟨b,o',none⟩=some v:=fun b o' v hm=>by
    have h1:=hrel.agree b o' v hm
    have hb:=World.block_lt_of_cell? W _ h1
    unfold sortWorldK
    have h2:(putRowK encR k (Sort.ahead W m) p.blk p.base dk).cell? ⟨b,o',none⟩=some v:=by
     unfold putRowK
     rw [cell?_putRow_other]
     ·exact h1
     ·rw [size_flatK,hdk,hds]
      rcases Nat.lt_or_ge o' p.base with h3 | h3
      ·exact .inr (.inl h3)
      ·rcases Nat.lt_or_ge o' (p.base+l.length*k) with h4 | h4
       ·left
        intro e
        have e':b=p.blk:=e
        subst e'
        have:=(hown (o' - p.base) (by omega)).2
        rw [show p.base+(o' - p.base)=o' by omega,hm] at this; cases this
       ·exact .inr (.inr h4)
    have hb2:b < (putRowK encR k (Sort.ahead W m) p.blk p.base dk).heap.size:=World.block_lt_of_cell? _ _ h2
    unfold World.cell? at h2 ⊢
    have hg:(grow (putRowK encR k (Sort.ahead W m) p.blk p.base dk) os).heap[b]?=(putRowK encR k (Sort.ahead W m) p.blk p.base dk).heap[b]?:=by
     unfold grow
     exact Array.getElem?_append_left hb2
    simp only [hg]
    exact h2
   obtain ⟨e1,_⟩:=hcf x y
   have harg:∀z:α,RepV M noInj (.agg z.1.2.toArray) (enc z.1.1):=fun z=>by
    rw [hagg z.1.1]
    refine .agg _ _ ?_ ?_ ?_
    ·rw [List.size_toArray,z.2.len,hw]
    ·exact hcl _
    ·intro j v y hv hy
     exact z.2.rep j v y (by simpa using hv) hy
   refine (hcon x.1.1 y.1.1 _ e1 _ M _ hMrow rfl ?_).mono ?_
   ·intro j v a hv ha
    match j with
    | 0=>cases hv; cases ha; exact harg x
    | 1=>cases hv; cases ha; exact harg y
    | _+2=>simp at hv
   ·rintro e W1 ⟨v,M',ι',rfl,_,hr1,_,hv⟩
    cases hv
    obtain ⟨q,os',hq⟩:=grow_of hr1.below
    exact ⟨rfl,q,os',hq⟩
  have hrun:=AnyQ.slices_SortFunc L k aE zE encR (fun z=>z.2.len) (fun z v hv=>z.2.one v hv) cf hO g #[] p.blk p.base cap d W (fun args w=>run_callFunc' hgf hgb hgn args w) hcmp hH hblk (by rw [hds]; exact hlen)
  rw [hds] at hrun
  refine hrun.mono ?_
  rintro e W' ⟨rfl,d',n,os,hperm,hsort,rfl⟩
  obtain ⟨hsz',_,hper⟩:=hperm
  have hs':d'.size=l.length:=hsz'.trans hds
  have hl0:d.toList.map (fun z:α=>z.1.1)=l:=by
   apply List.ext_getElem
   ·simp [hds]
   ·intro i h1 h2
    have:=hd i h2
    rw [getElem!_pos d i (by rw [hds]; exact h2)] at this
    rw [List.getElem_map,Array.getElem_toList,this]
  have hpl:d'.toList.Perm d.toList:=by
   have e1:d'.extract 0 l.length=d':=by rw [←hs']; simp
   have e2:d.extract 0 l.length=d:=by rw [←hds]; simp
   rw [e1,e2] at hper; exact hper
  have hsl:(d'.toList.map (fun z:α=>z.1.1)).Pairwise (fun x y=>le x y=true):=by
   rw [List.pairwise_map,List.pairwise_iff_getElem]
   intro i j hi hj hij
   have h1:=hsort i j (Nat.zero_le _) hij (by rw [←hs']; simpa using hj)
   rw [hlt,getElem!_pos d' j (by simpa using hj),getElem!_pos d' i (by simpa using hi)] at h1
   simpa using h1
  have hms:d'.toList.map (fun z:α=>z.1.1)=isort le l:=by
   refine sorted_one hc.anti ?_ hsl (isort_sorted hc.trans hc.total l)
   refine ((hpl.map (fun z:α=>z.1.1)).trans ?_)
   rw [hl0]
   exact (isort_perm le l).symm
  have hlm:(isort le l).length=l.length:=by rw [←hms]; simp [hs']
  have hat : ∀i x,(isort le l)[i]?=some x→∃z:α,d'[i]! = z∧z.1.1=x:=fun i x hx=>by
   rw [←hms,List.getElem?_map,Option.map_eq_some_iff] at hx
   obtain ⟨z,hz,rfl⟩:=hx
   have hi:i < d'.size:=by have:=(List.getElem?_eq_some_iff.1 hz).1; simpa using this
   refine ⟨z,?_,rfl⟩
   rw [getElem!_pos d' i hi]
   have:=(List.getElem?_eq_some_iff.1 hz).2
   rw [←this,Array.getElem_toList]
  have h1:Rel P B W0 D M ι (sto objs) (Sort.ahead W n):=hrel.old ⟨⟨rfl,rfl,rfl,Nat.le_refl _,fun _ _=>rfl⟩,Nat.le_add_right _ _⟩
  have hself:putRowK encR k (Sort.ahead W n) p.blk p.base d=Sort.ahead W n:=putRowK_self encR k _ _ _ _ (holdsK_ahead encR k W n p.blk p.base d hH)
  have hF:(flatK encR k d').toList.length=l.length*k:=by rw [Array.length_toList,size_flatK,hs']
  have hput:putRowK encR k (Sort.ahead W n) p.blk p.base d'=(Sort.ahead W n).setCells p.blk (p.base+0) (flatK encR k d').toList:=by
   conv=>rhs; rw [←hself]
   unfold putRowK
   rw [setCells_putRow _ _ _ _ _ _ (by rw [hF,size_flatK,hds]; omega),setMany_all _ _ (by rw [hF,size_flatK,hds]),Array.toArray_toList]
  have h2:Rel P B W0 D M ι ((sto objs).put o (.row false false true fl k ((isort le l).map enc))) ((Sort.ahead W n).setCells p.blk (p.base+0) (flatK encR k d').toList):=by
   refine h1.write hσ hp 0 _ (by rw [hF]; omega) (by rw [List.length_map,hlm]; exact hcapl) ?_ ?_ ?_ ?_ ?_
   ·intro x hx
    obtain ⟨a,ha,rfl⟩:=List.mem_map.1 hx
    exact ⟨.inl (hagg a),hw a,hcl a⟩
   ·intro _
    rw [nrL_mem]
    intro x hx
    obtain ⟨a,ha,rfl⟩:=List.mem_map.1 hx
    exact nrL_mem.1 (hrw.nr rfl) _ (List.mem_map_of_mem ((isort_perm le l).mem_iff.1 ha))
   ·intro hf x hx
    obtain ⟨a,ha,rfl⟩:=List.mem_map.1 hx
    exact hrw.fl hf _ (List.mem_map_of_mem ((isort_perm le l).mem_iff.1 ha))
   ·intro i j x y hx hy _ hlt2
    rw [List.getElem?_map,Option.map_eq_some_iff] at hx
    obtain ⟨a,ha,rfl⟩:=hx
    obtain ⟨z,hz1,hz2⟩:=hat i a ha
    have hj:j < k:=by have:=(List.getElem?_eq_some_iff.1 hy).1; rwa [hw] at this
    have hi:i < l.length:=by have:=(List.getElem?_eq_some_iff.1 ha).1; rwa [hlm] at this
    have ht:i*k+j < d'.size*k:=by rw [hs']; rw [hF] at hlt2; omega
    have hzl:j < z.1.2.length:=by rw [z.2.len]; exact hj
    refine ⟨z.1.2[j],?_,?_⟩
    ·rw [Nat.sub_zero]
     have:=get_flatK encR k d' (i*k+j) ht
     rw [getElem!_pos _ _ (by simpa using ht)] at this
     rw [List.getElem?_eq_getElem (by simpa using ht),Array.getElem_toList,this]
     have e1:(i*k+j) / k=i:=by rw [Nat.add_comm,Nat.add_mul_div_right _ _ hk0,Nat.div_eq_of_lt hj,Nat.zero_add]
     have e2:(i*k+j) % k=j:=by rw [Nat.add_comm,Nat.add_mul_mod_self_right,Nat.mod_eq_of_lt hj]
     rw [e1,e2,hz1,getElem!_pos z.1.2 j hzl]
    ·exact (z.2.rep j _ y (List.getElem?_eq_getElem hzl) (by rw [hz2]; exact hy)).mono (CM.le_refl _) (Inj.noInj_le _)
   ·intro i j x y hx hy hout
    exfalso
    rw [List.getElem?_map,Option.map_eq_some_iff] at hx
    obtain ⟨a,ha,rfl⟩:=hx
    have hj:j < k:=by have:=(List.getElem?_eq_some_iff.1 hy).1; rwa [hw] at this
    have hi:i < l.length:=by have:=(List.getElem?_eq_some_iff.1 ha).1; rwa [hlm] at this
    have hm:(i+1)*k≤l.length*k:=Nat.mul_le_mul_right _ hi
    rw [Nat.succ_mul] at hm
    rw [hF] at hout
    omega
  rw [←hput] at h2
  have h3:Rel P B W0 D M ι ((sto objs).put o (.row false false true fl k ((isort le l).map enc))) (sortWorldK encR k W p.blk p.base n d' os):=by
   unfold sortWorldK
   refine h2.old ⟨⟨rfl,rfl,rfl,by simp [grow],fun b hb=>?_⟩,Nat.le_refl _⟩
   show ((putRowK encR k (Sort.ahead W n) p.blk p.base d').heap++os)[b]?=_
   exact Array.getElem?_append_left hb
  exact ⟨_,M,ι,rfl,.refl _ _,Inj.le_refl _,by rw [hset]; exact h3,hinb,by rw [hlen']; exact hbig,.tup _ _ rfl (fun j v y h=>by simp at h)⟩
def sortD {T:Type} (good:T→Bool) (le:T→T→Bool) (l:List T):Option (List T):=if (l.all good && Nat.blt l.length 4611686018427387904)=true then some (isort le l) else none
theorem sortR {P:Program} {rd:Option Nat} {base:Nat} {ops:Array Oper} {st:St} {Φ:AOut→Prop} {i:Nat} {ρ:Ren} {T R:Type} {enc:T→AV} {k o:Nat} {fl:Bool} {l:List T}
  {good:T→Bool} {c:T→T→Option Int} {le:T→T→Bool} {f g:FuncId} {fn gfn:Func} {K:List T→Option R} {r:R} {S:Nat → List T→St} (L:SlLaysF0.n6 P ρ) (hc:CmpOk good c le) (hcon:∀x y r,c x y=some r→CallOk P g [enc x,enc y] (.ret (.int .i64 r) []))
  (hi:callInfo ops i st=some (f,[.ref o 0 l.length,.fn (.func g) [] []])) (hfe:ρ.f 6=f) (hrow:st.objs[o]?=some (.row false false true fl k (l.map enc)))
  (hS:∀x,putRes ops i st (.tup []) (st.objs.set o (.row false false true fl k (x.map enc)))=some (S l.length x))
  (hf:P.funcs[f]?=some fn) (hb:fn.body.isSome=true) (hn:(fn.name == "runtime.NumGoroutine")=false) (hgf:P.funcs[g]?=some gfn) (hgb:gfn.body.isSome=true) (hgn:(gfn.name == "runtime.NumGoroutine")=false)
  (aE:∀w,(isAgg (ρ.t 24)).run P w=.ok true w) (zE:∀w,(Go.sizeOf (ρ.t 24)).run P w=.ok k w)
  (hagg:∀x,enc x=.agg (enc x).flat) (hw:∀x,(enc x).flat.length=k) (hcl:∀x,∀y∈(enc x).flat,AV.cell y=true)
  (h:(sortD good le l).bind K=some r) (kk:∀x,K x=some r→RW P rd base ops none (i+1) (S x.length x) Φ):RW P rd base ops none i st Φ:=by
 unfold sortD at h
 split at h
 ·rename_i hg
  rw [Bool.and_eq_true] at hg
  subst hfe
  have hl:l.length < 4611686018427387904:=Nat.le_of_ble_eq_true hg.2
  have hx:=hS (isort le l)
  have he:(isort le l).length=l.length:=(isort_perm le l).length_eq
  rw [←he] at hx
  exact callInR hi hf hb hn (sort_callIn L aE zE hc hgf hgb hgn hcon hagg hw hcl hrow hg.1 hl) hx (kk _ h)
 ·cases h
end Go.Ab
