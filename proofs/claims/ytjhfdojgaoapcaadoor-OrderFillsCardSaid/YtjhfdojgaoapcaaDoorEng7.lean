/- Rules on plain values. No conditions. -/
import Derived.Test.YtjhfdojgaoapcaaDoorEng6
import Derived.ChangeArms
import Derived.OpenShut
import Derived.WideKeyArgs
import Derived.Test.YtjhfdojgaoapcaaDoorEng5
import Derived.KernelRfl
set_option linter.all false
namespace Go.Ab
open Go.RowKit
inductive Sh where
 | int (k:IntKind)
 | bool
 | str
 | slice (fl ag:Bool) (w:Nat) (e:Sh)
 | cat (a b:Sh)
 | unit
def Sh.scal:Sh→Bool
 | .slice ..=>false
 | .cat a b=>a.scal && b.scal
 | _=>true
def Sh.width:Sh→Nat
 | .cat a b=>a.width+b.width
 | .unit=>0
 | _=>1
def WT:Sh→List AV→Prop
 | .int k,cs=>∃n,cs=[.int k n]∧(Lit.int k n).wf=true
 | .bool,cs=>∃b,cs=[.bool b]
 | .str,cs=>∃s,cs=[.str s]∧s.size≤maxLen
 | .slice fl ag w e,cs=>∃xs,cs=[.lst fl xs]∧xs.length≤maxLen∧∀x∈xs,WT e x.flat ∧ (if ag then x=.agg x.flat else x.cell=true)
 | .cat a b,cs=>∃x y,cs=x++y∧WT a x∧WT b y
 | .unit,cs=>cs=[]
def isAggT (P:Program) (t:TypeId):Bool:=match P.underlying t with | some (.struct _)=>true | some (.array _ _)=>true | _=>false
def shArr (s:Sh):Nat → Sh
 | 0=>.unit
 | n+1=>.cat s (shArr s n)
def shFields (P:Program) (rec:TypeId→Option Sh):List Field→Nat → Option Sh
 | [],_=>some .unit
 | f::r,o=>match rec f.type with
  | some s=>if Nat.beq f.offset o && Nat.beq s.width (P.cellsOf f.type) then (match shFields P rec r (o+s.width) with | some q=>some (.cat s q) | none=>none) else none
  | none=>none
def shOf (P:Program):Nat → TypeId→Option Sh
 | 0,_=>none
 | n+1,t=>match P.underlying t with
  | some .bool=>some .bool
  | some (.int k)=>some (.int k)
  | some .string=>some .str
  | some (.slice e)=>match shOf P n e with
   | some s=>if Nat.beq s.width (P.cellsOf e) && Nat.blt 0 (P.cellsOf e) && (isAggT P e || Nat.beq s.width 1) then some (.slice s.scal (isAggT P e) (P.cellsOf e) s) else none
   | none=>none
  | some (.struct fs)=>match shFields P (shOf P n) fs.toList 0 with
   | some s=>if Nat.beq s.width (P.cellsOf t) then some s else none
   | none=>none
  | some (.array m e)=>match shOf P n e with
   | some s=>if Nat.beq s.width (P.cellsOf e) && Nat.beq (m*s.width) (P.cellsOf t) then some (shArr s m) else none
   | none=>none
  | _=>none
theorem WT_len:∀{s:Sh} {cs:List AV},WT s cs→cs.length=s.width
 | .int k,cs,h=>by obtain ⟨n,rfl,_⟩:=h; rfl
 | .bool,cs,h=>by obtain ⟨n,rfl⟩:=h; rfl
 | .str,cs,h=>by obtain ⟨n,rfl,_⟩:=h; rfl
 | .slice _ _ _ _,cs,h=>by obtain ⟨n,rfl,_⟩:=h; rfl
 | .cat a b,cs,h=>by obtain ⟨x,y,rfl,h1,h2⟩:=h; simp [Sh.width,WT_len h1,WT_len h2]
 | .unit,cs,h=>by cases h; rfl
theorem WT_scal:∀{s:Sh} {cs:List AV},WT s cs→s.scal=true→cs.all AV.sc=true
 | .int k,cs,h,_=>by obtain ⟨n,rfl,_⟩:=h; rfl
 | .bool,cs,h,_=>by obtain ⟨n,rfl⟩:=h; rfl
 | .str,cs,h,_=>by obtain ⟨n,rfl,_⟩:=h; rfl
 | .slice _ _ _ _,cs,h,hs=>by cases hs
 | .cat a b,cs,h,hs=>by
  obtain ⟨x,y,rfl,h1,h2⟩:=h
  simp only [Sh.scal,Bool.and_eq_true] at hs
  rw [List.all_append,WT_scal h1 hs.1,WT_scal h2 hs.2]; rfl
 | .unit,cs,h,_=>by cases h; rfl
def CellsOk (M:CM) (cs:List Value) (avs:List AV):Prop:=avs.length=cs.length∧∀(j:Nat) (v:Value) (y:AV),cs[j]?=some v→avs[j]?=some y→RepV M noInj v y∧y.cell=true
theorem cellsOk_one {M:CM} {v:Value} {y:AV} (h:RepV M noInj v y) (hc:y.cell=true):CellsOk M [v] [y]:=by
 refine ⟨rfl,fun j v' y' h1 h2=>?_⟩
 cases j with
 | zero=>cases h1; cases h2; exact ⟨h,hc⟩
 | succ j=>simp at h1
theorem cellsOk_append {M:CM} {a b:List Value} {x y:List AV} (h1:CellsOk M a x) (h2:CellsOk M b y):CellsOk M (a++b) (x++y):=by
 refine ⟨by simp [h1.1,h2.1],fun j v z hv hz=>?_⟩
 rcases Nat.lt_or_ge j a.length with hj | hj
 ·rw [List.getElem?_append_left hj] at hv
  rw [List.getElem?_append_left (by rw [h1.1]; exact hj)] at hz
  exact h1.2 j v z hv hz
 ·rw [List.getElem?_append_right hj] at hv
  rw [List.getElem?_append_right (by rw [h1.1]; exact hj),h1.1] at hz
  exact h2.2 _ v z hv hz
theorem choose_list {α:Type} {n:Nat} {Q:Nat → α→Prop} (h:∀i,i < n→∃x,Q i x):∃xs:List α,xs.length=n∧∀i x,xs[i]?=some x→Q i x:=by
 induction n with
 | zero=>exact ⟨[],rfl,fun i x hx=>by simp at hx⟩
 | succ n ih =>
  obtain ⟨xs,h1,h2⟩:=ih fun i hi=>h i (by omega)
  obtain ⟨x,hx⟩:=h n (by omega)
  refine ⟨xs++[x],by simp [h1],fun i y hy=>?_⟩
  rcases Nat.lt_or_ge i xs.length with hi | hi
  ·rw [List.getElem?_append_left hi] at hy; exact h2 i y hy
  ·rw [List.getElem?_append_right hi] at hy
   cases hk:i - xs.length with
   | zero =>
    rw [hk] at hy
    cases hy
    rw [show i=n by omega]; exact hx
   | succ k=>rw [hk] at hy; simp at hy
def memOf (w:World) (hg:GlobIn w):CM:=⟨fun b o=>w.cell? ⟨b,o,none⟩,hg,fun _=>none,fun _ _=>none⟩
theorem memOf_eq {w:World} {hg:GlobIn w} {b o:Nat}:memOf w hg b o=w.cell? ⟨b,o,none⟩:=rfl
theorem mapM_some {α β:Type} {f:α→Option β}:∀{l:List α} {r:List β},l.mapM f=some r→r.length=l.length∧∀(i:Nat) (a:α),l[i]?=some a→f a=r[i]?
 | [],r,h=>by simp at h; subst h; simp
 | a::l,r,h=>by
  simp only [List.mapM_cons,Option.pure_def,Option.bind_eq_bind,Option.bind_eq_some_iff] at h
  obtain ⟨b,hb,bs,hbs,h⟩:=h
  cases h
  obtain ⟨h1,h2⟩:=mapM_some hbs
  refine ⟨by simp [h1],fun i x hx=>?_⟩
  cases i with
  | zero=>cases hx; simpa using hb
  | succ i=>simpa using h2 i x (by simpa using hx)
theorem cells_at {w:World} {base:Nat} {a:Addr} {n:Nat} {row:List Value} (h:w.cells? base a n=some row):row.length=n∧∀i,i < n→w.cell? (a.add i)=row[i]?:=by
 unfold World.cells? at h
 split at h
 ·obtain ⟨h1,h2⟩:=mapM_some h
  refine ⟨by simpa using h1,fun i hi=>h2 i i (by simp [hi])⟩
 ·cases h
theorem cell_spot {w:World} {a:Addr} {v:Value} (h:w.cell? a=some v):a.spot=none:=by
 unfold World.cell? at h
 cases hs:a.spot with
 | none=>rfl
 | some s =>
  simp only [hs] at h
  split at h <;> simp at h
theorem add_zero' (a:Addr):a.add 0=a:=by simp [Addr.add]
theorem add_none (b off k:Nat):(⟨b,off,none⟩:Addr).add k=⟨b,off+k,none⟩:=by
 unfold Addr.add
 split
 ·rename_i h; subst h; rfl
 ·rfl
section
variable {H:Type} {enc:TypeId × Value→H} {P:Program} {w:World} {base:Nat} {hg:GlobIn w}
theorem fields_rep {cs:List Value} {m:Nat} {rec:TypeId→Option Sh} (ih:∀(t:TypeId) (s:Sh),rec t=some s→∀(cs:List Value) (x:DataW H × List MemPlace),DataW.trod enc P w base (fun _=>true) true m t cs=some x→∃avs,CellsOk (memOf w hg) cs avs∧WT s avs) :
  ∀(l:List Field) (o:Nat) (s:Sh),shFields P rec l o=some s→(∀f∈l,∃x,DataW.trod enc P w base (fun _=>true) true m f.type ((cs.drop f.offset).take (P.cellsOf f.type))=some x)→∃avs,CellsOk (memOf w hg) ((cs.drop o).take s.width) avs∧WT s avs
 | [],o,s,h,_=>by
  cases h
  exact ⟨[],⟨by simp [Sh.width],fun j v y h1 h2=>by simp at h2⟩,rfl⟩
 | f::l,o,s,h,hf=>by
  unfold shFields at h
  split at h
  ·rename_i s1 hs1
   split at h
   ·rename_i hc
    split at h
    ·rename_i q hq
     cases h
     simp only [Bool.and_eq_true] at hc
     have h1:=Nat.eq_of_beq_eq_true hc.1
     have h2:=Nat.eq_of_beq_eq_true hc.2
     obtain ⟨x,hx⟩:=hf f (by simp)
     rw [h1,←h2] at hx
     obtain ⟨a1,c1,w1⟩:=ih _ _ hs1 _ _ hx
     obtain ⟨a2,c2,w2⟩:=fields_rep ih l (o+s1.width) q hq (fun g hg=>hf g (by simp [hg]))
     refine ⟨a1++a2,?_,a1,a2,rfl,w1,w2⟩
     have e:(cs.drop o).take (s1.width+q.width)=(cs.drop o).take s1.width++(cs.drop (o+s1.width)).take q.width:=by
      rw [List.take_add,List.drop_drop]
     simp only [Sh.width]
     rw [e]
     exact cellsOk_append c1 c2
    ·cases h
   ·cases h
  ·cases h
theorem arr_rep {cs:List Value} {M:CM} {s:Sh} {n:Nat} (h:∀i,i < n→∃avs,CellsOk M ((cs.drop (i*s.width)).take s.width) avs∧WT s avs):∀(k o:Nat),o+k=n→∃avs,CellsOk M ((cs.drop (o*s.width)).take (k*s.width)) avs∧WT (shArr s k) avs
 | 0,o,_=>⟨[],⟨by simp,fun j v y h1 h2=>by simp at h2⟩,rfl⟩
 | k+1,o,hk=>by
  obtain ⟨a1,c1,w1⟩:=h o (by omega)
  obtain ⟨a2,c2,w2⟩:=arr_rep h k (o+1) (by omega)
  refine ⟨a1++a2,?_,a1,a2,rfl,w1,w2⟩
  have e:(cs.drop (o*s.width)).take ((k+1)*s.width)=(cs.drop (o*s.width)).take s.width++(cs.drop ((o+1)*s.width)).take (k*s.width):=by
   rw [Nat.succ_mul k,Nat.add_comm,List.take_add,List.drop_drop,Nat.succ_mul o]
  rw [e]
  exact cellsOk_append c1 c2
theorem flat_agg (cs:List AV):(AV.agg cs).flat = cs:=rfl
theorem trod_rep:∀(n:Nat) (t:TypeId) (s:Sh),shOf P n t=some s→∀(m:Nat) (cs:List Value) (x:DataW H × List MemPlace),DataW.trod enc P w base (fun _=>true) true m t cs=some x→∃avs,CellsOk (memOf w hg) cs avs∧WT s avs
 | 0,t,s,h=>by simp [shOf] at h
 | n+1,t,s,h=>by
  intro m cs x hx
  unfold shOf at h
  split at h
  ·rename_i ht
   cases h
   obtain ⟨b,rfl,_⟩:=DataW.trod_bool ht hx
   exact ⟨[.bool b],cellsOk_one (.bool b) rfl,b,rfl⟩
  ·rename_i k ht
   cases h
   obtain ⟨z,rfl,_,hw⟩:=DataW.trod_int ht hx
   exact ⟨[.int k z],cellsOk_one (.int k z) rfl,z,rfl,hw⟩
  ·rename_i ht
   cases h
   obtain ⟨z,rfl,_,hw⟩:=DataW.trod_string ht hx
   exact ⟨[.str z],cellsOk_one (.str z) rfl,z,rfl,hw⟩
  ·rename_i e ht
   split at h
   ·rename_i s1 hs1
    split at h
    ·rename_i hc
     cases h
     simp only [Bool.and_eq_true,Bool.or_eq_true] at hc
     obtain ⟨⟨hw,hpos⟩,hag⟩:=hc
     have hw:=Nat.eq_of_beq_eq_true hw
     have hpos:0 < P.cellsOf e:=by simpa using hpos
     rcases DataW.trod_slice ht hx with ⟨rfl,_⟩ | ⟨a,len,cap,elems,rest,n',_,rfl,_,hb,hl,hm,hlen,hel,hsp,_⟩
     ·exact ⟨[.lst s1.scal []],cellsOk_one (.lst0 none _) rfl,[],rfl,by simp,fun x hx=>by cases hx⟩
     ·have hsp:=hsp rfl
      have hspot:0 < cap→a.spot=none:=fun hcap=>by
       have key:∃row,w.cells? base a (P.cellsOf e)=some row:=by
        rcases Nat.eq_zero_or_pos len with h0 | h0
        ·have:=hsp.2 0 (by omega)
         rw [List.getElem?_eq_getElem (by omega)] at this
         obtain ⟨row,h1,_⟩:=Option.bind_eq_some_iff.1 this
         rw [h0,Nat.add_zero,Nat.zero_mul,add_zero'] at h1
         exact ⟨row,h1⟩
        ·have:=hel 0 h0
         rw [List.getElem?_eq_getElem (by omega)] at this
         obtain ⟨row,h1,_⟩:=Option.bind_eq_some_iff.1 this
         rw [Nat.zero_mul,add_zero'] at h1
         exact ⟨row,h1⟩
       obtain ⟨row,hk⟩:=key
       obtain ⟨h1,h2⟩:=cells_at hk
       have h3:=h2 0 hpos
       rw [List.getElem?_eq_getElem (by omega),add_zero'] at h3
       exact cell_spot h3
      rcases Nat.eq_zero_or_pos cap with h0 | h0
      ·have hl0:len=0:=by omega
       subst h0; subst hl0
       exact ⟨[.lst s1.scal []],cellsOk_one (.lst0 _ _) rfl,[],rfl,by simp,fun x hx=>by cases hx⟩
      ·have hspot:=hspot h0
       obtain ⟨blk,off,spot⟩:=a
       simp only at hspot
       subst hspot
       have each:∀i,i < len→∃z:AV,z.shaped (P.cellsOf e)∧WT s1 z.flat ∧ (if isAggT P e then z=.agg z.flat else z.cell=true)∧∀(j:Nat) (y:AV),z.flat[j]?=some y→∃v,w.cell? ⟨blk,off+i*P.cellsOf e+j,none⟩=some v∧RepV (memOf w hg) noInj v y:=by
        intro i hi
        have h1:=hel i hi
        rw [List.getElem?_eq_getElem (by omega)] at h1
        obtain ⟨row,h2,h3⟩:=Option.bind_eq_some_iff.1 h1
        obtain ⟨avs,c1,w1⟩:=trod_rep n e s1 hs1 _ _ _ h3
        obtain ⟨g1,g2⟩:=cells_at h2
        have hlen':=WT_len w1
        have cellv:∀(j:Nat) (y:AV),avs[j]?=some y→∃v,w.cell? ⟨blk,off+i*P.cellsOf e+j,none⟩=some v∧RepV (memOf w hg) noInj v y∧y.cell=true:=fun j y hy=>by
         have hj:=(List.getElem?_eq_some_iff.1 hy).1
         have h5:=g2 j (by omega)
         have h6:row[j]?=some row[j]:=List.getElem?_eq_getElem (by rw [←c1.1]; exact hj)
         rw [h6] at h5
         refine ⟨_,?_,c1.2 j _ y h6 hy⟩
         rw [add_none,add_none] at h5
         exact h5
        by_cases ha:isAggT P e=true
        ·refine ⟨.agg avs,⟨.inl rfl,by rw [flat_agg]; omega,fun y hy=>?_⟩,w1,by rw [if_pos ha]; rfl,fun j y hy=>?_⟩
         ·rw [flat_agg] at hy
          obtain ⟨j,hj⟩:=List.mem_iff_getElem?.1 hy
          obtain ⟨_,_,_,h⟩:=cellv j y hj
          exact h
         ·obtain ⟨v,h1,h2,_⟩:=cellv j y hy
          exact ⟨v,h1,h2⟩
        ·have h1:s1.width=1:=by
          rcases hag with h | h
          ·exact absurd h ha
          ·exact Nat.eq_of_beq_eq_true h
         obtain ⟨z,rfl⟩:∃z,avs=[z]:=by
          match avs,hlen' with
          | [z],_=>exact ⟨z,rfl⟩
          | [],h=>simp [h1] at h
          | _::_::_,h=>simp [h1] at h
         obtain ⟨v,hv,hr,hcell⟩:=cellv 0 z rfl
         have hflat : z.flat = [z]:=by cases z <;> simp_all [AV.flat,AV.cell]
         refine ⟨z,⟨.inr hcell,by rw [hflat]; simp; omega,fun y hy=>by rw [hflat] at hy; simp at hy; rw [hy]; exact hcell⟩,by rw [hflat]; exact w1,by rw [if_neg ha]; exact hcell,fun j y hy=>?_⟩
         rw [hflat] at hy
         cases j with
         | zero=>cases hy; exact ⟨v,by simpa using hv,hr⟩
         | succ j=>simp at hy
       obtain ⟨xs,hxl,hxs⟩:=choose_list each
       refine ⟨[.lst s1.scal xs],cellsOk_one ?_ rfl,xs,rfl,by omega,fun z hz=>?_⟩
       ·have:=RepV.lst (M:=memOf w hg) (ι:=noInj) blk off cap (P.cellsOf e) s1.scal xs (fun i j=>(w.cell? ⟨blk,off+i*P.cellsOf e+j,none⟩).getD default) (by omega)
         (fun hfl z hz=>by
          obtain ⟨i,hi⟩:=List.mem_iff_getElem?.1 hz
          exact WT_scal (hxs i z hi).2.1 hfl)
         (fun z hz=>by
          obtain ⟨i,hi⟩:=List.mem_iff_getElem?.1 hz
          exact (hxs i z hi).1)
         (fun i j z y hz hy=>by
          obtain ⟨v,h1,h2⟩:=(hxs i z hz).2.2.2 j y hy
          simp only [memOf_eq]
          rw [h1]; rfl)
         (fun i j z y hz hy=>by
          obtain ⟨v,h1,h2⟩:=(hxs i z hz).2.2.2 j y hy
          rw [h1]; exact h2)
        rwa [hxl] at this
       ·obtain ⟨i,hi⟩:=List.mem_iff_getElem?.1 hz
        exact ⟨(hxs i z hi).2.1,(hxs i z hi).2.2.1⟩
    ·cases h
   ·cases h
  ·rename_i fs ht
   split at h
   ·rename_i s1 hs1
    split at h
    ·rename_i hw
     cases h
     have hw:=Nat.eq_of_beq_eq_true hw
     obtain ⟨xs,n',_,_,hl,hxs,hf⟩:=DataW.trod_struct ht hx
     obtain ⟨avs,c1,w1⟩:=fields_rep (cs:=cs) (m:=n') (rec:=shOf P n) (fun t s hs cs x hx=>trod_rep n t s hs _ _ _ hx) fs.toList 0 s hs1 (fun f hf'=>by
      obtain ⟨i,hi⟩:=List.mem_iff_getElem?.1 hf'
      have h1:=hf i f (by simpa using hi)
      have hi':=(List.getElem?_eq_some_iff.1 hi).1
      rw [List.getElem?_eq_getElem (by rw [hxs]; simpa using hi')] at h1
      exact ⟨_,h1⟩)
     refine ⟨avs,?_,w1⟩
     rw [List.drop_zero,List.take_of_length_le (by omega)] at c1
     exact c1
    ·cases h
   ·cases h
  ·rename_i m0 e ht
   split at h
   ·rename_i s1 hs1
    split at h
    ·rename_i hw
     cases h
     simp only [Bool.and_eq_true] at hw
     have h1:=Nat.eq_of_beq_eq_true hw.1
     have h2:=Nat.eq_of_beq_eq_true hw.2
     obtain ⟨xs,n',_,_,hl,hxs,hf⟩:=DataW.trod_array ht hx
     obtain ⟨avs,c1,w1⟩:=arr_rep (cs:=cs) (M:=memOf w hg) (s:=s1) (n:=m0) (fun i hi=>by
      have h3:=hf i hi
      rw [List.getElem?_eq_getElem (by omega),←h1] at h3
      exact trod_rep n e s1 hs1 _ _ _ h3) m0 0 (by omega)
     refine ⟨avs,?_,w1⟩
     rw [Nat.zero_mul,List.drop_zero,List.take_of_length_le (by omega)] at c1
     exact c1
    ·cases h
   ·cases h
  ·cases h
theorem arg_struct {t:TypeId} {s:Sh} {v:Value} {d:DataW H} {ps:List MemPlace} {b0:Nat} (n:Nat) (hs:shOf P n t=some s) (ha:isAggT P t=true) (hok:Value.okWide P w .any b0 t v)
  (h:DataW.Trod enc P w base (fun _=>true) true t v d ps):∃avs,RepV (memOf w hg) noInj v (.agg avs)∧WT s avs:=by
 obtain ⟨m,hm⟩:=h
 obtain ⟨avs,c1,w1⟩:=trod_rep n t s hs m _ _ hm
 have hv:∃cs,v=.agg cs:=by
  unfold isAggT at ha
  unfold Value.okWide at hok
  split at ha
  ·rename_i fs hfs
   rw [hfs] at hok
   obtain ⟨cs,h1,_⟩:=hok
   exact ⟨cs,h1⟩
  ·rename_i m0 e hfs
   rw [hfs] at hok
   obtain ⟨cs,h1,_⟩:=hok
   exact ⟨cs,h1⟩
  ·cases ha
 obtain ⟨cs,rfl⟩:=hv
 refine ⟨avs,.agg cs avs (by simpa [Value.cells] using c1.1.symm) (fun y hy=>?_) (fun j u y hu hy=>?_),w1⟩
 ·obtain ⟨j,hj⟩:=List.mem_iff_getElem?.1 hy
  have hj':=(List.getElem?_eq_some_iff.1 hj).1
  rw [c1.1] at hj'
  exact (c1.2 j _ y (List.getElem?_eq_getElem hj') hj).2
 ·exact (c1.2 j u y (by simpa [Value.cells] using hu) hy).1
end
theorem sameAt_of {W W':World} (h:∀b,b < W.heap.size→W'.heap[b]?=W.heap[b]?) {p:MemPlace} (hp:p.block < W.heap.size):W.sameAt W' p:=by
 cases p with
 | cell b off =>
  show W'.cell? ⟨b,off,none⟩=W.cell? ⟨b,off,none⟩
  unfold World.cell?
  rw [h b hp]
 | map b=>exact h b hp
theorem calls_args {P:Program} {f:FuncId} {args:List AV} {b:Bool} (h:CallOk P f args (.ret (.bool b) [])) {W:World} {hg:GlobIn W} {vs:Array Value} (hl:vs.size=args.length)
  (hr:∀(j:Nat) (v:Value) (a:AV),vs[j]?=some v→args[j]?=some a→RepV (memOf W hg) noInj v a):Calls P f vs W fun e W'=>e=.returned (.bool b)∧Below W.heap.size W W'∧∀b,b < W.heap.size→W'.heap[b]?=W.heap[b]?:=by
 refine (h W (memOf W hg) vs ⟨fun _ _ _ h=>h,fun b x h=>(by cases h),fun b o v h=>(by cases h)⟩ hl hr).mono fun e W' he=>?_
 obtain ⟨v,M',ι',he,_,hrel,_,hv⟩:=he
 cases hv
 exact ⟨he,hrel.below.toBelow,fun b hb=>hrel.below.block b hb⟩
theorem flat_cell {x:AV} (h:x.cell=true):x.flat = [x]:=by cases x <;> simp_all [AV.flat,AV.cell]
theorem lists_of {α:Type} {enc:α→AV} {R:α→Prop} {xs:List AV} (h:∀x∈xs,∃a,x=enc a∧R a):∃l:List α,xs=l.map enc∧∀a∈l,R a:=by
 induction xs with
 | nil=>exact ⟨[],rfl,fun n hn=>by cases hn⟩
 | cons x xs ih =>
  obtain ⟨l,rfl,hl⟩:=ih fun y hy=>h y (by simp [hy])
  obtain ⟨a,rfl,ha⟩:=h x (by simp)
  refine ⟨a::l,rfl,fun m hm=>?_⟩
  rcases List.mem_cons.1 hm with rfl | hm
  ·exact ha
  ·exact hl m hm
end Go.Ab
namespace Go.Ab
section
variable {P:Program} {rd:Option Nat} {base:Nat} {ops:Array Oper} {st S:St} {Φ:AOut→Prop} {d:Option (List Sk)} {i:Nat} {c y:Code}
theorem sgz (k j:Nat) {S:St} (hk:RW P rd base ops none j S Φ) (h:runSt P false ops k i st=some S:=by as_aux_lemma=>kernel_rfl) (hj:i+k=j:=by rfl):RW P rd base ops none i st Φ:=sg false k j h hj hk
theorem sgy (k j:Nat) {S:St} (hk:RW P rd base ops (dAdd d (runSk P false ops k i st)) j S Φ) (h:runSt P false ops k i st=some S:=by as_aux_lemma=>kernel_rfl) (hj:i+k=j:=by rfl):RW P rd base ops d i st Φ:=sg false k j h hj hk
theorem rgN {id:Nat} {S:St} (hk:Φ (.go .normal S)) (h:runSt P false ops ops.size 0 st=some S:=by as_aux_lemma=>kernel_rfl):WP P rd base (.region id ops false) st Φ :=
 reg_in (sg false ops.size ops.size h (Nat.zero_add _) (reg_end rfl hk))
theorem sqN {id:Nat} {S:St} (hk:WP P rd base y S Φ) (h:runSt P false ops ops.size 0 st=some S:=by as_aux_lemma=>kernel_rfl):WP P rd base (.seq (.region id ops false) y) st Φ :=
 wp_seq (rgN hk h)
theorem wgc (live keep:List Nat) (S:St) (hk:WP P rd base c S Φ) (h:gcSt base live keep st=some S:=by as_aux_lemma=>kernel_rfl):WP P rd base c st Φ:=wp_wk (wk_gc h) hk
theorem rga {id:Nat} (hm:P.follows .mixedOrders=true) (h:RW P rd base ops (some []) 0 st Φ) (hB:lexF ops=true:=by as_aux_lemma=>kernel_rfl):WP P rd base (.region id ops true) st Φ:=reg_any (by simp [hm]) (lexF_ok hB) h
def gt (o:Option St) (d:St):St:=match o with | some S=>S | none=>d
noncomputable def nx (P:Program) (ops:Array Oper) (k i:Nat) (st:St):St:=gt (runSt P false ops k i st) st
noncomputable def gx (base:Nat) (live keep:List Nat) (st:St):St:=gt (gcSt base live keep st) st
noncomputable def lx (P:Program) (ops:Array Oper) (i:Nat) (st:St) (hv he:List LK) (b:Bool):St:=gt (runL P false ops i st hv he b) st
theorem get_of {o:Option St} {d:St} (h:o.isSome=true):o=some (gt o d):=by
 cases o with
 | none=>cases h
 | some S=>rfl
theorem sz (k j:Nat) (hk:RW P rd base ops none j (nx P ops k i st) Φ) (h:(runSt P false ops k i st).isSome=true:=by as_aux_lemma=>kernel_rfl) (hj:i+k=j:=by rfl):RW P rd base ops none i st Φ:=sg false k j (get_of h) hj hk
theorem sy (k j:Nat) (hk:RW P rd base ops (dAdd d (runSk P false ops k i st)) j (nx P ops k i st) Φ) (h:(runSt P false ops k i st).isSome=true:=by as_aux_lemma=>kernel_rfl) (hj:i+k=j:=by rfl):RW P rd base ops d i st Φ:=sg false k j (get_of h) hj hk
theorem rn {id:Nat} (hk:Φ (.go .normal (nx P ops ops.size 0 st))) (h:(runSt P false ops ops.size 0 st).isSome=true:=by as_aux_lemma=>kernel_rfl):WP P rd base (.region id ops false) st Φ:=rgN hk (get_of h)
theorem sq {id:Nat} (hk:WP P rd base y (nx P ops ops.size 0 st) Φ) (h:(runSt P false ops ops.size 0 st).isSome=true:=by as_aux_lemma=>kernel_rfl):WP P rd base (.seq (.region id ops false) y) st Φ:=sqN hk (get_of h)
theorem wg (live keep:List Nat) (hk:WP P rd base c (gx base live keep st) Φ) (h:(gcSt base live keep st).isSome=true:=by as_aux_lemma=>kernel_rfl):WP P rd base c st Φ:=wgc live keep _ hk (get_of h)
theorem sl (nf:Bool) (hv he:List LK) (b:Bool) (hn:nf=false) (hk:RW P rd base ops (dAdd d [runLSk P nf ops i st]) (i+1) (lx P ops i st hv he b) Φ) (h:(runL P false ops i st hv he b).isSome=true:=by as_aux_lemma=>kernel_rfl):RW P rd base ops d i st Φ:=by
 subst hn; exact sgL false hv he b (get_of h) hk
theorem wbr {R:Type} {b:Bool} {S:Bool→St} {A B:Option R} {r:R} (h:(if b=true then A else B)=some r) (h1:b=true→A=some r→WP P rd base c (S true) Φ) (h2:b=false→B=some r→WP P rd base c (S false) Φ) (hS:st=S b:=by as_aux_lemma=>kernel_rfl):WP P rd base c st Φ:=by
 rw [hS]; exact wp_br h h1 h2
theorem wwh {σ ρ R:Type} {n:Nat} {body:σ→Option (Step σ ρ)} {K:ρ→Option R} {r:R} {s0:σ} (h:(whileN n body s0).bind K=some r) (I:σ→St) (Ex:ρ→AOut→Prop) (hw:Wk P base st (I s0))
  (round:∀s o,body s=some o→WP P rd base c (I s) (RoundIs' P base I Ex o)) (k:∀x,K x=some r→∀out,Ex x out→Φ out):WP P rd base (.loop c) st Φ:=wp_while s0 hw h round k
theorem wbz {R:Type} {b:Bool} {A B:Option R} {r:R} {x:Code} {op:Operand} (h:(if b=true then A else B)=some r) (h1:b=true→A=some r→WP P rd base x st Φ) (h2:b=false→B=some r→WP P rd base y st Φ)
  (he:evo (lk st.slots) op=some (.bool b):=by as_aux_lemma=>kernel_rfl):WP P rd base (.cond op x y) st Φ:=wp_cond he (fun hb=>h1 hb (by rw [hb] at h; simpa using h)) (fun hb=>h2 hb (by rw [hb] at h; simpa using h))
theorem rwg (live keep:List Nat) (hk:RW P rd base ops none i (gx base live keep st) Φ) (h:(gcSt base live keep st).isSome=true:=by as_aux_lemma=>kernel_rfl):RW P rd base ops none i st Φ:=rw_wk (wk_gc (get_of h)) hk
theorem wcT {x:Code} {op:Operand} (h:WP P rd base x st Φ) (he:evo (lk st.slots) op=some (.bool true):=by as_aux_lemma=>kernel_rfl):WP P rd base (.cond op x y) st Φ:=wp_condT he h
theorem wcF {x:Code} {op:Operand} (h:WP P rd base y st Φ) (he:evo (lk st.slots) op=some (.bool false):=by as_aux_lemma=>kernel_rfl):WP P rd base (.cond op x y) st Φ:=wp_condF he h
theorem rgd {acc:List Sk} (h:Φ (.go .normal st)) (hi:i=ops.size:=by rfl) (hc:compatD ops.toList acc=true:=by as_aux_lemma=>kernel_rfl):RW P rd base ops (some acc) i st Φ:=reg_endD hi hc h
theorem kr {α:Sort _} {a b:α} (h:a=b:=by as_aux_lemma=>kernel_rfl):a=b:=h
def gt0 (o:Option St):St:=match o with | some S=>S | none=>⟨[],[],0⟩
theorem gE {o:Option St} (h:o.isSome=true:=by as_aux_lemma=>kernel_rfl):o=some (gt0 o):=by
 cases o with
 | none=>cases h
 | some S=>rfl
theorem gF {α:Type} {o:α→Option St} (h:∀x,(o x).isSome=true:=by as_aux_lemma=>(intro _; kernel_rfl)):∀x,o x=some (gt0 (o x)):=fun x=>gE (h x)
def putBs (b:Bool):List Nat → List (Nat × AV)→List (Nat × AV)
 | [],s=>s
 | t::ts,s=>putBs b ts (setS s t (.bool b))
def pB (ts:List Nat) (b:Bool) (st:St):St:=⟨putBs b ts st.slots,st.objs,st.nt⟩
def setLen (n:Nat):AV→AV
 | .ref o i _=>.ref o i n
 | .lin o i _=>.lin o i n
 | x=>x
def putLs (n:Nat):List Nat → List (Nat × AV)→List (Nat × AV)
 | [],s=>s
 | t::ts,s=>putLs n ts (match lk s t with | some x=>setS s t (setLen n x) | none=>s)
def pL (ts:List Nat) (n:Nat) (st:St):St:=⟨putLs n ts st.slots,st.objs,st.nt⟩
theorem wb (ts:List Nat) {R:Type} {b:Bool} {A B:Option R} {r:R} (h:(if b=true then A else B)=some r) (h1:b=true→A=some r→WP P rd base c (pB ts true st) Φ) (h2:b=false→B=some r→WP P rd base c (pB ts false st) Φ) (hS:st=pB ts b st:=by as_aux_lemma=>kernel_rfl):WP P rd base c st Φ:=by
 rw [hS]; exact wp_br (S:=fun b=>pB ts b st) h h1 h2
theorem rb (ts:List Nat) {R:Type} {b:Bool} {A B:Option R} {r:R} (h:(if b=true then A else B)=some r) (h1:b=true→A=some r→RW P rd base ops d i (pB ts true st) Φ) (h2:b=false→B=some r→RW P rd base ops d i (pB ts false st) Φ) (hS:st=pB ts b st:=by as_aux_lemma=>kernel_rfl):RW P rd base ops d i st Φ:=by
 rw [hS]; exact rw_br (S:=fun b=>pB ts b st) h h1 h2
theorem rl (ts:List Nat) {n m:Nat} (hn:n=m) (h:RW P rd base ops d i (pL ts m st) Φ) (hS:st=pL ts n st:=by as_aux_lemma=>kernel_rfl):RW P rd base ops d i st Φ:=by rw [hS,hn]; exact h
theorem callW {α R:Type} {G:Option α} {K:α→Option R} {f:FuncId} {us:List AV} {rv:α→AV} {ro:α→List AObj} {r:R} (hb:bodyB P f=true)
  (hc:∀x,G=some x→CallOk P f us (.ret (rv x) (ro x))) (h:G.bind K=some r)
  (k:∀x,G=some x→K x=some r→RW P rd base ops (dAdd d [callSk st [] (rv x) (ro x)]) (i+1) (gt0 (callSt ops i st [] (rv x) (ro x))) Φ)
  (hi:callInfo ops i st=some (f,us):=by as_aux_lemma=>kernel_rfl) (hsn:mapSnap (snap st.sto snapDepth) us=some (us,[]):=by as_aux_lemma=>kernel_rfl)
  (hS:∀x,(callSt ops i st [] (rv x) (ro x)).isSome=true:=by as_aux_lemma=>(intro _; kernel_rfl)):RW P rd base ops d i st Φ :=
 callR hi hb hsn hc (gF hS) h k
theorem rknN {n m:Nat} {S:Nat → St} (hb:n=m) (h:RW P rd base ops d i (S m) Φ) (hS:st=S n:=by as_aux_lemma=>kernel_rfl):RW P rd base ops d i st Φ:=by rw [hS]; exact rw_knN hb h
end
abbrev z1:List Int→AV:=eL true eI
abbrev z2:List (List Int)→AV:=eL false z1
abbrev zw:Int→Int:=IntKind.i64.wrap
abbrev zv:Int→Int:=IntKind.u64.wrap
abbrev zt:Int→Nat := Int.toNat
abbrev zn {α:Type} (l:List α):Int:=(l.length:Int)
end Go.Ab
namespace Go.Ab
def recN {σ ρ:Type} (F:(σ→Option ρ)→σ→Option ρ):Nat → σ→Option ρ
 | 0,_=>none
 | n+1,s=>F (recN F n) s
def RecOk (P:Program) (N:Nat) (c:Code) {σ ρ:Type} (I:σ→St) (E:ρ→St) (d:σ→Option ρ):Prop :=
 ∀s x,d s=some x→WP P none N c (I s) (fun o=>o=.go .ret (E x)∨o=.go .normal (E x))
theorem rec_ok {P:Program} {N:Nat} {c:Code} {σ ρ:Type} {I:σ→St} {E:ρ→St} {F:(σ→Option ρ)→σ→Option ρ}
  (step:∀d,RecOk P N c I E d→∀s x,F d s=some x→WP P none N c (I s) (fun o=>o=.go .ret (E x)∨o=.go .normal (E x))):∀n,RecOk P N c I E (recN F n)
 | 0=>fun s x h=>by cases h
 | n+1=>fun s x h=>step _ (rec_ok step n) s x h
section
variable {P:Program} {rd:Option Nat} {base:Nat} {ops:Array Oper} {st:St} {Φ:AOut→Prop} {i:Nat}
theorem recI {σ ρ R:Type} {N:Nat} {c:Code} {I:σ→St} {E:ρ→St} {d:σ→Option ρ} {K:ρ→Option R} {r:R} {f:FuncId} {fn:Func} {as0:List AV} (s0:σ)
  (hi:callInfo ops i st=some (f,as0)) (hf:P.funcs[f]?=some fn) (hb:fn.body=some c) (hn:(fn.name == "runtime.NumGoroutine")=false) (hle:Nat.ble as0.length fn.ntmps=true)
  (h0:(⟨enumA 0 as0,st.objs,fn.ntmps⟩:St)=I s0) (hN:st.objs.length=N) (IH:RecOk P N c I E d) (h:(d s0).bind K=some r)
  (k:∀x,K x=some r→∃S,inlEnd P fn ops i st (.go .ret (E x))=some S∧RW P rd base ops none (i+1) S Φ):RW P rd base ops none i st Φ:=by
 cases hx:d s0 with
 | none=>rw [hx] at h; cases h
 | some x =>
  rw [hx] at h
  refine inlR hi hf hb hn hle ?_
  rw [h0,hN]
  obtain ⟨out,h1,h2⟩:=IH s0 x hx
  refine ⟨out,h1,?_⟩
  rcases h2 with rfl | rfl
  ·exact k x h
  ·obtain ⟨S,k1,k2⟩:=k x h
   exact ⟨S,by rw [←k1]; rfl,k2⟩
end
section
variable {P:Program} {rd:Option Nat} {base:Nat} {ops:Array Oper} {st:St} {Φ:AOut→Prop} {i:Nat}
theorem recR {σ ρ R:Type} {N:Nat} {c:Code} {I:σ→St} {E:ρ→St} {F:(σ→Option ρ)→σ→Option ρ} {K:ρ→Option R} {r:R} {f:FuncId} {fn:Func} {as0:List AV} (s0:σ)
  (hi:callInfo ops i st=some (f,as0)) (hf:P.funcs[f]?=some fn) (hb:fn.body=some c) (hn:(fn.name == "runtime.NumGoroutine")=false) (hle:Nat.ble as0.length fn.ntmps=true)
  (h0:(⟨enumA 0 as0,st.objs,fn.ntmps⟩:St)=I s0) (hN:st.objs.length=N) (h:(recN F fuel s0).bind K=some r)
  (step:∀d,RecOk P N c I E d→∀s x,F d s=some x→WP P none N c (I s) (fun o=>o=.go .ret (E x)∨o=.go .normal (E x)))
  (k:∀x,K x=some r→∃S,inlEnd P fn ops i st (.go .ret (E x))=some S∧RW P rd base ops none (i+1) S Φ):RW P rd base ops none i st Φ :=
 recI s0 hi hf hb hn hle h0 hN (rec_ok step fuel) h k
end
end Go.Ab
namespace Go.Ab
open Go.RowKit
def CallIn (P:Program) (f:FuncId) (az:List AV) (objs:List AObj) (r:AV) (objs':List AObj):Prop :=
 ∀(B:Nat) (W0 W:World) (D:List Nat) (M:CM) (ι:Inj) (vs:Array Value),Rel P B W0 D M ι (sto objs) W→D.Nodup→(∀k,¬ InB objs.length k→ι k=none)→objs.length≤BIG→vs.size=az.length →
  (∀(j:Nat) (v:Value) (a:AV),vs[j]?=some v→az[j]?=some a→RepV M ι v a) →
  Calls P f vs W fun e W'=>∃v M' ι',e=.returned v∧CM.Grow B M M'∧ι.le ι'∧Rel P B W0 D M' ι' (sto objs') W'∧(∀k,¬ InB objs'.length k→ι' k=none)∧objs'.length≤BIG∧RepV M' ι' v r
theorem opX_callIn {P:Program} {rd:Option Nat} {base:Nat} {o:Oper} {st:St} {g:Operand} {args:Array Operand} {ts:Array TypeId} {f:FuncId} {fn:Func} {first caps az:List AV} {x:AV} {objs':List AObj} {slots:List (Nat × AV)}
  (ho:o.op=.call { callee:=.value g,args,argTypes:=ts }) (hg:evo (lk st.slots) g=some (.fn (.func f) first caps)) (has:evos (lk st.slots) args.toList=some az)
  (hf:P.funcs[f]?=some fn) (hb:fn.body.isSome=true) (hn:(fn.name == "runtime.NumGoroutine")=false)
  (h:CallIn P f (first++az++caps) st.objs x objs') (hput:putD st.slots st.nt o.dst (some x)=some slots) :
  OpX P rd base o st (.go .normal ⟨slots,objs',st.nt⟩):=by
 intro B W0 D0 dl M ι a W n Q r hs hr' hp
 have hgv:=evo_sound hs.slots hg
 generalize hgu:a.eval g=gu at hgv
 cases hgv with
 | fn _ first' caps' _ _ hy hm h1 h2 hr1 hr2 =>
 obtain ⟨l1,e1⟩:=evos_sound hs.slots has
 refine ⟨fun _ _=>trivial,?_⟩
 rw [Oper.semAt_eq _ _ _ (by rw [ho]; simp)]
 have hrun:(execOp a.eval o).run P W=.ok (.enter f (first'++args.map a.eval++caps')) W:=by
  simp only [execOp,ho,resolve,hgu,Deferred.ofValue,Sem.run_bind,Sem.run_pure,Result.andThen_ok,invoke]
  exact run_callFunc' hf hb hn _ W
 rw [hrun,Oper.uponIn_enter]
 have hrep:∀(j:Nat) (v:Value) (y:AV),(first'++args.map a.eval++caps')[j]?=some v→(first++az++caps)[j]?=some y→RepV M ι v y :=
  list3_at h1 (by simpa using l1.symm) h2 hr1 (fun j v y hv hy=>by
   simp only [Array.getElem?_map,Option.map_eq_some_iff] at hv
   obtain ⟨w,hw,rfl⟩:=hv
   exact (e1 j w y (by simpa using hw) hy).2) hr2
 refine ⟨fun hd=>by simp [FW,Fence.wide] at hd,callsIn_FW ((h B W0 W (dl++D0) M ι _ hs.rel hs.df.nd hs.new hs.big (by simp [h1,h2,l1]) hrep).mono ?_)⟩
 rintro e W' ⟨v,M',ι',rfl,g1,g2,g3,g4,g4b,g5⟩
 obtain ⟨k1,k2,k3⟩:=slotsOk_put (u:=v) (hs.slots.mono g1.le g2) hs.nt hput (fun y hy=>by cases hy; exact g5)
 exact hp.go .normal _ rfl dl M' ι' _ W' g1 (g2.leB base) (List.suffix_refl _) ⟨g3,k1,k2,hs.df.put,g4,g4b⟩
def putRes (ops:Array Oper) (i:Nat) (st:St) (x:AV) (objs':List AObj):Option St :=
 match ops[i]? with
 | some o=>match putD st.slots st.nt o.dst (some x) with
  | some slots=>some ⟨slots,objs',st.nt⟩
  | none=>none
 | none=>none
section
variable {P:Program} {rd:Option Nat} {base:Nat} {ops:Array Oper} {st:St} {Φ:AOut→Prop} {i:Nat}
theorem callInR {f:FuncId} {fn:Func} {as0:List AV} {x:AV} {objs':List AObj} {S:St} (hi:callInfo ops i st=some (f,as0)) (hf:P.funcs[f]?=some fn) (hb:fn.body.isSome=true) (hn:(fn.name == "runtime.NumGoroutine")=false)
  (h:CallIn P f as0 st.objs x objs') (hS:putRes ops i st x objs'=some S) (k:RW P rd base ops none (i+1) S Φ):RW P rd base ops none i st Φ:=by
 obtain ⟨o,g,args,ts,first,caps,as1,ho,hop,hg,has,rfl⟩:=callInfo_spec hi
 obtain ⟨h1,h2⟩:=opAt_spec ho
 unfold putRes at hS
 rw [h1] at hS
 simp only at hS
 split at hS
 ·rename_i slots hp
  cases hS
  obtain ⟨out2,k1,k2⟩:=k
  have hi':i < ops.size:=(Array.getElem?_eq_some_iff.1 h1).1
  refine ⟨out2,?_,k2⟩
  rw [restI_cons hi']
  exact opsX_cons h1 h2 (opX_callIn hop hg has hf hb hn h hp) k1
 ·cases hS
end
end Go.Ab
namespace Go.Ab
open Go.RowKit
section
variable {P:Program} {ops:Array Oper} {G:Array Bool→Nat → Foot} {Q:Slots→Sto→Prop} {s:Slots} {σ:Sto}
end
section
variable {P:Program} {ops:Array Oper} {G:Array Bool→Nat → Foot} {s s':Slots} {σ:Sto} {B:Nat} {W0 W:World} {D:List Nat} {M:CM} {ι:Inj} {a:Act} {Q:Exit→Act→World→Prop} {QA:Slots→Sto→Prop}
end
section
variable {P:Program} {rd:Option Nat} {base:Nat} {ops ops0:Array Oper} {st st1 st2 st3:St}
theorem Compat.symm {F G:Foot} (h:Compat F G):Compat G F:=⟨h.b,h.a,fun e he e' he'=>Ne.symm (h.c e' he' e he)⟩
end
section
variable {P:Program} {rd:Option Nat} {base:Nat} {ops:Array Oper} {st st1 Sa Sb S3 S:St} {Φ:AOut→Prop} {i:Nat}
end
end Go.Ab
namespace Go.Ab
open Go.RowKit
section
variable {P:Program} {base:Nat} {st st':St}
end
theorem lst_loosen {M:CM} {ι:Inj} {v:Value} {fl:Bool} {xs:List AV} (hs:List LK) (h:RepV M ι v (.lst fl xs)):RepV M ι v (.lst false (xs.map (loosen1 hs))):=by
 cases h with
 | lst0=>exact .lst0 _ _
 | lst b off cap w _ _ f hcap hfl hc hM hr =>
  have key:∀(i j:Nat) (x y:AV),(xs.map (loosen1 hs))[i]?=some x→x.flat[j]?=some y→∃x0 y0 h,xs[i]?=some x0∧x0.flat[j]?=some y0∧y=LK.ap h y0:=fun i j x y hi hj=>by
   rw [List.getElem?_map,Option.map_eq_some_iff] at hi
   obtain ⟨x0,e1,rfl⟩:=hi
   have hsh:=hc x0 (List.mem_of_getElem? e1)
   obtain ⟨hs',e2,_⟩:=loosen1_flat hs (x:=x0) hsh.form
   rw [e2] at hj
   obtain ⟨h,y0,e3,e4⟩:=zipL_at hs' _ j y hj
   exact ⟨x0,y0,h,e1,e3,e4⟩
  have:=RepV.lst (M:=M) (ι:=ι) b off cap w false (xs.map (loosen1 hs)) f (by simpa using hcap) (fun h=>by cases h) (fun x hx=>by
   simp only [List.mem_map] at hx
   obtain ⟨z,hz,rfl⟩:=hx
   exact loosen1_shaped hs (hc z hz)) (fun i j x y hi hj=>by
   obtain ⟨x0,y0,h,e1,e2,_⟩:=key i j x y hi hj
   exact hM i j x0 y0 e1 e2) (fun i j x y hi hj=>by
   obtain ⟨x0,y0,h,e1,e2,rfl⟩:=key i j x y hi hj
   exact LK.ap_rep h (hr i j x0 y0 e1 e2))
  simpa using this
def Weak (x y:AV):Prop:=∀(M:CM) (v:Value),RepV M noInj v x→RepV M noInj v y
theorem Weak.refl {x:AV}:Weak x x:=fun _ _ h=>h
theorem Weak.lst {fl:Bool} {xs ys:List AV} (hs:List LK) (h:xs.map (loosen1 hs)=ys):Weak (.lst fl xs) (.lst false ys):=fun M v hr=>by subst h; exact lst_loosen hs hr
inductive Weaks:List AV→List AV→Prop
 | nil:Weaks [] []
 | cons {x y:AV} {xs ys:List AV} (h:Weak x y) (hc:y.cell=x.cell) (k:Weaks xs ys):Weaks (x::xs) (y::ys)
theorem Weaks.at {xs ys:List AV} (h:Weaks xs ys):xs.length=ys.length∧∀(j:Nat) (y:AV),ys[j]?=some y→∃x,xs[j]?=some x∧Weak x y∧y.cell=x.cell:=by
 induction h with
 | nil=>exact ⟨rfl,fun j y h=>by simp at h⟩
 | cons h hc k ih =>
  refine ⟨by simp [ih.1],fun j y hj=>?_⟩
  cases j with
  | zero=>simp at hj; subst hj; exact ⟨_,rfl,h,hc⟩
  | succ j=>exact ih.2 j y (by simpa using hj)
theorem Weak.agg {xs ys:List AV} (h:Weaks xs ys):Weak (.agg xs) (.agg ys):=fun M v hr=>by
 cases hr with
 | agg cs' _ hsz hc hrr =>
  obtain ⟨hl,hat⟩:=h.at
  refine .agg cs' _ (by rw [←hl]; exact hsz) (fun y hy=>?_) (fun j v y hv hy=>?_)
  ·obtain ⟨j,hj,rfl⟩:=List.mem_iff_getElem.1 hy
   obtain ⟨x,e1,_,e3⟩:=hat j _ (List.getElem?_eq_getElem hj)
   rw [e3]; exact hc x (List.mem_of_getElem? e1)
  ·obtain ⟨x,e1,e2,_⟩:=hat j y hy
   exact e2 M v (hrr j v x hv e1)
section
variable {P:Program} {rd:Option Nat} {base:Nat} {ops:Array Oper} {st S:St} {Φ:AOut→Prop} {d:Option (List Sk)} {i:Nat}
end
end Go.Ab
namespace Go.Ab
open Go.RowKit
def simpO:AObj→Bool
 | .row _ _ _ _ _ _=>true
 | .loop _ _ _ _ _ _ _=>true
 | .dead=>true
 | _=>false
def liveO:AObj→Bool
 | .row _ _ _ _ _ _=>true
 | .loop _ _ _ _ _ _ _=>true
 | _=>false
def OkIn (N:Nat):AObj→Prop
 | .row _ _ nr _ _ xs=>nr=true∨∀x∈xs,∀y∈x.flat,∀o∈y.ids,o < N
 | .loop _ sl _ _ _ _ _=>∀p∈sl,∀o∈p.2.ids,o < N
 | .dead=>True
 | _=>False
def okInB (N:Nat):AObj→Bool
 | .row _ _ nr _ _ xs=>nr || xs.all fun x=>x.flat.all fun y=>y.ids.all fun o=>Nat.blt o N
 | .loop _ sl _ _ _ _ _=>sl.all fun p=>p.2.ids.all fun o=>Nat.blt o N
 | .dead=>true
 | _=>false
theorem okIn_of {N:Nat} {x:AObj} (h:okInB N x=true):OkIn N x:=by
 cases x with
 | row bx ro nr fl w xs =>
  simp only [okInB,Bool.or_eq_true,List.all_eq_true] at h
  exact h.imp id fun h x hx y hy o ho=>of_blt (h x hx y hy o ho)
 | loop nt sl ps as bd st pe =>
  simp only [okInB,List.all_eq_true] at h
  exact fun p hp o ho=>of_blt (h p hp o ho)
 | dead=>trivial
 | fam=>cases h
 | refs=>cases h
theorem okIn_simp {N:Nat} {x:AObj} (h:OkIn N x):simpO x=true:=by cases x <;> first | rfl | exact h.elim
theorem inner_none {objs:List AObj} (h:∀x∈objs,simpO x=true) (id:Nat):innerOf objs id=none:=by
 unfold innerOf
 rw [dif_neg]
 rintro ⟨y,k,i,w,fl,xs,l,_,hk,_⟩
 have:=h _ (List.mem_of_getElem? hk)
 cases this
theorem plain_simp {x:AObj} (h:simpO x=true):x.plain=x:=by cases x <;> first | rfl | cases h
theorem sto_simp {objs:List AObj} (h:∀x∈objs,simpO x=true) (hb:objs.length≤BIG) (id:Nat):sto objs id=objs[id]?:=by
 by_cases hi:id < BIG
 ·rw [sto_low hi]
  cases e:objs[id]? with
  | none=>rfl
  | some x=>simp [plain_simp (h x (List.mem_of_getElem? e))]
 ·rw [sto_high (by omega),inner_none h,List.getElem?_eq_none (by omega)]
theorem lk_mem:∀{l:List (Nat × AV)} {t:Nat} {x:AV},lk l t=some x→∃p∈l,p.2=x
 | [],t,x,h=>by cases h
 | (k,y)::r,t,x,h=>by
  unfold lk at h
  split at h
  ·cases h; exact ⟨(k,y),by simp,rfl⟩
  ·obtain ⟨p,hp,e⟩:=lk_mem h
   exact ⟨p,List.mem_cons_of_mem _ hp,e⟩
section
variable {P:Program} {B N:Nat} {W0 W:World} {D:List Nat} {M:CM} {ι:Inj} {σ:Sto}
def HidB (N:Nat) (ι:Inj) (σ:Sto) (b:Nat):Prop:=∃k p fn sl ps as bd st pe,¬ k < N∧σ k=some (.loop fn sl ps as bd st pe)∧ι k=some p∧p.blk=b
def HidC (N:Nat) (ι:Inj) (σ:Sto) (b o:Nat):Prop:=∃k p bx nr fl w xs j,¬ k < N∧σ k=some (.row bx false nr fl w xs)∧ι k=some p∧p.blk=b∧o=p.base+j∧j < p.cap*w
open Classical in
noncomputable def hidM (N:Nat) (ι:Inj) (σ:Sto) (W:World) (M:CM):CM :=
 ⟨M.f,M.ok,fun b=>if HidB N ι σ b then W.heap[b]? else M.blk b,fun b o=>if HidC N ι σ b o then W.cell? ⟨b,o,none⟩ else M.kc b o⟩
theorem hidB_spec (h:Rel P B W0 D M ι σ W) {b:Nat} (hb:HidB N ι σ b):M.blk b=none∧∃l,W.heap[b]?=some (lobj l):=by
 obtain ⟨k,p,fn,sl,ps,as,bd,st,pe,_,hk,hp',rfl⟩:=hb
 obtain ⟨q,nt1,hq,hb1,_,tmps,_,hrec,_⟩:=h.loop k _ _ _ _ _ _ _ hk
 rw [hp'] at hq; cases hq
 exact ⟨hb1,_,hrec⟩
theorem hidC_spec (h:Rel P B W0 D M ι σ W) {b o:Nat} (hb:HidC N ι σ b o):M.kc b o=none∧M b o=none∧(∃v,W.cell? ⟨b,o,none⟩=some v)∧W.frozen? ⟨b,o,none⟩=false:=by
 obtain ⟨k,p,bx,nr,fl,w,xs,j,_,hk,hp',rfl,rfl,hj⟩:=hb
 obtain ⟨q,hq,hr⟩:=h.row k _ _ _ _ _ _ hk
 rw [hp'] at hq; cases hq
 have c:=h.cool k bx nr fl w xs p j hk hp' hj
 obtain ⟨o1,o2⟩:=(hr.own rfl).2 j hj
 exact ⟨c.2,o2,Option.isSome_iff_exists.1 o1,c.1⟩
open Classical in
theorem Rel.hide (h:Rel P B W0 D M ι σ W) (hA:∀k x,k < N→σ k=some x→OkIn N x) :
  Rel P B W0 D (hidM N ι σ W M) (fun k=>if k < N then ι k else none) (fun k=>if k < N then σ k else none) W:=by
 have hM1:M.le (hidM N ι σ W M):=fun _ _ _ h=>h
 have blk1:∀b,(hidM N ι σ W M).blk b=if HidB N ι σ b then W.heap[b]? else M.blk b:=fun b=>rfl
 have kc1:∀b o,(hidM N ι σ W M).kc b o=if HidC N ι σ b o then W.cell? ⟨b,o,none⟩ else M.kc b o:=fun b o=>rfl
 have low:∀{k:Nat} {x:AObj},(if k < N then σ k else none)=some x→k < N∧σ k=some x:=fun {k x} hk=>by
  by_cases e:k < N
  ·rw [if_pos e] at hk; exact ⟨e,hk⟩
  ·rw [if_neg e] at hk; cases hk
 have lowi:∀{k:Nat} {p:Place},k < N→(if k < N then ι k else none)=some p→ι k=some p:=fun e hk=>by rw [if_pos e] at hk; exact hk
 have rep1:∀{v:Value} {y:AV},(∀o∈y.ids,o < N)→RepV M ι v y→RepV (hidM N ι σ W M) (fun k=>if k < N then ι k else none) v y:=fun hi h=>(h.congr fun o ho=>if_pos (hi o ho)).mono hM1 (Inj.le_refl _)
 refine ⟨h.size,h.below,h.defs,⟨h.agree.cell,fun b x hb=>?_,fun b o v hb=>?_⟩,fun o bx nr fl w xs p k ho hp' hk=>?_,fun o bx ro nr fl w xs ho=>?_,fun o fn sl ps as bd st pe ho=>?_,fun o o' bx nr fl w xs bx' nr' fl' w' xs' p p' hne h1 h2 h3 h4=>?_,fun o o' fn sl ps as bd st pe fn' sl' ps' as' bd' st' pe' p p' hne h1 h2 h3 h4=>?_,fun o ho=>?_⟩
 ·rw [blk1] at hb
  by_cases hd:HidB N ι σ b
  ·rw [if_pos hd] at hb
   obtain ⟨_,l,hl⟩:=hidB_spec h hd
   rw [hl] at hb; cases hb
   exact ⟨hl,fun c e f=>lobj_ne_cells c e f,fun d he=>lobj_ne_def (x:=d) (by rw [he])⟩
  ·rw [if_neg hd] at hb; exact h.agree.keep b x hb
 ·rw [kc1] at hb
  by_cases hd:HidC N ι σ b o
  ·rw [if_pos hd] at hb
   exact ⟨hb,(hidC_spec h hd).2.2.2⟩
  ·rw [if_neg hd] at hb; exact h.agree.keepC b o v hb
 ·obtain ⟨l1,ho⟩:=low ho
  have hp':=lowi l1 hp'
  have c:=h.cool o bx nr fl w xs p k ho hp' hk
  refine ⟨c.1,?_⟩
  rw [kc1,if_neg]
  ·exact c.2
  ·rintro ⟨k2,p2,bx2,nr2,fl2,w2,xs2,j2,n2,hk2,hp2,hb2,ho2,hj2⟩
   obtain ⟨q,hq,hr⟩:=h.row o _ _ _ _ _ _ ho
   rw [hp'] at hq; cases hq
   obtain ⟨q,hq,hr2⟩:=h.row k2 _ _ _ _ _ _ hk2
   rw [hp2] at hq; cases hq
   have hpw:=hr.pw
   have hpw2:=hr2.pw
   rcases h.apart o k2 _ _ _ _ _ _ _ _ _ _ _ _ (fun e=>n2 (e ▸ l1)) ho hk2 hp' hp2 with a | a | a
   ·exact a hb2.symm
   ·rw [hpw] at a; omega
   ·rw [hpw2] at a; omega
 ·obtain ⟨l1,ho⟩:=low ho
  obtain ⟨p,hp',hrow⟩:=h.row o bx ro nr fl w xs ho
  refine ⟨p,by rw [if_pos l1]; exact hp',hrow.pw,hrow.pos,hrow.cpos,hrow.len,hrow.shaped,hrow.nr,hrow.fl,fun i j x y hi hj=>?_,hrow.own,fun hro i j x y hi hj=>?_⟩
  ·obtain ⟨v,hv,hrep⟩:=hrow.cells i j x y hi hj
   refine ⟨v,hv,?_⟩
   rcases hA o _ l1 ho with hn | hn
   ·exact (hrep.of_nr (AV.nr_flat (nrL_mem.1 (hrow.nr hn) x (List.mem_of_getElem? hi)) y (List.mem_of_getElem? hj))).mono hM1 (Inj.le_refl _)
   ·exact rep1 (hn x (List.mem_of_getElem? hi) y (List.mem_of_getElem? hj)) hrep
  ·obtain ⟨v,hv,hrep⟩:=hrow.imm hro i j x y hi hj
   exact ⟨v,hv,hrep.mono hM1 (Inj.le_refl _)⟩
 ·obtain ⟨l1,ho⟩:=low ho
  obtain ⟨p,nt1,hp',hb1,hB1,tmps,hsz,hrec,hsl1⟩:=h.loop o fn sl ps as bd st pe ho
  refine ⟨p,nt1,by rw [if_pos l1]; exact hp',?_,hB1,tmps,hsz,hrec,fun t x hx=>?_⟩
  ·rw [blk1,if_neg]
   ·exact hb1
   ·rintro ⟨k,q,fn',sl',ps',as',bd',st',pe',hk,hk',hq,hqb⟩
    exact h.loops o k _ _ _ _ _ _ _ _ _ _ _ _ _ _ _ _ (fun e=>hk (e ▸ l1)) ho hk' hp' hq hqb.symm
  ·obtain ⟨q,hq,rfl⟩:=lk_mem hx
   exact rep1 (hA o _ l1 ho q hq) (hsl1 t _ hx)
 ·obtain ⟨l1,h1⟩:=low h1
  obtain ⟨l2,h2⟩:=low h2
  exact h.apart o o' bx nr fl w xs bx' nr' fl' w' xs' p p' hne h1 h2 (lowi l1 h3) (lowi l2 h4)
 ·obtain ⟨l1,h1⟩:=low h1
  obtain ⟨l2,h2⟩:=low h2
  exact h.loops o o' fn sl ps as bd st pe fn' sl' ps' as' bd' st' pe' p p' hne h1 h2 (lowi l1 h3) (lowi l2 h4)
 ·by_cases l1:o < N
  ·rw [if_pos l1] at ho ⊢; exact h.used o ho
  ·exact .inl (if_neg l1)
open Classical in
theorem Rel.unhide {W':World} {M':CM} {ι':Inj} {σ':Sto} (h:Rel P B W0 D M ι σ W) (h':Rel P B W0 D M' ι' (fun k=>if k < N then σ' k else none) W') (hG:CM.Grow B (hidM N ι σ W M) M') (hι:∀k,k < N→ι' k=ι k)
  (hA:∀k x,k < N→σ' k=some x→OkIn N x) :
  ∃M2:CM,CM.Grow B M M2∧M'.le M2∧Rel P B W0 D M2 ι (fun k=>if k < N then σ' k else σ k) W':=by
 let M2:CM:=⟨M'.f,M'.ok,M.blk,M.kc⟩
 have hM2:M'.le M2:=fun _ _ _ h=>h
 have hMM2:M.le M2:=fun b o v h=>hG.le b o v h
 have blk':∀b,M'.blk b=if HidB N ι σ b then W.heap[b]? else M.blk b:=fun b=>by rw [hG.keep]; rfl
 have kc':∀b o,M'.kc b o=if HidC N ι σ b o then W.cell? ⟨b,o,none⟩ else M.kc b o:=fun b o=>by rw [hG.keepC]; rfl
 have notB:∀b,M'.blk b=none→¬ HidB N ι σ b∧M.blk b=none:=fun b hb=>by
  rw [blk'] at hb
  by_cases hd:HidB N ι σ b
  ·rw [if_pos hd] at hb
   obtain ⟨_,l,hl⟩:=hidB_spec h hd
   rw [hl] at hb; cases hb
  ·rw [if_neg hd] at hb; exact ⟨hd,hb⟩
 have notC:∀b o,M'.kc b o=none→¬ HidC N ι σ b o∧M.kc b o=none:=fun b o hb=>by
  rw [kc'] at hb
  by_cases hd:HidC N ι σ b o
  ·rw [if_pos hd] at hb
   obtain ⟨_,_,⟨v,hv⟩,_⟩:=hidC_spec h hd
   rw [hv] at hb; cases hb
  ·rw [if_neg hd] at hb; exact ⟨hd,hb⟩
 have low:∀{k:Nat} {x:AObj},k < N→(if k < N then σ' k else σ k)=some x→(if k < N then σ' k else none)=some x∧σ' k=some x:=fun e hk=>by
  rw [if_pos e] at hk ⊢; exact ⟨hk,hk⟩
 have high:∀{k:Nat} {x:AObj},¬ k < N→(if k < N then σ' k else σ k)=some x→σ k=some x:=fun e hk=>by rw [if_neg e] at hk; exact hk
 have repl:∀{v:Value} {y:AV},(∀o∈y.ids,o < N)→RepV M' ι' v y→RepV M2 ι v y:=fun hi h=>(h.congr fun o ho=>(hι o (hi o ho)).symm).mono hM2 (Inj.le_refl _)
 refine ⟨M2,⟨hMM2,hG.old,rfl,rfl,fun b o v hv=>?_⟩,hM2,h'.size,h'.below,h'.defs,⟨h'.agree.cell,fun b x hb=>?_,fun b o v hb=>?_⟩,fun o bx nr fl w xs p k ho hp' hk=>?_,fun o bx ro nr fl w xs ho=>?_,fun o fn sl ps as bd st pe ho=>?_,fun o o' bx nr fl w xs bx' nr' fl' w' xs' p p' hne h1 h2 h3 h4=>?_,fun o o' fn sl ps as bd st pe fn' sl' ps' as' bd' st' pe' p p' hne h1 h2 h3 h4=>?_,fun o ho=>?_⟩
 ·by_cases hd:HidC N ι σ b o
  ·rw [(hidC_spec h hd).1] at hv; cases hv
  ·exact hG.keepF b o v (by show (if HidC N ι σ b o then _ else _)=_; rw [if_neg hd]; exact hv)
 ·have hb':M.blk b=some x:=hb
  refine h'.agree.keep b x ?_
  rw [blk']
  by_cases hd:HidB N ι σ b
  ·rw [(hidB_spec h hd).1] at hb'; cases hb'
  ·rw [if_neg hd]; exact hb'
 ·have hb':M.kc b o=some v:=hb
  refine h'.agree.keepC b o v ?_
  rw [kc']
  by_cases hd:HidC N ι σ b o
  ·rw [(hidC_spec h hd).1] at hb'; cases hb'
  ·rw [if_neg hd]; exact hb'
 ·by_cases hl:o < N
  ·obtain ⟨ho1,ho2⟩:=low hl ho
   have c:=h'.cool o bx nr fl w xs p k ho1 (by rw [hι o hl]; exact hp') hk
   exact ⟨c.1,(notC _ _ c.2).2⟩
  ·have ho:=high hl ho
   have hd:HidC N ι σ p.blk (p.base+k):=⟨o,p,bx,nr,fl,w,xs,k,hl,ho,hp',rfl,rfl,hk⟩
   obtain ⟨s1,s2,⟨v,hv⟩,s4⟩:=hidC_spec h hd
   exact ⟨(h'.agree.keepC _ _ v (by rw [kc',if_pos hd]; exact hv)).2,s1⟩
 ·by_cases hl:o < N
  ·obtain ⟨ho1,ho2⟩:=low hl ho
   obtain ⟨p,hp',hrow⟩:=h'.row o bx ro nr fl w xs ho1
   refine ⟨p,by rw [←hι o hl]; exact hp',hrow.pw,hrow.pos,hrow.cpos,hrow.len,hrow.shaped,hrow.nr,hrow.fl,fun i j x y hi hj=>?_,hrow.own,fun hro i j x y hi hj=>?_⟩
   ·obtain ⟨v,hv,hrep⟩:=hrow.cells i j x y hi hj
    refine ⟨v,hv,?_⟩
    rcases hA o _ hl ho2 with hn | hn
    ·exact (hrep.of_nr (AV.nr_flat (nrL_mem.1 (hrow.nr hn) x (List.mem_of_getElem? hi)) y (List.mem_of_getElem? hj))).mono hM2 (Inj.le_refl _)
    ·exact repl (hn x (List.mem_of_getElem? hi) y (List.mem_of_getElem? hj)) hrep
   ·obtain ⟨v,hv,hrep⟩:=hrow.imm hro i j x y hi hj
    exact ⟨v,hv,hrep.mono hM2 (Inj.le_refl _)⟩
  ·have ho:=high hl ho
   obtain ⟨p,hp',hrow⟩:=h.row o bx ro nr fl w xs ho
   cases ro with
   | true =>
    have himm:∀(i j:Nat) (x y:AV),xs[i]?=some x→x.flat[j]?=some y→∃v,M2 p.blk (p.base+i*w+j)=some v∧RepV M2 noInj v y:=fun i j x y hi hj=>by
     obtain ⟨v,hv,hrep⟩:=hrow.imm rfl i j x y hi hj
     exact ⟨v,hMM2 _ _ _ hv,hrep.mono hMM2 (Inj.le_refl _)⟩
    refine ⟨p,hp',hrow.pw,hrow.pos,hrow.cpos,hrow.len,hrow.shaped,hrow.nr,hrow.fl,fun i j x y hi hj=>?_,fun h=>(by cases h),fun _=>himm⟩
    obtain ⟨v,hv,hrep⟩:=himm i j x y hi hj
    exact ⟨v,h'.agree.cell _ _ _ hv,hrep.mono (CM.le_refl _) (Inj.noInj_le _)⟩
   | false =>
    have kept:∀k,k < p.cap*w→∀v,W.cell? ⟨p.blk,p.base+k,none⟩=some v→W'.cell? ⟨p.blk,p.base+k,none⟩=some v:=fun k hk v hv =>
     (h'.agree.keepC _ _ v (by rw [kc',if_pos ⟨o,p,bx,nr,fl,w,xs,k,hl,ho,hp',rfl,rfl,hk⟩]; exact hv)).1
    refine ⟨p,hp',hrow.pw,hrow.pos,hrow.cpos,hrow.len,hrow.shaped,hrow.nr,hrow.fl,fun i j x y hi hj=>?_,fun _=>⟨(hrow.own rfl).1,fun k hk=>?_⟩,fun h=>(by cases h)⟩
    ·obtain ⟨v,hv,hrep⟩:=hrow.cells i j x y hi hj
     have hi':=(List.getElem?_eq_some_iff.1 hi).1
     have hj':=(List.getElem?_eq_some_iff.1 hj).1
     rw [(hrow.shaped x (List.mem_of_getElem? hi)).len] at hj'
     have hlt:i*w+j < p.cap*w:=by
      have h1:(i+1)*w≤p.cap*w:=Nat.mul_le_mul_right _ (by have:=hrow.len; omega)
      rw [Nat.succ_mul] at h1; omega
     have:=kept (i*w+j) hlt v (by rw [←Nat.add_assoc]; exact hv)
     exact ⟨v,by rw [Nat.add_assoc]; exact this,hrep.mono hMM2 (Inj.le_refl _)⟩
    ·obtain ⟨o1,o2⟩:=(hrow.own rfl).2 k hk
     obtain ⟨v,hv⟩:=Option.isSome_iff_exists.1 o1
     refine ⟨by rw [kept k hk v hv]; rfl,?_⟩
     have hd:HidC N ι σ p.blk (p.base+k):=⟨o,p,bx,nr,fl,w,xs,k,hl,ho,hp',rfl,rfl,hk⟩
     have:=hG.keepF p.blk (p.base+k) v (by show (if HidC N ι σ p.blk (p.base+k) then _ else _)=_; rw [if_pos hd]; exact hv)
     exact this.trans o2
 ·by_cases hl:o < N
  ·obtain ⟨ho1,ho2⟩:=low hl ho
   obtain ⟨p,nt1,hp',hb1,hB1,tmps,hsz,hrec,hsl1⟩:=h'.loop o fn sl ps as bd st pe ho1
   refine ⟨p,nt1,by rw [←hι o hl]; exact hp',(notB _ hb1).2,hB1,tmps,hsz,hrec,fun t x hx=>?_⟩
   obtain ⟨q,hq,rfl⟩:=lk_mem hx
   exact repl (hA o _ hl ho2 q hq) (hsl1 t _ hx)
  ·have ho:=high hl ho
   obtain ⟨p,nt1,hp',hb1,hB1,tmps,hsz,hrec,hsl1⟩:=h.loop o fn sl ps as bd st pe ho
   refine ⟨p,nt1,hp',hb1,hB1,tmps,hsz,?_,fun t x hx=>(hsl1 t x hx).mono hMM2 (Inj.le_refl _)⟩
   exact (h'.agree.keep p.blk _ (by rw [blk',if_pos ⟨o,p,fn,sl,ps,as,bd,st,pe,hl,ho,hp',rfl⟩]; exact hrec)).1
 ·have cellOf:∀{k bx nr fl w xs q},¬ k < N→σ k=some (.row bx false nr fl w xs)→ι k=some q→∀j,j < q.cap*q.w→HidC N ι σ q.blk (q.base+j):=fun {k bx nr fl w xs q} hk h1 hq j hj=>by
   obtain ⟨q',hq',hr⟩:=h.row k _ _ _ _ _ _ h1
   rw [hq] at hq'; cases hq'
   exact ⟨k,q,bx,nr,fl,w,xs,j,hk,h1,hq,rfl,rfl,by rw [←hr.pw]; exact hj⟩
  have free:∀{k bx nr fl w xs q},k < N→(if k < N then σ' k else σ k)=some (.row bx false nr fl w xs)→ι k=some q→∀j,j < q.cap*q.w→¬ HidC N ι σ q.blk (q.base+j):=fun {k bx nr fl w xs q} hk h1 hq j hj=>by
   obtain ⟨h1,_⟩:=low hk h1
   obtain ⟨q',hq',hr⟩:=h'.row k _ _ _ _ _ _ h1
   rw [hι k hk,hq] at hq'; cases hq'
   exact (notC _ _ (h'.cool k bx nr fl w xs q j h1 (by rw [hι k hk]; exact hq) (by rw [←hr.pw]; exact hj)).2).1
  have mixed:∀{k bx nr fl w xs q k2 bx2 nr2 fl2 w2 xs2 q2},k < N→¬ k2 < N→(if k < N then σ' k else σ k)=some (.row bx false nr fl w xs)→(if k2 < N then σ' k2 else σ k2)=some (.row bx2 false nr2 fl2 w2 xs2)→ι k=some q→ι k2=some q2 →
    q.blk≠q2.blk∨q.base+q.cap*q.w≤q2.base∨q2.base+q2.cap*q2.w≤q.base:=fun {k bx nr fl w xs q k2 bx2 nr2 fl2 w2 xs2 q2} l1 l2 h1 h2 h3 h4=>by
   apply Classical.byContradiction
   intro hno
   have hblk:q.blk=q2.blk:=Classical.byContradiction fun e=>hno (.inl e)
   have a1:¬ q.base+q.cap*q.w≤q2.base:=fun e=>hno (.inr (.inl e))
   have a2:¬ q2.base+q2.cap*q2.w≤q.base:=fun e=>hno (.inr (.inr e))
   have n1:0 < q.cap*q.w:=by
    obtain ⟨q',hq',hr⟩:=h'.row k _ _ _ _ _ _ (low l1 h1).1
    rw [hι k l1,h3] at hq'; cases hq'
    rcases hr.cpos with e | e
    ·exact Nat.mul_pos e (by rw [hr.pw]; exact hr.pos)
    ·rcases Nat.eq_zero_or_pos (q.cap*q.w) with z | z
     ·omega
     ·exact z
   have n2:0 < q2.cap*q2.w:=by
    obtain ⟨q',hq',hr⟩:=h.row k2 _ _ _ _ _ _ (high l2 h2)
    rw [h4] at hq'; cases hq'
    rcases hr.cpos with e | e
    ·exact Nat.mul_pos e (by rw [hr.pw]; exact hr.pos)
    ·rcases Nat.eq_zero_or_pos (q2.cap*q2.w) with z | z
     ·omega
     ·exact z
   have c1:=cellOf l2 (high l2 h2) h4
   have c2:=free l1 h1 h3
   rcases Nat.le_total q.base q2.base with e | e
   ·have:=c2 (q2.base - q.base) (by omega)
    rw [show q.base+(q2.base - q.base)=q2.base+0 by omega,hblk] at this
    exact this (c1 0 (by omega))
   ·have:=c2 0 (by omega)
    rw [hblk,show q.base+0=q2.base+(q.base - q2.base) by omega] at this
    exact this (c1 (q.base - q2.base) (by omega))
  by_cases l1:o < N
  ·by_cases l2:o' < N
   ·exact h'.apart o o' bx nr fl w xs bx' nr' fl' w' xs' p p' hne (low l1 h1).1 (low l2 h2).1 (by rw [hι o l1]; exact h3) (by rw [hι o' l2]; exact h4)
   ·exact mixed l1 l2 h1 h2 h3 h4
  ·by_cases l2:o' < N
   ·rcases mixed l2 l1 h2 h1 h4 h3 with a | a | a
    ·exact .inl (Ne.symm a)
    ·exact .inr (.inr a)
    ·exact .inr (.inl a)
   ·exact h.apart o o' bx nr fl w xs bx' nr' fl' w' xs' p p' hne (high l1 h1) (high l2 h2) h3 h4
 ·have free:∀{k fn sl ps as bd st pe q},k < N→(if k < N then σ' k else σ k)=some (.loop fn sl ps as bd st pe)→ι k=some q→¬ HidB N ι σ q.blk:=fun {k fn sl ps as bd st pe q} hk h1 hq=>by
   obtain ⟨h1,_⟩:=low hk h1
   obtain ⟨p,nt1,hp',hb1,_⟩:=h'.loop _ _ _ _ _ _ _ _ h1
   rw [hι k hk,hq] at hp'; cases hp'
   exact (notB _ hb1).1
  have one:∀{k fn sl ps as bd st pe q},¬ k < N→(if k < N then σ' k else σ k)=some (.loop fn sl ps as bd st pe)→ι k=some q→HidB N ι σ q.blk:=fun hk h1 hq=>⟨_,_,_,_,_,_,_,_,_,hk,high hk h1,hq,rfl⟩
  by_cases l1:o < N
  ·by_cases l2:o' < N
   ·exact h'.loops o o' fn sl ps as bd st pe fn' sl' ps' as' bd' st' pe' p p' hne (low l1 h1).1 (low l2 h2).1 (by rw [hι o l1]; exact h3) (by rw [hι o' l2]; exact h4)
   ·exact fun e=>free l1 h1 h3 (e ▸ one l2 h2 h4)
  ·by_cases l2:o' < N
   ·exact fun e=>free l2 h2 h4 (e ▸ one l1 h1 h3)
   ·exact h.loops o o' fn sl ps as bd st pe fn' sl' ps' as' bd' st' pe' p p' hne (high l1 h1) (high l2 h2) h3 h4
 ·by_cases hl:o < N
  ·rw [if_pos hl]
   have:=h'.used o (by rw [hι o hl]; exact ho)
   rw [if_pos hl] at this
   exact this
  ·rw [if_neg hl]; exact h.used o ho
end
end Go.Ab
namespace Go.Ab
open Go.RowKit
theorem nodupOf:∀D:List Nat,∃D':List Nat,D'.Nodup∧∀r,r∈D'↔r∈D
 | []=>⟨[],List.nodup_nil,fun r=>Iff.rfl⟩
 | x::D=>by
  obtain ⟨D',h1,h2⟩:=nodupOf D
  by_cases hx:x∈D'
  ·exact ⟨D',h1,fun r=>by rw [h2,List.mem_cons]; exact ⟨.inr,fun h=>h.elim (fun e=>by subst e; exact (h2 _).1 hx) id⟩⟩
  ·exact ⟨x::D',List.nodup_cons.2 ⟨hx,h1⟩,fun r=>by rw [List.mem_cons,List.mem_cons,h2]⟩
theorem applyEff_len:∀{es:List (Nat × AObj)} {objs objs':List AObj},applyEff objs es=some objs'→(∀y∈es,y.1 < objs.length)→objs'.length=objs.length
 | [],objs,objs',h,_=>by cases h; rfl
 | (o,x)::es,objs,objs',h,hl=>by
  simp only [applyEff] at h
  split at h
  ·split at h
   ·split at h
    ·cases h
    ·rw [applyEff_len h (fun y hy=>by rw [List.length_set]; exact hl y (List.mem_cons_of_mem _ hy)),List.length_set]
   ·rename_i hn
    have:=hl (o,x) (by simp)
    rw [List.getElem?_eq_getElem this] at hn; cases hn
  ·cases h
section
variable {P:Program} {ops:Array Oper} {o:Oper}
theorem ylL_rec {g:Operand} {args:Array Operand} {ts:Array TypeId} {f:FuncId} {fn:Func} {c:Code} {first caps as:List AV} {e:AExit} {x:AV} {s:Slots} {σ:Sto} {N n:Nat} {A A':List AObj} {sl':List (Nat × AV)} {nt':Nat} {eff:List (Nat × AObj)}
  (hw:wantedA ops s o=some true) (ho:o.op=.call { callee:=.value g,args,argTypes:=ts }) (hg:evo s g=some (.fn (.func f) first caps)) (has:evos s args.toList=some as)
  (hf:P.funcs[f]?=some fn) (hb:fn.body=some c) (hn:(fn.name == "runtime.NumGoroutine")=false) (hle:(first++as++caps).length≤fn.ntmps)
  (hσ:∀k,k < N→σ k=A[k]?) (hN:A.length=N) (hN':A'.length=N) (hbig:N≤BIG) (hlive:∀y∈A,liveO y=true) (hA:∀y∈A,OkIn N y) (hA':∀y∈A',OkIn N y)
  (hids:∀a∈first++as++caps,∀k∈a.ids,k < N)
  (h:Exec P none N c ⟨enumA 0 (first++as++caps),A,fn.ntmps⟩ (.go e ⟨sl',A',nt'⟩)) (hend:e.ends=true) (hr:resultA P fn ⟨sl',A',nt'⟩=some x) (hx:x.nr=true)
  (heff:∀k,k < N→Sto.puts (fun k=>A[k]?) eff k=A'[k]?) (heff2:∀y∈eff,y.1 < N) :
  YlL P ops o ⟨some x,eff,n,n,List.range N⟩ s σ:=by
 intro s' σ' hs' hσ'
 have hl:=evo_local (ops:=ops) hs'
 rw [ho] at hl
 have hg':evo s' g=some (.fn (.func f) first caps):=by rw [hl g (by simp [Op.operands,Call.operands])]; exact hg
 have has':evos s' args.toList=some as:=by rw [evos_congr (fun y hy=>hl y (by simp [Op.operands,Call.operands]; exact .inr (by simpa using hy)))]; exact has
 refine .inl ⟨by rw [wantedA_local hs']; exact hw,?_⟩
 intro B W0 D M ι a W nn Q r next hrel hsl hfree hpost
 simp only at hfree hpost
 have hσN:∀k,k < N→σ' k=A[k]?:=fun k hk=>by rw [hσ' k (List.mem_range.2 hk)]; exact hσ k hk
 have hgv:=evo_sound hsl hg'
 generalize hgu:a.eval g=gu at hgv
 cases hgv with
 | fn _ first' caps' _ _ hy hm h1 h2 hr1 hr2 =>
 obtain ⟨l1,e1⟩:=evos_sound hsl has'
 refine ⟨fun _ _=>trivial,?_⟩
 rw [Oper.semAt_eq _ _ _ (by rw [ho]; simp)]
 have hrun:(execOp a.eval o).run P W=.ok (.enter f (first'++args.map a.eval++caps')) W:=by
  simp only [execOp,ho,resolve,hgu,Deferred.ofValue,Sem.run_bind,Sem.run_pure,Result.andThen_ok,invoke]
  exact run_callFunc' hf (by rw [hb]; rfl) hn _ W
 rw [hrun,Oper.uponIn_enter]
 have hrep:∀(j:Nat) (v:Value) (y:AV),(first'++args.map a.eval++caps')[j]?=some v→(first++as++caps)[j]?=some y→RepV M ι v y :=
  list3_at h1 (by simpa using l1.symm) h2 hr1 (fun j v y hv hy=>by
   simp only [Array.getElem?_map,Option.map_eq_some_iff] at hv
   obtain ⟨w,hw,rfl⟩:=hv
   exact (e1 j w y (by simpa using hw) hy).2) hr2
 have hsz:(first'++args.map a.eval++caps').size=(first++as++caps).length:=by simp [h1,h2,l1]
 have hOk:∀k x,k < N→σ' k=some x→OkIn N x:=fun k x hk hx=>by
  rw [hσN k hk] at hx; exact hA x (List.mem_of_getElem? hx)
 have hhide:=hrel.hide (N:=N) hOk
 have hsA:sto A=fun k=>if k < N then σ' k else none:=funext fun k=>by
  rw [sto_simp (fun y hy=>okIn_simp (hA y hy)) (by omega)]
  by_cases hk:k < N
  ·rw [if_pos hk,hσN k hk]
  ·rw [if_neg hk,List.getElem?_eq_none (by omega)]
 rw [←hsA] at hhide
 obtain ⟨D0,hnd,hmem⟩:=nodupOf D
 have hhide0:=hhide.mem (D':=D0) (fun r hr=>(hmem r).1 hr)
 have hM1:M.le (hidM N ι σ' W M):=fun _ _ _ h=>h
 refine ⟨fun hd=>by simp [FW,Fence.wide] at hd,callsIn_FW ?_⟩
 refine callsIn_wide.1 (callsIn_of_wp_marks (F:=FW none) (n:=0) hf hb trivial ?_)
 refine h B W0 D0 [] (hidM N ι σ' W M) (fun k=>if k < N then ι k else none) _ W 0 _ none ⟨hhide0,slots_start fn.ntmps (fun j v y hv hy=>?_) hsz,by rw [Array.size_append,Array.size_replicate]; show _=fn.ntmps; omega,⟨rfl,fun r hr=>by simp at hr,by simpa using hnd⟩,fun k hk=>?_,by show A.length≤BIG; omega⟩ rfl ⟨?_,fun v hv=>by cases hv⟩
 ·have hi:=hids y (List.mem_of_getElem? hy)
  exact ((hrep j v y hv hy).congr fun o ho=>if_pos (hi o ho)).mono hM1 (Inj.le_refl _)
 ·exact if_neg (fun hlt=>hk (.inl (by show k < A.length; omega)))
 intro e' st'' he dl' M' ι' a' W' g1 g2 g3 g4
 cases he
 have hex:e.exit'=.normal∨e.exit'=.ret:=by cases e <;> simp_all [AExit.ends,AExit.exit']
 have cut:∀R,LeavesInM (FW none) 0 P fn a'.tmps R a'.defers .returning W'→bodyPostM (FW none) 0 P fn R e.exit' a' W':=fun R hR=>by
  rcases hex with e1 | e1 <;> rw [e1] <;> exact hR
 apply cut
 rw [g4.df.defs]
 refine leavesA (by simp) dl' W' g4.rel g4.df.nd g4.df.old (fun W2 h2=>?_)
 obtain ⟨v,k1,k2⟩:=resultA_sound h2 g4.slots hr
 refine ⟨v,k1,?_⟩
 have hι:∀k,k < N→ι' k=ι k:=fun k hk=>by
  have hlv:∃p,ι k=some p:=by
   have hAk:A[k]?=some (A[k]'(by omega)):=List.getElem?_eq_getElem (by omega)
   have hk':=hσN k hk
   rw [hAk] at hk'
   have hlv:=hlive _ (List.mem_of_getElem? hAk)
   cases hy:A[k]'(by omega) with
   | row bx ro nr fl w xs=>rw [hy] at hk'; obtain ⟨p,hp,_⟩:=hrel.row k _ _ _ _ _ _ hk'; exact ⟨p,hp⟩
   | loop nt sl ps as bd st pe=>rw [hy] at hk'; obtain ⟨p,_,hp,_⟩:=hrel.loop k _ _ _ _ _ _ _ hk'; exact ⟨p,hp⟩
   | _=>rw [hy] at hlv; cases hlv
  obtain ⟨p,hp⟩:=hlv
  rw [hp]
  exact g2 k p (.inl hk) (by show (if k < N then ι k else none)=_; rw [if_pos hk]; exact hp)
 have h2':=h2.mem (D':=D) (fun r hr=>(hmem r).2 hr)
 have hsA':sto A'=fun k=>if k < N then (fun k=>A'[k]?) k else none:=funext fun k=>by
  rw [sto_simp (fun y hy=>okIn_simp (hA' y hy)) (by omega)]
  by_cases hk:k < N
  ·rw [if_pos hk]
  ·rw [if_neg hk,List.getElem?_eq_none (by omega)]
 rw [show (⟨sl',A',nt'⟩:St).objs=A' from rfl,hsA'] at h2'
 obtain ⟨M2,q1,q2,q3⟩:=hrel.unhide h2' g1 hι (fun k y hk hy=>hA' y (List.mem_of_getElem? hy))
 refine hpost v W2 M2 ι q1 (Inj.le_refl _) (fun _ _=>rfl) ?_ (fun y hy=>?_)
 ·have:(fun k=>if k < N then (fun k=>A'[k]?) k else σ' k)=σ'.puts eff:=funext fun k=>by
   by_cases hk:k < N
   ·rw [if_pos hk]
    show A'[k]?=_
    rw [←heff k hk]
    exact puts_agree eff k (.inl (hσN k hk).symm)
   ·rw [if_neg hk]
    exact (puts_not (fun y hy e=>hk (by rw [←e]; exact heff2 y hy))).symm
  rw [←this]; exact q3
 ·cases hy
  exact (k2.of_nr hx).mono q2 (Inj.noInj_le _)
end
section
variable {P:Program} {rd:Option Nat} {base:Nat} {ops:Array Oper} {d:Option (List Sk)} {st S:St} {Φ:AOut→Prop} {i:Nat}
noncomputable def recEnd (P:Program) (fn:Func) (ops:Array Oper) (i:Nat) (st:St) (eff:List (Nat × AObj)) (st':St):Option St :=
 match resultA P fn st',ops[i]? with
 | some x,some o=>match putD st.slots st.nt o.dst (some x),applyEff st.objs eff with
  | some slots,some objs=>if x.nr then some ⟨slots,objs,st.nt⟩ else none
  | _,_=>none
 | _,_=>none
theorem recD {σ ρ R:Type} {N:Nat} {c:Code} {I:σ→St} {E:ρ→St} {F:σ→Option ρ} {K:ρ→Option R} {r:R} {f:FuncId} {fn:Func} {as0:List AV} (s0:σ) (A H:List AObj) (eff:ρ→List (Nat × AObj)) (S:ρ→St)
  (hi:callInfo ops i st=some (f,as0)) (hf:P.funcs[f]?=some fn) (hb:fn.body=some c) (hn:(fn.name == "runtime.NumGoroutine")=false) (hle:Nat.ble as0.length fn.ntmps=true)
  (hsp:st.objs=A++H) (h0:(⟨enumA 0 as0,A,fn.ntmps⟩:St)=I s0) (hN:A.length=N) (hbig:Nat.ble N BIG=true) (hlive:A.all liveO=true) (hA:∀y∈A,OkIn N y) (hE:∀x,(E x).objs.length=N) (hA':∀x,∀y∈(E x).objs,OkIn N y)
  (hsl:(as0.all fun a=>a.ids.all fun o=>Nat.blt o N)=true)
  (heff:∀x,∀k,k < N→Sto.puts (fun k=>A[k]?) (eff x) k=(E x).objs[k]?) (hefl:∀x,∀y∈eff x,y.1 < N) (w:List Nat) (hw:∀x,(eff x).map (·.1)=w) (hlow:Nat.ble st.objs.length BIG=true)
  (IH:RecOk P N c I E F) (h:(F s0).bind K=some r) (hS:∀x,recEnd P fn ops i st (eff x) (E x)=some (S x))
  (k:∀x,K x=some r→RW P rd base ops (dAdd d [(w,List.range N)]) (i+1) (S x) Φ):RW P rd base ops d i st Φ:=by
 obtain ⟨o,g,args,ts,first,caps,as1,ho,hop,hg,has,rfl⟩:=callInfo_spec hi
 obtain ⟨h1,h2⟩:=opAt_spec ho
 cases hx:F s0 with
 | none=>rw [hx] at h; cases h
 | some x =>
  rw [hx] at h
  obtain ⟨out,hex,hout⟩:=IH s0 x hx
  rw [←h0] at hex
  have hsx:=hS x
  unfold recEnd at hsx
  split at hsx
  ·rename_i y o' hr ho'
   rw [h1] at ho'; cases ho'
   split at hsx
   ·rename_i slots objs hp ha
    split at hsx
    ·rename_i hy
     have hsS:S x=⟨slots,objs,st.nt⟩:=(Option.some.inj hsx).symm
     have hks:=k x h
     rw [hsS] at hks
     obtain ⟨p1,p2,p3⟩:=applyEff_puts _ _ _ ha
     have hNl:N≤st.objs.length:=by rw [hsp,List.length_append]; omega
     have hbig':N≤BIG:=Nat.le_of_ble_eq_true hbig
     have hAsimp:∀z∈A,simpO z=true:=fun z hz=>okIn_simp (hA z hz)
     have hσ:∀k,k < N→sto st.objs k=A[k]?:=fun k hk=>by
      have hkb:k < BIG:=by omega
      rw [sto_low hkb,hsp,List.getElem?_append_left (by omega)]
      cases e:A[k]? with
      | none=>rfl
      | some z=>simp [plain_simp (hAsimp z (List.mem_of_getElem? e))]
     have hids:∀a∈first++as1++caps,∀k∈a.ids,k < N:=fun a ha k hk=>of_blt (List.all_eq_true.1 (List.all_eq_true.1 hsl a ha) k hk)
     have hout':∃e,out=.go e (E x)∧e.ends=true:=by
      rcases hout with he | he
      ·exact ⟨_,he,rfl⟩
      ·exact ⟨_,he,rfl⟩
     obtain ⟨e,rfl,hend⟩:=hout'
     have hlen:objs.length=st.objs.length:=applyEff_len ha (fun y hy=>by have:=hefl x y hy; omega)
     refine rw_step (s:=(w,List.range N)) ⟨o,⟨some y,eff x,st.objs.length,st.objs.length,List.range N⟩,h1,?_,cov_of (by simp [Foot.sk,hw x])⟩ hks
     refine stepF_mk (ylL_rec (e:=e) (sl':=(E x).slots) (nt':=(E x).nt) (A:=A) (A':=(E x).objs) h2 hop hg has hf hb hn (Nat.le_of_ble_eq_true hle) hσ hN (hE x) hbig' (fun z hz=>List.all_eq_true.1 hlive z hz) hA (hA' x) hids hex hend hr hy (heff x) (hefl x)) rfl ?_ ha hp rfl
     show st.objs.length=objs.length
     exact hlen.symm
    ·cases hsx
   ·cases hsx
  ·cases hsx
end
end Go.Ab
namespace Go.Ab
open Go.RowKit
def encE {α:Type} (kk:IntKind) (enc:α→AV) (p:Int × α):AV × AV:=(.int kk p.1,enc p.2)
def mapI {α:Type} (kk:IntKind) (enc:α→AV) (l:List (Int × α)):AObj:=mapO (l.map (encE kk enc))
def mget {α:Type}:List (Int × α)→Int→Option α
 | [],_=>none
 | p::r,n=>if n==p.1 then some p.2 else mget r n
def mput {α:Type}:List (Int × α)→Int→α→List (Int × α)
 | [],n,v=>[(n,v)]
 | p::r,n,v=>if n==p.1 then (n,v)::r else p::mput r n v
theorem unSlots_map:∀(es:List (AV × AV)) (i:Nat),unSlots i (mapSlots i es)=some es
 | [],i=>rfl
 | (k,v)::r,i=>by
  simp only [mapSlots,unSlots]
  rw [show Nat.beq i i=true from Nat.beq_refl i,show Nat.beq (i+1) (i+1)=true from Nat.beq_refl _]
  simp [unSlots_map r (i+2)]
theorem mapEs_map (es:List (AV × AV)):mapEs (mapO es)=some es:=by
 simp [mapEs,mapO,unSlots_map]
section
variable {P:Program} {α:Type} {enc:α→AV} {kk:IntKind} {kt:TypeId}
theorem keyAt_eq (hk:skOf P kt=some .int) (n m:Int):keyAt P kt (.int kk n) (.int kk m)=some (n==m):=by
 unfold keyAt; rw [hk]; simp [scEq]
theorem find_none (hk:skOf P kt=some .int) {n:Int}:∀(l:List (Int × α)) (i:Nat),mget l n=none→findE (keyAt P kt) (.int kk n) (l.map (encE kk enc)) i=some none
 | [],i,_=>rfl
 | p::r,i,h=>by
  unfold mget at h
  split at h
  ·cases h
  ·rename_i hc
   simp only [List.map_cons,encE,findE,keyAt_eq hk]
   rw [show (n==p.1)=false by simpa using hc]
   exact find_none hk r (i+1) h
theorem find_some (hk:skOf P kt=some .int) {n:Int} {v:α}:∀(l:List (Int × α)) (i:Nat),mget l n=some v→∃j,findE (keyAt P kt) (.int kk n) (l.map (encE kk enc)) i=some (some (i+j,enc v))∧∀w,(l.map (encE kk enc)).set j (encE kk enc (n,w))=(mput l n w).map (encE kk enc)
 | [],i,h=>by cases h
 | p::r,i,h=>by
  unfold mget at h
  split at h
  ·rename_i hc
   cases h
   refine ⟨0,?_,fun w=>?_⟩
   ·simp only [List.map_cons,encE,findE,keyAt_eq hk,hc,Nat.add_zero]
   ·simp only [mput,hc,if_true,List.map_cons,List.set_cons_zero]
  ·rename_i hc
   have hc':(n==p.1)=false:=by simpa using hc
   obtain ⟨j,h1,h2⟩:=find_some hk r (i+1) h
   refine ⟨j+1,?_,fun w=>?_⟩
   ·simp only [List.map_cons,encE,findE,keyAt_eq hk,hc']
    rw [show i+(j+1)=i+1+j by omega]
    exact h1
   ·simp only [mput,hc',List.map_cons,List.set_cons_succ,h2 w]
    simp
theorem put_none {n:Int} {w:α}:∀(l:List (Int × α)),mget l n=none→l.map (encE kk enc)++[encE kk enc (n,w)]=(mput l n w).map (encE kk enc)
 | [],_=>rfl
 | p::r,h=>by
  unfold mget at h
  split at h
  ·cases h
  ·rename_i hc
   have hc':(n==p.1)=false:=by simpa using hc
   simp only [mput,hc',List.map_cons,List.cons_append,put_none r h]
   simp
end
section
variable {P:Program} {rd:Option Nat} {base:Nat} {ops:Array Oper} {d:Option (List Sk)} {st S:St} {Φ:AOut→Prop} {i:Nat}
theorem evOp_val {P:Program} {nf:Bool} {C:FuncId→List AV→Option COut} {σ:Sto} {fr:Nat} {s:Slots} {o:Oper} {r:Res}:(evOp P nf C σ fr s o=some (.val r))=(evalOp P nf C σ fr s o=some (.val r)):=by
 apply propext
 unfold evOp
 split
 ·exact Iff.rfl
 ·cases evalOp P nf C σ fr s o with
  | none=>exact Iff.rfl
  | some y=>cases y <;> simp [onlyVal]
noncomputable def lkmInfo (P:Program) (ops:Array Oper) (i:Nat) (st:St):Option (Nat × AV × Bool × AV) :=
 match opAt ops i st with
 | some o=>match o.op with
  | .lookup t x ix c=>match ti P t,evo (lk st.slots) x,evo (lk st.slots) ix with
   | some T,some (.mp ob),some k=>match T.kind with
    | .map kt et=>match skOf P kt,(ti P et).bind (·.zero) with
     | some .int,some z=>some (ob,k,c,z)
     | _,_=>none
    | _=>none
   | _,_,_=>none
  | _=>none
 | none=>none
noncomputable def updInfo (P:Program) (ops:Array Oper) (i:Nat) (st:St):Option (Nat × AV × AV) :=
 match opAt ops i st with
 | some o=>match o.op with
  | .mapUpdate t m x y | .insert t m x y=>match ti P t,evo (lk st.slots) m,evo (lk st.slots) x,evo (lk st.slots) y with
   | some T,some (.mp ob),some k,some v=>match T.kind with
    | .map kt _=>match skOf P kt with
     | some .int=>some (ob,k,v)
     | _=>none
    | _=>none
   | _,_,_,_=>none
  | _=>none
 | none=>none
theorem lookM {α:Type} {enc:α→AV} {kk:IntKind} {l:List (Int × α)} {n:Int} {z:α} {ob:Nat} {c:Bool} (hi:lkmInfo P ops i st=some (ob,.int kk n,c,enc z)) (hrow:st.sto ob=some (mapI kk enc l)) (hok:∀v,(enc v).okv=true)
  (hS:finI ops i st (some (if c then .tup [enc ((mget l n).getD z),.bool (mget l n).isSome] else enc ((mget l n).getD z))) []=some S) (k:RW P rd base ops (dAdd d [([],[ob])]) (i+1) S Φ):RW P rd base ops d i st Φ:=by
 unfold lkmInfo at hi
 split at hi
 ·rename_i o ho
  split at hi
  ·rename_i t x ix c' hop
   split at hi
   ·rename_i T ob' k' hT hx hix
    split at hi
    ·rename_i kt et hkind
     split at hi
     ·rename_i z' hsk hz
      cases hi
      refine rw_of (nf:=false) (v:=some (if c then .tup [enc ((mget l n).getD z),.bool (mget l n).isSome] else enc ((mget l n).getD z))) (eff:=[]) (fr:=st.objs.length) (rds:=[ob]) ho ?_ hS (finI_len0 hS) k
      rw [evOp_val]
      simp only [evalOp,hop]
      unfold evLookup
      have hes:(st.sto ob).bind mapEs=some (l.map (encE kk enc)):=by rw [hrow]; exact mapEs_map _
      simp only [hT,hx,hix,hkind,hes,keyAt_eq hsk,hz]
      cases hg:mget l n with
      | none =>
       rw [find_none hsk l 0 hg]
       simp only [hok,if_true,Option.getD_none,Option.isSome_none]
      | some v =>
       obtain ⟨j,h1,_⟩:=find_some (enc:=enc) (kk:=kk) hsk l 0 hg
       rw [h1]
       simp only [hok,if_true,Option.getD_some,Option.isSome_some]
     ·cases hi
    ·cases hi
   ·cases hi
  ·cases hi
 ·cases hi
theorem updM {α:Type} {enc:α→AV} {kk:IntKind} {l:List (Int × α)} {n:Int} {v:α} {ob:Nat} (hi:updInfo P ops i st=some (ob,.int kk n,enc v)) (hrow:st.sto ob=some (mapI kk enc l))
  (hS:finI ops i st none [(ob,mapI kk enc (mput l n v))]=some S) (hl:Nat.beq S.objs.length st.objs.length=true) (k:RW P rd base ops (dAdd d [([ob],[ob])]) (i+1) S Φ):RW P rd base ops d i st Φ:=by
 have main:∃o,opAt ops i st=some o∧evOp P false noC st.sto st.objs.length (lk st.slots) o=some (.val ⟨none,[(ob,mapI kk enc (mput l n v))],st.objs.length,[ob]⟩):=by
  unfold updInfo at hi
  split at hi
  ·rename_i o ho
   have step:∀(t:TypeId) (m x y:Operand),(o.op=.mapUpdate t m x y∨o.op=.insert t m x y)→(match ti P t,evo (lk st.slots) m,evo (lk st.slots) x,evo (lk st.slots) y with
     | some T,some (.mp ob),some k,some v=>match T.kind with
      | .map kt _=>match skOf P kt with
       | some .int=>some (ob,k,v)
       | _=>none
      | _=>none
     | _,_,_,_=>none)=some (ob,AV.int kk n,enc v)→evOp P false noC st.sto st.objs.length (lk st.slots) o=some (.val ⟨none,[(ob,mapI kk enc (mput l n v))],st.objs.length,[ob]⟩):=fun t m x y hop hi=>by
    split at hi
    ·rename_i T ob' k' v' hT hm hx hy
     split at hi
     ·rename_i kt et hkind
      split at hi
      ·rename_i hsk
       cases hi
       rw [evOp_val]
       have hev:evalOp P false noC st.sto st.objs.length (lk st.slots) o=evUpd P st.sto st.objs.length (lk st.slots) t m x y:=by
        rcases hop with hop | hop <;> simp only [evalOp,hop]
       rw [hev]
       unfold evUpd
       have hes:(st.sto ob).bind mapEs=some (l.map (encE kk enc)):=by rw [hrow]; exact mapEs_map _
       simp only [hT,hm,hx,hy,hkind,hes,keyAt_eq hsk]
       cases hg:mget l n with
       | none =>
        rw [find_none hsk l 0 hg]
        simp only
        rw [show (AV.int kk n,enc v)=encE kk enc (n,v) from rfl,put_none l hg]
        rfl
       | some u =>
        obtain ⟨j,h1,h2⟩:=find_some (enc:=enc) (kk:=kk) hsk l 0 hg
        rw [h1]
        simp only [Nat.zero_add]
        rw [show (AV.int kk n,enc v)=encE kk enc (n,v) from rfl,h2]
        rfl
      ·cases hi
     ·cases hi
    ·cases hi
   refine ⟨o,ho,?_⟩
   split at hi
   ·rename_i t m x y hop; exact step t m x y (.inl hop) hi
   ·rename_i t m x y hop; exact step t m x y (.inr hop) hi
   ·cases hi
  ·cases hi
 obtain ⟨o,ho,he⟩:=main
 exact rw_of ho he hS (Nat.eq_of_beq_eq_true hl) k
end
end Go.Ab
namespace Go.Ab
open Go.RowKit
section
variable {P:Program}
theorem okIn_mapI {N:Nat} {α:Type} {kk:IntKind} {enc:α→AV} {l:List (Int × α)} (he:∀v,(enc v).ids=[]):OkIn N (mapI kk enc l):=by
 show ∀p∈mapSlots 0 (l.map (encE kk enc)),∀o∈p.2.ids,o < N
 have:∀(l:List (Int × α)) (i:Nat),∀p∈mapSlots i (l.map (encE kk enc)),p.2.ids=[]:=by
  intro l
  induction l with
  | nil=>intro i p hp; cases hp
  | cons x l ih =>
   intro i p hp
   simp only [List.map_cons,encE,mapSlots,List.mem_cons] at hp
   rcases hp with rfl | rfl | hp
   ·rfl
   ·exact he _
   ·exact ih (i+2) p hp
 intro p hp o ho
 rw [this l 0 p hp] at ho
 cases ho
end
end Go.Ab
namespace Go.Ab
open Go.RowKit
section
variable {P:Program} {rd:Option Nat} {base:Nat} {ops:Array Oper} {d:Option (List Sk)} {st S1 S:St} {Φ:AOut→Prop} {i:Nat}
noncomputable def ixtInfo (P:Program) (ops:Array Oper) (i:Nat) (st:St):Option (List AV × Int × Nat) :=
 match opAt ops i st with
 | some o=>match o.op with
  | .indexAddr t x ix=>match ti P t,evo (lk st.slots) x,evo (lk st.slots) ix with
   | some T,some (.fz cs),some (.int _ n)=>match T.kind with
    | .array len e=>match ti P e with
     | some E=>if Nat.beq E.size 1 then some (cs,n,len) else none
     | none=>none
    | _=>none
   | _,_,_=>none
  | _=>none
 | none=>none
noncomputable def ldtInfo (P:Program) (ops:Array Oper) (i:Nat) (st:St):Option (List AV) :=
 match opAt ops i st with
 | some o=>match o.op with
  | .load t x=>match ti P t,evo (lk st.slots) x with
   | some T,some (.fz cs)=>if T.agg then none else some cs
   | _,_=>none
  | _=>none
 | none=>none
theorem tabR {l:List Int} {n a:Int} {kk:IntKind} {len:Nat} {cells:List AV} (hi:ixtInfo P ops i st=some (cells,n,len)) (hc:cells=l.map (AV.int kk)) (hlen:l.length=len) (ha:lkI l n=some a)
  (h1:finI ops i st (some (.fz ((l.map (AV.int kk)).drop n.toNat))) []=some S1) (hl:ldtInfo P ops (i+1) S1=some ((l.map (AV.int kk)).drop n.toNat)) (hS:finI ops (i+1) S1 (some (.int kk a)) []=some S)
  (k:RW P rd base ops (dAdd (dAdd d [([],[])]) [([],[])]) (i+1+1) S Φ):RW P rd base ops d i st Φ:=by
 obtain ⟨g1,g2,g3⟩:=lkI_lt ha
 subst hc
 have s1:∃o,opAt ops i st=some o∧evOp P false noC st.sto st.objs.length (lk st.slots) o=some (.val ⟨some (.fz ((l.map (AV.int kk)).drop n.toNat)),[],st.objs.length,[]⟩):=by
  unfold ixtInfo at hi
  split at hi
  ·rename_i o ho
   split at hi
   ·rename_i t x ix hop
    split at hi
    ·rename_i T cs' k' n' hT hx hix
     split at hi
     ·rename_i len' e hk
      split at hi
      ·rename_i E hE
       split at hi
       ·rename_i hsz
        have hsz:=Nat.eq_of_beq_eq_true hsz
        cases hi
        refine ⟨o,ho,?_⟩
        rw [evOp_val]
        have hneg:¬ n < 0:=by omega
        simp only [evalOp,hop,hT,hx,hix,hk,hE,asN,hneg,if_false]
        rw [if_pos (blt_of (by omega)),hsz,Nat.mul_one]
        rfl
       ·cases hi
      ·cases hi
     ·cases hi
    ·cases hi
   ·cases hi
  ·cases hi
 obtain ⟨o,ho,he⟩:=s1
 refine rw_of ho he h1 (finI_len0 h1) ?_
 have s2:∃o,opAt ops (i+1) S1=some o∧evOp P false noC S1.sto S1.objs.length (lk S1.slots) o=some (.val ⟨some (.int kk a),[],S1.objs.length,[]⟩):=by
  unfold ldtInfo at hl
  split at hl
  ·rename_i o ho
   split at hl
   ·rename_i t x hop
    split at hl
    ·rename_i T cs hT hx
     split at hl
     ·cases hl
     ·rename_i hag
      have hcs:=Option.some.inj hl
      refine ⟨o,ho,?_⟩
      rw [evOp_val]
      have hag':T.agg=false:=by simpa using hag
      have hd:(l.map (AV.int kk)).drop n.toNat = AV.int kk a::(l.map (AV.int kk)).drop (n.toNat + 1):=by
       rw [List.drop_eq_getElem_cons (by simpa using g2)]
       congr 1
       rw [List.getElem_map]
       congr 1
       have:=List.getElem?_eq_some_iff.1 g3
       exact this.2
      simp only [evalOp,hop,hT,hx,hcs,hd]
      simp [takeT,hag',resV]
    ·cases hl
   ·cases hl
  ·cases hl
 obtain ⟨o2,ho2,he2⟩:=s2
 exact rw_of ho2 he2 hS (finI_len0 hS) k
end
end Go.Ab
namespace Go.Ab
open Go.RowKit
theorem renS_map {α:Type} {enc:α→AV} {kk:IntKind} {f:Nat → Option Nat} (he:∀v,(enc v).ren f=some (enc v)):∀(l:List (Int × α)) (i:Nat),renS f (mapSlots i (l.map (encE kk enc)))=some (mapSlots i (l.map (encE kk enc)))
 | [],i=>rfl
 | x::l,i=>by
  simp only [List.map_cons,encE,mapSlots,renS,he]
  have h1:(AV.int kk x.1).ren f=some (.int kk x.1):=rfl
  have h2:=renS_map (kk:=kk) he l (i+2)
  rw [h1]
  simp only [h2]
theorem ren_mapI {α:Type} {enc:α→AV} {kk:IntKind} {f:Nat → Option Nat} (he:∀v,(enc v).ren f=some (enc v)) (l:List (Int × α)):(mapI kk enc l).ren f=some (mapI kk enc l):=by
 show AObj.ren f (.loop _ _ _ _ _ _ _)=_
 simp only [AObj.ren,renS_map he l 0]
 rfl
def fillM (o:Nat) (m:AObj):List Nat → List AObj→List AObj
 | k::ks,y::ys=>(if Nat.beq k o then m else y)::fillM o m ks ys
 | _,ys=>ys
theorem gcObjs_inv {f:Nat → Option Nat} {objs:List AObj} {o:Nat} {e m:AObj} (hm:m.ren f=some m) (ho:o < objs.length):∀(ks:List Nat) (os:List AObj),gcObjs f (objs.set o e) ks=some os→gcObjs f (objs.set o m) ks=some (fillM o m ks os)
 | [],os,h=>by simp [gcObjs] at h; subst h; rfl
 | k::ks,os,h=>by
  simp only [gcObjs] at h ⊢
  by_cases c:o=k
  ·subst c
   rw [List.getElem?_set_self ho] at h ⊢
   simp only at h ⊢
   cases hx:e.ren f with
   | none=>rw [hx] at h; cases h
   | some y =>
    rw [hx] at h
    cases hr:gcObjs f (objs.set o e) ks with
    | none=>rw [hr] at h; cases h
    | some os' =>
     rw [hr] at h
     have ih:=gcObjs_inv hm ho ks os' hr
     cases h
     rw [ih,hm]
     simp [fillM]
  ·rw [List.getElem?_set_ne c] at h ⊢
   cases hk:objs[k]? with
   | none=>rw [hk] at h; cases h
   | some x =>
    rw [hk] at h
    simp only at h ⊢
    cases hx:x.ren f with
    | none=>rw [hx] at h; cases h
    | some y =>
     rw [hx] at h
     cases hr:gcObjs f (objs.set o e) ks with
     | none=>rw [hr] at h; cases h
     | some os' =>
      rw [hr] at h
      have ih:=gcObjs_inv hm ho ks os' hr
      cases h
      rw [ih]
      have:Nat.beq k o=false:=by
       cases e2:Nat.beq k o with
       | false=>rfl
       | true=>exact absurd (Nat.eq_of_beq_eq_true e2).symm c
      simp [fillM,this]
def gcMSt (base:Nat) (live keep:List Nat) (o:Nat) (m:AObj) (st:St):Option St :=
 match gcSt base live keep ⟨st.slots,st.objs.set o (mapO []),st.nt⟩ with
 | some s=>some ⟨s.slots,fillM o m (List.range base++keep) s.objs,s.nt⟩
 | none=>none
theorem wk_gcM {P:Program} {base:Nat} {st st':St} {live keep:List Nat} (o:Nat) {α:Type} (kk:IntKind) (enc:α→AV) (L:List (Int × α)) (hE:∀f a,(enc a).ren f=some (enc a)) (ho:st.objs[o]?=some (mapI kk enc L))
  (h:gcMSt base live keep o (mapI kk enc L) st=some st'):Wk P base st st':=by
 refine wk_gc (live:=live) (keep:=keep) ?_
 unfold gcMSt at h
 have hself:st.objs.set o (mapI kk enc L)=st.objs:=by
  obtain ⟨h1,h2⟩:=List.getElem?_eq_some_iff.1 ho
  apply List.ext_getElem?
  intro i
  by_cases e:o=i
  ·subst e; rw [List.getElem?_set_self h1,ho]
  ·rw [List.getElem?_set_ne e]
 cases hg:gcSt base live keep ⟨st.slots,st.objs.set o (mapO []),st.nt⟩ with
 | none=>rw [hg] at h; cases h
 | some s =>
  rw [hg] at h
  cases h
  unfold gcSt at hg ⊢
  simp only at hg ⊢
  split at hg
  ·rename_i hc
   rw [if_pos hc]
   split at hg
   ·rename_i os hos
    cases hg
    have:=gcObjs_inv (ren_mapI (kk:=kk) (fun a=>hE _ a) L) (List.getElem?_eq_some_iff.1 ho).1 _ _ hos
    rw [hself] at this
    rw [this]
   ·cases hg
  ·cases hg
end Go.Ab
namespace Go.Ab
open Go.RowKit
theorem puts_eff:∀(es:List (Nat × AObj)) (A A':List AObj),applyEff A es=some A'→(∀y∈es,y.1 < A.length)→∀k,Sto.puts (fun k=>A[k]?) es k=A'[k]?
 | [],A,A',h,_,k=>by cases h; rfl
 | (o,x)::es,A,A',h,hl,k=>by
  simp only [applyEff] at h
  split at h
  ·have ho:=hl (o,x) (by simp)
   rw [List.getElem?_eq_getElem ho] at h
   simp only at h
   split at h
   ·cases h
   ·have ih:=puts_eff es _ A' h (fun y hy=>by rw [List.length_set]; exact hl y (List.mem_cons_of_mem _ hy)) k
    rw [←ih]
    show Sto.puts _ es k=_
    congr 1
    funext j
    by_cases e:j=o
    ·subst e; simp [Sto.put,List.getElem?_set_self ho]
    ·simp [Sto.put,e,List.getElem?_set_ne (fun h=>e h.symm)]
  ·cases h
theorem ok_all {N:Nat} {A:List AObj} (h:A.all (okInB N)=true):∀y∈A,OkIn N y:=fun y hy=>okIn_of (List.all_eq_true.1 h y hy)
theorem ok_map {N:Nat} {A:List AObj} (k:Nat) {α:Type} (kk:IntKind) (enc:α→AV) (l:List (Int × α)) (hk:A[k]?=some (mapI kk enc l)) (he:∀v,(enc v).ids=[]) (h:(A.set k .dead).all (okInB N)=true):∀y∈A,OkIn N y:=fun y hy=>by
 obtain ⟨j,hj⟩:=List.mem_iff_getElem?.1 hy
 by_cases e:k=j
 ·subst e
  rw [hk] at hj
  cases hj
  exact okIn_mapI he
 ·exact okIn_of (List.all_eq_true.1 h y (List.mem_of_getElem? (by rw [List.getElem?_set_ne e]; exact hj)))
section
variable {P:Program} {rd:Option Nat} {base:Nat} {ops:Array Oper} {d:Option (List Sk)} {st:St} {Φ:AOut→Prop} {i:Nat}
theorem recH {σ ρ R:Type} {N:Nat} {c:Code} {I:σ→St} {E:ρ→St} {F:σ→Option ρ} {K:ρ→Option R} {r:R} {f:FuncId} {fn:Func} {as0:List AV} (s0:σ) (eff:ρ→List (Nat × AObj)) (S:ρ→St) (w:List Nat)
  (hi:callInfo ops i st=some (f,as0)) (hf:P.funcs[f]?=some fn) (hb:fn.body=some c) (hn:(fn.name == "runtime.NumGoroutine")=false) (hle:Nat.ble as0.length fn.ntmps=true)
  (h0:(⟨enumA 0 as0,st.objs.take N,fn.ntmps⟩:St)=I s0) (hN:Nat.ble N st.objs.length=true) (hbig:Nat.ble st.objs.length BIG=true) (hlive:(st.objs.take N).all liveO=true) (hA:∀y∈st.objs.take N,OkIn N y) (hE:∀x,Nat.beq (E x).objs.length N=true) (hA':∀x,∀y∈(E x).objs,OkIn N y)
  (hsl:(as0.all fun a=>a.ids.all fun o=>Nat.blt o N)=true)
  (heff:∀x,applyEff (st.objs.take N) (eff x)=some (E x).objs) (hw:∀x,(eff x).map (·.1)=w) (hwl:(w.all fun o=>Nat.blt o N)=true)
  (IH:RecOk P N c I E F) (h:(F s0).bind K=some r) (hS:∀x,recEnd P fn ops i st (eff x) (E x)=some (S x))
  (k:∀x,K x=some r→RW P rd base ops (dAdd d [(w,List.range N)]) (i+1) (S x) Φ):RW P rd base ops d i st Φ:=by
 have hNl:N≤st.objs.length:=Nat.le_of_ble_eq_true hN
 have hlA:(st.objs.take N).length=N:=by rw [List.length_take]; omega
 have hel:∀x,∀y∈eff x,y.1 < N:=fun x y hy=>by
  have:y.1∈(eff x).map (·.1):=List.mem_map_of_mem hy
  rw [hw x] at this
  exact of_blt (List.all_eq_true.1 hwl _ this)
 refine recD s0 (st.objs.take N) (st.objs.drop N) eff S hi hf hb hn hle (List.take_append_drop N st.objs).symm h0 hlA ?_ hlive hA (fun x=>Nat.eq_of_beq_eq_true (hE x)) hA' hsl (fun x k _=>puts_eff _ _ _ (heff x) (fun y hy=>by rw [hlA]; exact hel x y hy) k) hel w hw hbig IH h hS k
 have:=Nat.le_of_ble_eq_true hbig
 exact Nat.ble_eq_true_of_le (by omega)
theorem recHR {σ ρ R:Type} {N:Nat} {c:Code} {I:σ→St} {E:ρ→St} {F:(σ→Option ρ)→σ→Option ρ} {K:ρ→Option R} {r:R} {f:FuncId} {fn:Func} {as0:List AV} (s0:σ) (eff:ρ→List (Nat × AObj)) (S:ρ→St) (w:List Nat)
  (hi:callInfo ops i st=some (f,as0)) (hf:P.funcs[f]?=some fn) (hb:fn.body=some c) (hn:(fn.name == "runtime.NumGoroutine")=false) (hle:Nat.ble as0.length fn.ntmps=true)
  (h0:(⟨enumA 0 as0,st.objs.take N,fn.ntmps⟩:St)=I s0) (hN:Nat.ble N st.objs.length=true) (hbig:Nat.ble st.objs.length BIG=true) (hlive:(st.objs.take N).all liveO=true) (hA:∀y∈st.objs.take N,OkIn N y) (hE:∀x,Nat.beq (E x).objs.length N=true) (hA':∀x,∀y∈(E x).objs,OkIn N y)
  (hsl:(as0.all fun a=>a.ids.all fun o=>Nat.blt o N)=true)
  (heff:∀x,applyEff (st.objs.take N) (eff x)=some (E x).objs) (hw:∀x,(eff x).map (·.1)=w) (hwl:(w.all fun o=>Nat.blt o N)=true)
  (h:(recN F fuel s0).bind K=some r) (hS:∀x,recEnd P fn ops i st (eff x) (E x)=some (S x))
  (step:∀d,RecOk P N c I E d→∀s x,F d s=some x→WP P none N c (I s) (fun o=>o=.go .ret (E x)∨o=.go .normal (E x)))
  (k:∀x,K x=some r→RW P rd base ops (dAdd d [(w,List.range N)]) (i+1) (S x) Φ):RW P rd base ops d i st Φ :=
 recH s0 eff S w hi hf hb hn hle h0 hN hbig hlive hA hE hA' hsl heff hw hwl (rec_ok step fuel) h hS k
end
end Go.Ab
