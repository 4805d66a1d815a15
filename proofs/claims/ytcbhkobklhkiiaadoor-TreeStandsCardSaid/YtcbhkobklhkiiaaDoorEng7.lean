/- Rules on plain values. No conditions. -/
import Derived.Test.YtcbhkobklhkiiaaDoorEng6
import Derived.ChangeArms
import Derived.OpenShut
import Derived.WideKeyArgs
import Derived.Test.YtcbhkobklhkiiaaDoorEng5
import Derived.KernelRfl
set_option linter.all false
namespace Go.Ab
open Go.RowKit
inductive Sh where
 | int (k:IntKind)
 | bool
 | str
 | slice (fl ag:Bool) (w:Nat) (e:Sh)
 | cat (a b:Sh)
 | unit
def Sh.scal:Sh→Bool
 | .slice ..=>false
 | .cat a b=>a.scal && b.scal
 | _=>true
def Sh.width:Sh→Nat
 | .cat a b=>a.width+b.width
 | .unit=>0
 | _=>1
def WT:Sh→List AV→Prop
 | .int k,cs=>∃n,cs=[.int k n]∧(Lit.int k n).wf=true
 | .bool,cs=>∃b,cs=[.bool b]
 | .str,cs=>∃s,cs=[.str s]∧s.size≤maxLen
 | .slice fl ag w e,cs=>∃xs,cs=[.lst fl xs]∧xs.length≤maxLen∧∀x∈xs,WT e x.flat ∧ (if ag then x=.agg x.flat else x.cell=true)
 | .cat a b,cs=>∃x y,cs=x++y∧WT a x∧WT b y
 | .unit,cs=>cs=[]
def Qgv (P:Program) (t:TypeId):Bool:=match P.underlying t with | some (.struct _)=>true | some (.array _ _)=>true | _=>false
def Qux (s:Sh):Nat → Sh
 | 0=>.unit
 | n+1=>.cat s (Qux s n)
def Qik (P:Program) (rec:TypeId→Option Sh):List Field→Nat → Option Sh
 | [],_=>some .unit
 | f::r,o=>match rec f.type with
  | some s=>if Nat.beq f.offset o && Nat.beq s.width (P.cellsOf f.type) then (match Qik P rec r (o+s.width) with | some q=>some (.cat s q) | none=>none) else none
  | none=>none
def Qju (P:Program):Nat → TypeId→Option Sh
 | 0,_=>none
 | n+1,t=>match P.underlying t with
  | some .bool=>some .bool
  | some (.int k)=>some (.int k)
  | some .string=>some .str
  | some (.slice e)=>match Qju P n e with
   | some s=>if Nat.beq s.width (P.cellsOf e) && Nat.blt 0 (P.cellsOf e) && (Qgv P e || Nat.beq s.width 1) then some (.slice s.scal (Qgv P e) (P.cellsOf e) s) else none
   | none=>none
  | some (.struct fs)=>match Qik P (Qju P n) fs.toList 0 with
   | some s=>if Nat.beq s.width (P.cellsOf t) then some s else none
   | none=>none
  | some (.array m e)=>match Qju P n e with
   | some s=>if Nat.beq s.width (P.cellsOf e) && Nat.beq (m*s.width) (P.cellsOf t) then some (Qux s m) else none
   | none=>none
  | _=>none
theorem Qq8:∀{s:Sh} {cs:List AV},WT s cs→cs.length=s.width
 | .int k,cs,h=>by obtain ⟨n,rfl,_⟩:=h; rfl
 | .bool,cs,h=>by obtain ⟨n,rfl⟩:=h; rfl
 | .str,cs,h=>by obtain ⟨n,rfl,_⟩:=h; rfl
 | .slice _ _ _ _,cs,h=>by obtain ⟨n,rfl,_⟩:=h; rfl
 | .cat a b,cs,h=>by obtain ⟨x,y,rfl,h1,h2⟩:=h; simp [Sh.width,Qq8 h1,Qq8 h2]
 | .unit,cs,h=>by cases h; rfl
theorem Qn4:∀{s:Sh} {cs:List AV},WT s cs→s.scal=true→cs.all AV.sc=true
 | .int k,cs,h,_=>by obtain ⟨n,rfl,_⟩:=h; rfl
 | .bool,cs,h,_=>by obtain ⟨n,rfl⟩:=h; rfl
 | .str,cs,h,_=>by obtain ⟨n,rfl,_⟩:=h; rfl
 | .slice _ _ _ _,cs,h,hs=>by cases hs
 | .cat a b,cs,h,hs=>by
  obtain ⟨x,y,rfl,h1,h2⟩:=h
  simp only [Sh.scal,Bool.and_eq_true] at hs
  rw [List.all_append,Qn4 h1 hs.1,Qn4 h2 hs.2]; rfl
 | .unit,cs,h,_=>by cases h; rfl
def Qae (M:CM) (cs:List Value) (avs:List AV):Prop:=avs.length=cs.length∧∀(j:Nat) (v:Value) (y:AV),cs[j]?=some v→avs[j]?=some y→Qa M noInj v y∧y.cell=true
theorem Km {M:CM} {v:Value} {y:AV} (h:Qa M noInj v y) (hc:y.cell=true):Qae M [v] [y]:=by
 refine ⟨rfl,fun j v' y' h1 h2=>?_⟩
 cases j with
 | zero=>cases h1; cases h2; exact ⟨h,hc⟩
 | succ j=>simp at h1
theorem Qg4 {M:CM} {a b:List Value} {x y:List AV} (h1:Qae M a x) (h2:Qae M b y):Qae M (a++b) (x++y):=by
 refine ⟨by simp [h1.1,h2.1],fun j v z hv hz=>?_⟩
 rcases Nat.lt_or_ge j a.length with hj | hj
 ·rw [List.getElem?_append_left hj] at hv
  rw [List.getElem?_append_left (by rw [h1.1]; exact hj)] at hz
  exact h1.2 j v z hv hz
 ·rw [List.getElem?_append_right hj] at hv
  rw [List.getElem?_append_right (by rw [h1.1]; exact hj),h1.1] at hz
  exact h2.2 _ v z hv hz
theorem Qs7 {α:Type} {n:Nat} {Q:Nat → α→Prop} (h:∀i,i < n→∃x,Q i x):∃xs:List α,xs.length=n∧∀i x,xs[i]?=some x→Q i x:=by
 induction n with
 | zero=>exact ⟨[],rfl,fun i x hx=>by simp at hx⟩
 | succ n ih =>
  obtain ⟨xs,h1,h2⟩:=ih fun i hi=>h i (by omega)
  obtain ⟨x,hx⟩:=h n (by omega)
  refine ⟨xs++[x],by simp [h1],fun i y hy=>?_⟩
  rcases Nat.lt_or_ge i xs.length with hi | hi
  ·rw [List.getElem?_append_left hi] at hy; exact h2 i y hy
  ·rw [List.getElem?_append_right hi] at hy
   cases hk:i - xs.length with
   | zero =>
    rw [hk] at hy
    cases hy
    rw [show i=n by omega]; exact hx
   | succ k=>rw [hk] at hy; simp at hy
def Qb5 (w:World) (hg:GlobIn w):CM:=⟨fun b o=>w.cell? ⟨b,o,none⟩,hg,fun _=>none,fun _ _=>none⟩
theorem Qzd {w:World} {hg:GlobIn w} {b o:Nat}:Qb5 w hg b o=w.cell? ⟨b,o,none⟩:=rfl
theorem Qpi {α β:Type} {f:α→Option β}:∀{l:List α} {r:List β},l.mapM f=some r→r.length=l.length∧∀(i:Nat) (a:α),l[i]?=some a→f a=r[i]?
 | [],r,h=>by simp at h; subst h; simp
 | a::l,r,h=>by
  simp only [List.mapM_cons,Option.pure_def,Option.bind_eq_bind,Option.bind_eq_some_iff] at h
  obtain ⟨b,hb,bs,hbs,h⟩:=h
  cases h
  obtain ⟨h1,h2⟩:=Qpi hbs
  refine ⟨by simp [h1],fun i x hx=>?_⟩
  cases i with
  | zero=>cases hx; simpa using hb
  | succ i=>simpa using h2 i x (by simpa using hx)
theorem Qq5 {w:World} {base:Nat} {a:Addr} {n:Nat} {row:List Value} (h:w.cells? base a n=some row):row.length=n∧∀i,i < n→w.cell? (a.add i)=row[i]?:=by
 unfold World.cells? at h
 split at h
 ·obtain ⟨h1,h2⟩:=Qpi h
  refine ⟨by simpa using h1,fun i hi=>h2 i i (by simp [hi])⟩
 ·cases h
theorem Qwb {w:World} {a:Addr} {v:Value} (h:w.cell? a=some v):a.spot=none:=by
 unfold World.cell? at h
 cases hs:a.spot with
 | none=>rfl
 | some s =>
  simp only [hs] at h
  split at h <;> simp at h
theorem Qko (a:Addr):a.add 0=a:=by simp [Addr.add]
theorem Qqh (b off k:Nat):(⟨b,off,none⟩:Addr).add k=⟨b,off+k,none⟩:=by
 unfold Addr.add
 split
 ·rename_i h; subst h; rfl
 ·rfl
section
variable {H:Type} {enc:TypeId × Value→H} {P:Program} {w:World} {base:Nat} {hg:GlobIn w}
theorem Qmk {cs:List Value} {m:Nat} {rec:TypeId→Option Sh} (ih:∀(t:TypeId) (s:Sh),rec t=some s→∀(cs:List Value) (x:DataW H × List MemPlace),DataW.trod enc P w base (fun _=>true) true m t cs=some x→∃avs,Qae (Qb5 w hg) cs avs∧WT s avs) :
  ∀(l:List Field) (o:Nat) (s:Sh),Qik P rec l o=some s→(∀f∈l,∃x,DataW.trod enc P w base (fun _=>true) true m f.type ((cs.drop f.offset).take (P.cellsOf f.type))=some x)→∃avs,Qae (Qb5 w hg) ((cs.drop o).take s.width) avs∧WT s avs
 | [],o,s,h,_=>by
  cases h
  exact ⟨[],⟨by simp [Sh.width],fun j v y h1 h2=>by simp at h2⟩,rfl⟩
 | f::l,o,s,h,hf=>by
  unfold Qik at h
  split at h
  ·rename_i s1 hs1
   split at h
   ·rename_i hc
    split at h
    ·rename_i q hq
     cases h
     simp only [Bool.and_eq_true] at hc
     have h1:=Nat.eq_of_beq_eq_true hc.1
     have h2:=Nat.eq_of_beq_eq_true hc.2
     obtain ⟨x,hx⟩:=hf f (by simp)
     rw [h1,←h2] at hx
     obtain ⟨a1,c1,w1⟩:=ih _ _ hs1 _ _ hx
     obtain ⟨a2,c2,w2⟩:=Qmk ih l (o+s1.width) q hq (fun g hg=>hf g (by simp [hg]))
     refine ⟨a1++a2,?_,a1,a2,rfl,w1,w2⟩
     have e:(cs.drop o).take (s1.width+q.width)=(cs.drop o).take s1.width++(cs.drop (o+s1.width)).take q.width:=by
      rw [List.take_add,List.drop_drop]
     simp only [Sh.width]
     rw [e]
     exact Qg4 c1 c2
    ·cases h
   ·cases h
  ·cases h
theorem Qt4 {cs:List Value} {M:CM} {s:Sh} {n:Nat} (h:∀i,i < n→∃avs,Qae M ((cs.drop (i*s.width)).take s.width) avs∧WT s avs):∀(k o:Nat),o+k=n→∃avs,Qae M ((cs.drop (o*s.width)).take (k*s.width)) avs∧WT (Qux s k) avs
 | 0,o,_=>⟨[],⟨by simp,fun j v y h1 h2=>by simp at h2⟩,rfl⟩
 | k+1,o,hk=>by
  obtain ⟨a1,c1,w1⟩:=h o (by omega)
  obtain ⟨a2,c2,w2⟩:=Qt4 h k (o+1) (by omega)
  refine ⟨a1++a2,?_,a1,a2,rfl,w1,w2⟩
  have e:(cs.drop (o*s.width)).take ((k+1)*s.width)=(cs.drop (o*s.width)).take s.width++(cs.drop ((o+1)*s.width)).take (k*s.width):=by
   rw [Nat.succ_mul k,Nat.add_comm,List.take_add,List.drop_drop,Nat.succ_mul o]
  rw [e]
  exact Qg4 c1 c2
theorem Qrb (cs:List AV):(AV.agg cs).flat = cs:=rfl
theorem Qir:∀(n:Nat) (t:TypeId) (s:Sh),Qju P n t=some s→∀(m:Nat) (cs:List Value) (x:DataW H × List MemPlace),DataW.trod enc P w base (fun _=>true) true m t cs=some x→∃avs,Qae (Qb5 w hg) cs avs∧WT s avs
 | 0,t,s,h=>by simp [Qju] at h
 | n+1,t,s,h=>by
  intro m cs x hx
  unfold Qju at h
  split at h
  ·rename_i ht
   cases h
   obtain ⟨b,rfl,_⟩:=DataW.trod_bool ht hx
   exact ⟨[.bool b],Km (.bool b) rfl,b,rfl⟩
  ·rename_i k ht
   cases h
   obtain ⟨z,rfl,_,hw⟩:=DataW.trod_int ht hx
   exact ⟨[.int k z],Km (.int k z) rfl,z,rfl,hw⟩
  ·rename_i ht
   cases h
   obtain ⟨z,rfl,_,hw⟩:=DataW.trod_string ht hx
   exact ⟨[.str z],Km (.str z) rfl,z,rfl,hw⟩
  ·rename_i e ht
   split at h
   ·rename_i s1 hs1
    split at h
    ·rename_i hc
     cases h
     simp only [Bool.and_eq_true,Bool.or_eq_true] at hc
     obtain ⟨⟨hw,hpos⟩,hag⟩:=hc
     have hw:=Nat.eq_of_beq_eq_true hw
     have hpos:0 < P.cellsOf e:=by simpa using hpos
     rcases DataW.trod_slice ht hx with ⟨rfl,_⟩ | ⟨a,len,cap,elems,rest,n',_,rfl,_,hb,hl,hm,hlen,hel,hsp,_⟩
     ·exact ⟨[.lst s1.scal []],Km (.lst0 none _) rfl,[],rfl,by simp,fun x hx=>by cases hx⟩
     ·have hsp:=hsp rfl
      have hspot:0 < cap→a.spot=none:=fun hcap=>by
       have key:∃row,w.cells? base a (P.cellsOf e)=some row:=by
        rcases Nat.eq_zero_or_pos len with h0 | h0
        ·have:=hsp.2 0 (by omega)
         rw [List.getElem?_eq_getElem (by omega)] at this
         obtain ⟨row,h1,_⟩:=Option.bind_eq_some_iff.1 this
         rw [h0,Nat.add_zero,Nat.zero_mul,Qko] at h1
         exact ⟨row,h1⟩
        ·have:=hel 0 h0
         rw [List.getElem?_eq_getElem (by omega)] at this
         obtain ⟨row,h1,_⟩:=Option.bind_eq_some_iff.1 this
         rw [Nat.zero_mul,Qko] at h1
         exact ⟨row,h1⟩
       obtain ⟨row,hk⟩:=key
       obtain ⟨h1,h2⟩:=Qq5 hk
       have h3:=h2 0 hpos
       rw [List.getElem?_eq_getElem (by omega),Qko] at h3
       exact Qwb h3
      rcases Nat.eq_zero_or_pos cap with h0 | h0
      ·have hl0:len=0:=by omega
       subst h0; subst hl0
       exact ⟨[.lst s1.scal []],Km (.lst0 _ _) rfl,[],rfl,by simp,fun x hx=>by cases hx⟩
      ·have hspot:=hspot h0
       obtain ⟨blk,off,spot⟩:=a
       simp only at hspot
       subst hspot
       have each:∀i,i < len→∃z:AV,z.shaped (P.cellsOf e)∧WT s1 z.flat ∧ (if Qgv P e then z=.agg z.flat else z.cell=true)∧∀(j:Nat) (y:AV),z.flat[j]?=some y→∃v,w.cell? ⟨blk,off+i*P.cellsOf e+j,none⟩=some v∧Qa (Qb5 w hg) noInj v y:=by
        intro i hi
        have h1:=hel i hi
        rw [List.getElem?_eq_getElem (by omega)] at h1
        obtain ⟨row,h2,h3⟩:=Option.bind_eq_some_iff.1 h1
        obtain ⟨avs,c1,w1⟩:=Qir n e s1 hs1 _ _ _ h3
        obtain ⟨g1,g2⟩:=Qq5 h2
        have hlen':=Qq8 w1
        have cellv:∀(j:Nat) (y:AV),avs[j]?=some y→∃v,w.cell? ⟨blk,off+i*P.cellsOf e+j,none⟩=some v∧Qa (Qb5 w hg) noInj v y∧y.cell=true:=fun j y hy=>by
         have hj:=(List.getElem?_eq_some_iff.1 hy).1
         have h5:=g2 j (by omega)
         have h6:row[j]?=some row[j]:=List.getElem?_eq_getElem (by rw [←c1.1]; exact hj)
         rw [h6] at h5
         refine ⟨_,?_,c1.2 j _ y h6 hy⟩
         rw [Qqh,Qqh] at h5
         exact h5
        by_cases ha:Qgv P e=true
        ·refine ⟨.agg avs,⟨.inl rfl,by rw [Qrb]; omega,fun y hy=>?_⟩,w1,by rw [if_pos ha]; rfl,fun j y hy=>?_⟩
         ·rw [Qrb] at hy
          obtain ⟨j,hj⟩:=List.mem_iff_getElem?.1 hy
          obtain ⟨_,_,_,h⟩:=cellv j y hj
          exact h
         ·obtain ⟨v,h1,h2,_⟩:=cellv j y hy
          exact ⟨v,h1,h2⟩
        ·have h1:s1.width=1:=by
          rcases hag with h | h
          ·exact absurd h ha
          ·exact Nat.eq_of_beq_eq_true h
         obtain ⟨z,rfl⟩:∃z,avs=[z]:=by
          match avs,hlen' with
          | [z],_=>exact ⟨z,rfl⟩
          | [],h=>simp [h1] at h
          | _::_::_,h=>simp [h1] at h
         obtain ⟨v,hv,hr,hcell⟩:=cellv 0 z rfl
         have hflat : z.flat = [z]:=by cases z <;> simp_all [AV.flat,AV.cell]
         refine ⟨z,⟨.inr hcell,by rw [hflat]; simp; omega,fun y hy=>by rw [hflat] at hy; simp at hy; rw [hy]; exact hcell⟩,by rw [hflat]; exact w1,by rw [if_neg ha]; exact hcell,fun j y hy=>?_⟩
         rw [hflat] at hy
         cases j with
         | zero=>cases hy; exact ⟨v,by simpa using hv,hr⟩
         | succ j=>simp at hy
       obtain ⟨xs,hxl,hxs⟩:=Qs7 each
       refine ⟨[.lst s1.scal xs],Km ?_ rfl,xs,rfl,by omega,fun z hz=>?_⟩
       ·have:=Qa.lst (M:=Qb5 w hg) (ι:=noInj) blk off cap (P.cellsOf e) s1.scal xs (fun i j=>(w.cell? ⟨blk,off+i*P.cellsOf e+j,none⟩).getD default) (by omega)
         (fun hfl z hz=>by
          obtain ⟨i,hi⟩:=List.mem_iff_getElem?.1 hz
          exact Qn4 (hxs i z hi).2.1 hfl)
         (fun z hz=>by
          obtain ⟨i,hi⟩:=List.mem_iff_getElem?.1 hz
          exact (hxs i z hi).1)
         (fun i j z y hz hy=>by
          obtain ⟨v,h1,h2⟩:=(hxs i z hz).2.2.2 j y hy
          simp only [Qzd]
          rw [h1]; rfl)
         (fun i j z y hz hy=>by
          obtain ⟨v,h1,h2⟩:=(hxs i z hz).2.2.2 j y hy
          rw [h1]; exact h2)
        rwa [hxl] at this
       ·obtain ⟨i,hi⟩:=List.mem_iff_getElem?.1 hz
        exact ⟨(hxs i z hi).2.1,(hxs i z hi).2.2.1⟩
    ·cases h
   ·cases h
  ·rename_i fs ht
   split at h
   ·rename_i s1 hs1
    split at h
    ·rename_i hw
     cases h
     have hw:=Nat.eq_of_beq_eq_true hw
     obtain ⟨xs,n',_,_,hl,hxs,hf⟩:=DataW.trod_struct ht hx
     obtain ⟨avs,c1,w1⟩:=Qmk (cs:=cs) (m:=n') (rec:=Qju P n) (fun t s hs cs x hx=>Qir n t s hs _ _ _ hx) fs.toList 0 s hs1 (fun f hf'=>by
      obtain ⟨i,hi⟩:=List.mem_iff_getElem?.1 hf'
      have h1:=hf i f (by simpa using hi)
      have hi':=(List.getElem?_eq_some_iff.1 hi).1
      rw [List.getElem?_eq_getElem (by rw [hxs]; simpa using hi')] at h1
      exact ⟨_,h1⟩)
     refine ⟨avs,?_,w1⟩
     rw [List.drop_zero,List.take_of_length_le (by omega)] at c1
     exact c1
    ·cases h
   ·cases h
  ·rename_i m0 e ht
   split at h
   ·rename_i s1 hs1
    split at h
    ·rename_i hw
     cases h
     simp only [Bool.and_eq_true] at hw
     have h1:=Nat.eq_of_beq_eq_true hw.1
     have h2:=Nat.eq_of_beq_eq_true hw.2
     obtain ⟨xs,n',_,_,hl,hxs,hf⟩:=DataW.trod_array ht hx
     obtain ⟨avs,c1,w1⟩:=Qt4 (cs:=cs) (M:=Qb5 w hg) (s:=s1) (n:=m0) (fun i hi=>by
      have h3:=hf i hi
      rw [List.getElem?_eq_getElem (by omega),←h1] at h3
      exact Qir n e s1 hs1 _ _ _ h3) m0 0 (by omega)
     refine ⟨avs,?_,w1⟩
     rw [Nat.zero_mul,List.drop_zero,List.take_of_length_le (by omega)] at c1
     exact c1
    ·cases h
   ·cases h
  ·cases h
theorem arg_struct {t:TypeId} {s:Sh} {v:Value} {d:DataW H} {ps:List MemPlace} {b0:Nat} (n:Nat) (hs:Qju P n t=some s) (ha:Qgv P t=true) (hok:Value.okWide P w .any b0 t v)
  (h:DataW.Trod enc P w base (fun _=>true) true t v d ps):∃avs,Qa (Qb5 w hg) noInj v (.agg avs)∧WT s avs:=by
 obtain ⟨m,hm⟩:=h
 obtain ⟨avs,c1,w1⟩:=Qir n t s hs m _ _ hm
 have hv:∃cs,v=.agg cs:=by
  unfold Qgv at ha
  unfold Value.okWide at hok
  split at ha
  ·rename_i fs hfs
   rw [hfs] at hok
   obtain ⟨cs,h1,_⟩:=hok
   exact ⟨cs,h1⟩
  ·rename_i m0 e hfs
   rw [hfs] at hok
   obtain ⟨cs,h1,_⟩:=hok
   exact ⟨cs,h1⟩
  ·cases ha
 obtain ⟨cs,rfl⟩:=hv
 refine ⟨avs,.agg cs avs (by simpa [Value.cells] using c1.1.symm) (fun y hy=>?_) (fun j u y hu hy=>?_),w1⟩
 ·obtain ⟨j,hj⟩:=List.mem_iff_getElem?.1 hy
  have hj':=(List.getElem?_eq_some_iff.1 hj).1
  rw [c1.1] at hj'
  exact (c1.2 j _ y (List.getElem?_eq_getElem hj') hj).2
 ·exact (c1.2 j u y (by simpa [Value.cells] using hu) hy).1
end
theorem sameAt_of {W W':World} (h:∀b,b < W.heap.size→W'.heap[b]?=W.heap[b]?) {p:MemPlace} (hp:p.block < W.heap.size):W.sameAt W' p:=by
 cases p with
 | cell b off =>
  show W'.cell? ⟨b,off,none⟩=W.cell? ⟨b,off,none⟩
  unfold World.cell?
  rw [h b hp]
 | map b=>exact h b hp
theorem calls_args {P:Program} {f:FuncId} {args:List AV} {b:Bool} (h:Qy P f args (.ret (.bool b) [])) {W:World} {hg:GlobIn W} {vs:Array Value} (hl:vs.size=args.length)
  (hr:∀(j:Nat) (v:Value) (a:AV),vs[j]?=some v→args[j]?=some a→Qa (Qb5 W hg) noInj v a):Calls P f vs W fun e W'=>e=.returned (.bool b)∧Below W.heap.size W W'∧∀b,b < W.heap.size→W'.heap[b]?=W.heap[b]?:=by
 refine (h W (Qb5 W hg) vs ⟨fun _ _ _ h=>h,fun b x h=>(by cases h),fun b o v h=>(by cases h)⟩ hl hr).mono fun e W' he=>?_
 obtain ⟨v,M',ι',he,_,hrel,_,hv⟩:=he
 cases hv
 exact ⟨he,hrel.below.toBelow,fun b hb=>hrel.below.block b hb⟩
theorem Qwv {x:AV} (h:x.cell=true):x.flat = [x]:=by cases x <;> simp_all [AV.flat,AV.cell]
theorem Qrg {α:Type} {enc:α→AV} {R:α→Prop} {xs:List AV} (h:∀x∈xs,∃a,x=enc a∧R a):∃l:List α,xs=l.map enc∧∀a∈l,R a:=by
 induction xs with
 | nil=>exact ⟨[],rfl,fun n hn=>by cases hn⟩
 | cons x xs ih =>
  obtain ⟨l,rfl,hl⟩:=ih fun y hy=>h y (by simp [hy])
  obtain ⟨a,rfl,ha⟩:=h x (by simp)
  refine ⟨a::l,rfl,fun m hm=>?_⟩
  rcases List.mem_cons.1 hm with rfl | hm
  ·exact ha
  ·exact hl m hm
end Go.Ab
namespace Go.Ab
section
variable {P:Program} {rd:Option Nat} {base:Nat} {ops:Array Oper} {st S:St} {Φ:AOut→Prop} {d:Option (List Sk)} {i:Nat} {c y:Code}
theorem sgz (k j:Nat) {S:St} (hk:RW P rd base ops none j S Φ) (h:Qcg P false ops k i st=some S:=by kernel_rfl) (hj:i+k=j:=by rfl):RW P rd base ops none i st Φ:=sg false k j h hj hk
theorem rgN {id:Nat} {S:St} (hk:Φ (.go .normal S)) (h:Qcg P false ops ops.size 0 st=some S:=by kernel_rfl):WP P rd base (.region id ops false) st Φ :=
 Jz (sg false ops.size ops.size h (Nat.zero_add _) (V2 rfl hk))
theorem sqN {id:Nat} {S:St} (hk:WP P rd base y S Φ) (h:Qcg P false ops ops.size 0 st=some S:=by kernel_rfl):WP P rd base (.seq (.region id ops false) y) st Φ :=
 Xg (rgN hk h)
theorem wgc (live keep:List Nat) (S:St) (hk:WP P rd base c S Φ) (h:Qbp base live keep st=some S:=by kernel_rfl):WP P rd base c st Φ:=Q0k (wk_gc h) hk
theorem rga {id:Nat} (hm:P.follows .mixedOrders=true) (h:RW P rd base ops (some []) 0 st Φ) (hB:Quo ops=true:=by kernel_rfl):WP P rd base (.region id ops true) st Φ:=Q1u (by simp [hm]) (Q1s hB) h
def gt (o:Option St) (d:St):St:=match o with | some S=>S | none=>d
noncomputable def nx (P:Program) (ops:Array Oper) (k i:Nat) (st:St):St:=gt (Qcg P false ops k i st) st
noncomputable def gx (base:Nat) (live keep:List Nat) (st:St):St:=gt (Qbp base live keep st) st
noncomputable def lx (P:Program) (ops:Array Oper) (i:Nat) (st:St) (hv he:List LK) (b:Bool):St:=gt (Qwa P false ops i st hv he b) st
theorem Qg5 {o:Option St} {d:St} (h:o.isSome=true):o=some (gt o d):=by
 cases o with
 | none=>cases h
 | some S=>rfl
theorem sz (k j:Nat) (hk:RW P rd base ops none j (nx P ops k i st) Φ) (h:(Qcg P false ops k i st).isSome=true:=by kernel_rfl) (hj:i+k=j:=by rfl):RW P rd base ops none i st Φ:=sg false k j (Qg5 h) hj hk
theorem sy (k j:Nat) (hk:RW P rd base ops (Qz d (Qqc P false ops k i st)) j (nx P ops k i st) Φ) (h:(Qcg P false ops k i st).isSome=true:=by kernel_rfl) (hj:i+k=j:=by rfl):RW P rd base ops d i st Φ:=sg false k j (Qg5 h) hj hk
theorem rn {id:Nat} (hk:Φ (.go .normal (nx P ops ops.size 0 st))) (h:(Qcg P false ops ops.size 0 st).isSome=true:=by kernel_rfl):WP P rd base (.region id ops false) st Φ:=rgN hk (Qg5 h)
theorem sq {id:Nat} (hk:WP P rd base y (nx P ops ops.size 0 st) Φ) (h:(Qcg P false ops ops.size 0 st).isSome=true:=by kernel_rfl):WP P rd base (.seq (.region id ops false) y) st Φ:=sqN hk (Qg5 h)
theorem wg (live keep:List Nat) (hk:WP P rd base c (gx base live keep st) Φ) (h:(Qbp base live keep st).isSome=true:=by kernel_rfl):WP P rd base c st Φ:=wgc live keep _ hk (Qg5 h)
theorem sl (nf:Bool) (hv he:List LK) (b:Bool) (hn:nf=false) (hk:RW P rd base ops (Qz d [Qru P nf ops i st]) (i+1) (lx P ops i st hv he b) Φ) (h:(Qwa P false ops i st hv he b).isSome=true:=by kernel_rfl):RW P rd base ops d i st Φ:=by
 subst hn; exact sgL false hv he b (Qg5 h) hk
theorem wwh {σ ρ R:Type} {n:Nat} {body:σ→Option (Ql σ ρ)} {K:ρ→Option R} {r:R} {s0:σ} (h:(Qb n body s0).bind K=some r) (I:σ→St) (Ex:ρ→AOut→Prop) (hw:Wk P base st (I s0))
  (round:∀s o,body s=some o→WP P rd base c (I s) (Qe3 P base I Ex o)) (k:∀x,K x=some r→∀out,Ex x out→Φ out):WP P rd base (.loop c) st Φ:=Qsm s0 hw h round k
theorem wcT {x:Code} {op:Operand} (h:WP P rd base x st Φ) (he:evo (lk st.slots) op=some (.bool true):=by kernel_rfl):WP P rd base (.cond op x y) st Φ:=Qqt he h
theorem wcF {x:Code} {op:Operand} (h:WP P rd base y st Φ) (he:evo (lk st.slots) op=some (.bool false):=by kernel_rfl):WP P rd base (.cond op x y) st Φ:=Qq2 he h
theorem rgd {acc:List Sk} (h:Φ (.go .normal st)) (hi:i=ops.size:=by rfl) (hc:Qel ops.toList acc=true:=by kernel_rfl):RW P rd base ops (some acc) i st Φ:=Qsl hi hc h
theorem kr {α:Sort _} {a b:α} (h:a=b:=by kernel_rfl):a=b:=h
def gt0 (o:Option St):St:=match o with | some S=>S | none=>⟨[],[],0⟩
theorem gE {o:Option St} (h:o.isSome=true:=by kernel_rfl):o=some (gt0 o):=by
 cases o with
 | none=>cases h
 | some S=>rfl
theorem gF {α:Type} {o:α→Option St} (h:∀x,(o x).isSome=true:=by (intro _; kernel_rfl)):∀x,o x=some (gt0 (o x)):=fun x=>gE (h x)
def Q0g (b:Bool):List Nat → List (Nat × AV)→List (Nat × AV)
 | [],s=>s
 | t::ts,s=>Q0g b ts (setS s t (.bool b))
def pB (ts:List Nat) (b:Bool) (st:St):St:=⟨Q0g b ts st.slots,st.objs,st.nt⟩
def setLen (n:Nat):AV→AV
 | .ref o i _=>.ref o i n
 | .lin o i _=>.lin o i n
 | x=>x
def Q0j (n:Nat):List Nat → List (Nat × AV)→List (Nat × AV)
 | [],s=>s
 | t::ts,s=>Q0j n ts (match lk s t with | some x=>setS s t (setLen n x) | none=>s)
def pL (ts:List Nat) (n:Nat) (st:St):St:=⟨Q0j n ts st.slots,st.objs,st.nt⟩
theorem wb (ts:List Nat) {R:Type} {b:Bool} {A B:Option R} {r:R} (h:(if b=true then A else B)=some r) (h1:b=true→A=some r→WP P rd base c (pB ts true st) Φ) (h2:b=false→B=some r→WP P rd base c (pB ts false st) Φ) (hS:st=pB ts b st:=by kernel_rfl):WP P rd base c st Φ:=by
 rw [hS]; exact Q3u (S:=fun b=>pB ts b st) h h1 h2
theorem rb (ts:List Nat) {R:Type} {b:Bool} {A B:Option R} {r:R} (h:(if b=true then A else B)=some r) (h1:b=true→A=some r→RW P rd base ops d i (pB ts true st) Φ) (h2:b=false→B=some r→RW P rd base ops d i (pB ts false st) Φ) (hS:st=pB ts b st:=by kernel_rfl):RW P rd base ops d i st Φ:=by
 rw [hS]; exact Q3p (S:=fun b=>pB ts b st) h h1 h2
theorem rk (ts:List Nat) {b c':Bool} (hb:b=c') (h:RW P rd base ops d i (pB ts c' st) Φ) (hS:st=pB ts b st:=by kernel_rfl):RW P rd base ops d i st Φ:=by rw [hS,hb]; exact h
theorem Quh {α R:Type} {G:Option α} {K:α→Option R} {f:FuncId} {us:List AV} {rv:α→AV} {ro:α→List AObj} {r:R} (hb:Qdc P f=true)
  (hc:∀x,G=some x→Qy P f us (.ret (rv x) (ro x))) (h:G.bind K=some r)
  (k:∀x,G=some x→K x=some r→RW P rd base ops (Qz d [Qfj st [] (rv x) (ro x)]) (i+1) (gt0 (Kv ops i st [] (rv x) (ro x))) Φ)
  (hi:Zh ops i st=some (f,us):=by kernel_rfl) (hsn:Qp (Qn st.sto Qm) us=some (us,[]):=by kernel_rfl)
  (hS:∀x,(Kv ops i st [] (rv x) (ro x)).isSome=true:=by (intro _; kernel_rfl)):RW P rd base ops d i st Φ :=
 Qp8 hi hb hsn hc (gF hS) h k
theorem Qvm {n m:Nat} {S:Nat → St} (hb:n=m) (h:RW P rd base ops d i (S m) Φ) (hS:st=S n:=by kernel_rfl):RW P rd base ops d i st Φ:=by rw [hS]; exact Q1y hb h
end
abbrev z1:List Int→AV:=eL true eI
abbrev z2:List (List Int)→AV:=eL false z1
abbrev zw:Int→Int:=IntKind.i64.wrap
abbrev zv:Int→Int:=IntKind.u64.wrap
abbrev zb:Int → BitVec (IntKind.bits .u64):=BitVec.ofInt (IntKind.bits .u64)
abbrev zt:Int→Nat := Int.toNat
abbrev zn {α:Type} (l:List α):Int:=(l.length:Int)
end Go.Ab
namespace Go.Ab
def Qkc {σ ρ:Type} (F:(σ→Option ρ)→σ→Option ρ):Nat → σ→Option ρ
 | 0,_=>none
 | n+1,s=>F (Qkc F n) s
def Qac (P:Program) (N:Nat) (c:Code) {σ ρ:Type} (I:σ→St) (E:ρ→St) (d:σ→Option ρ):Prop :=
 ∀s x,d s=some x→WP P none N c (I s) (fun o=>o=.go .ret (E x)∨o=.go .normal (E x))
theorem Qsn {P:Program} {N:Nat} {c:Code} {σ ρ:Type} {I:σ→St} {E:ρ→St} {F:(σ→Option ρ)→σ→Option ρ}
  (step:∀d,Qac P N c I E d→∀s x,F d s=some x→WP P none N c (I s) (fun o=>o=.go .ret (E x)∨o=.go .normal (E x))):∀n,Qac P N c I E (Qkc F n)
 | 0=>fun s x h=>by cases h
 | n+1=>fun s x h=>step _ (Qsn step n) s x h
section
variable {P:Program} {rd:Option Nat} {base:Nat} {ops:Array Oper} {st:St} {Φ:AOut→Prop} {i:Nat}
theorem Q4a {σ ρ R:Type} {N:Nat} {c:Code} {I:σ→St} {E:ρ→St} {d:σ→Option ρ} {K:ρ→Option R} {r:R} {f:FuncId} {fn:Func} {as0:List AV} (s0:σ)
  (hi:Zh ops i st=some (f,as0)) (hf:P.funcs[f]?=some fn) (hb:fn.body=some c) (hn:(fn.name == "runtime.NumGoroutine")=false) (hle:Nat.ble as0.length fn.ntmps=true)
  (h0:(⟨X6 0 as0,st.objs,fn.ntmps⟩:St)=I s0) (hN:st.objs.length=N) (IH:Qac P N c I E d) (h:(d s0).bind K=some r)
  (k:∀x,K x=some r→∃S,Qgu P fn ops i st (.go .ret (E x))=some S∧RW P rd base ops none (i+1) S Φ):RW P rd base ops none i st Φ:=by
 cases hx:d s0 with
 | none=>rw [hx] at h; cases h
 | some x =>
  rw [hx] at h
  refine Qvj hi hf hb hn hle ?_
  rw [h0,hN]
  obtain ⟨out,h1,h2⟩:=IH s0 x hx
  refine ⟨out,h1,?_⟩
  rcases h2 with rfl | rfl
  ·exact k x h
  ·obtain ⟨S,k1,k2⟩:=k x h
   exact ⟨S,by rw [←k1]; rfl,k2⟩
end
section
variable {P:Program} {rd:Option Nat} {base:Nat} {ops:Array Oper} {st:St} {Φ:AOut→Prop} {i:Nat}
theorem Q3v {σ ρ R:Type} {N:Nat} {c:Code} {I:σ→St} {E:ρ→St} {F:(σ→Option ρ)→σ→Option ρ} {K:ρ→Option R} {r:R} {f:FuncId} {fn:Func} {as0:List AV} (s0:σ)
  (hi:Zh ops i st=some (f,as0)) (hf:P.funcs[f]?=some fn) (hb:fn.body=some c) (hn:(fn.name == "runtime.NumGoroutine")=false) (hle:Nat.ble as0.length fn.ntmps=true)
  (h0:(⟨X6 0 as0,st.objs,fn.ntmps⟩:St)=I s0) (hN:st.objs.length=N) (h:(Qkc F fuel s0).bind K=some r)
  (step:∀d,Qac P N c I E d→∀s x,F d s=some x→WP P none N c (I s) (fun o=>o=.go .ret (E x)∨o=.go .normal (E x)))
  (k:∀x,K x=some r→∃S,Qgu P fn ops i st (.go .ret (E x))=some S∧RW P rd base ops none (i+1) S Φ):RW P rd base ops none i st Φ :=
 Q4a s0 hi hf hb hn hle h0 hN (Qsn step fuel) h k
end
end Go.Ab
namespace Go.Ab
open Go.RowKit
section
variable {P:Program} {ops:Array Oper} {G:Array Bool→Nat → Foot} {Q:Slots→Sto→Prop} {s:Slots} {σ:Sto}
end
section
variable {P:Program} {ops:Array Oper} {G:Array Bool→Nat → Foot} {s s':Slots} {σ:Sto} {B:Nat} {W0 W:World} {D:List Nat} {M:CM} {ι:Inj} {a:Act} {Q:Exit→Act→World→Prop} {QA:Slots→Sto→Prop}
end
section
variable {P:Program} {rd:Option Nat} {base:Nat} {ops ops0:Array Oper} {st st1 st2 st3:St}
theorem K0.symm {F G:Foot} (h:K0 F G):K0 G F:=⟨h.b,h.a,fun e he e' he'=>Ne.symm (h.c e' he' e he)⟩
end
section
variable {P:Program} {rd:Option Nat} {base:Nat} {ops:Array Oper} {st st1 Sa Sb S3 S:St} {Φ:AOut→Prop} {i:Nat}
end
end Go.Ab
namespace Go.Ab
open Go.RowKit
def Q0r {α β:Type} (l:List α) (r:Option β) (f:α→List α→Option β):Option β:=match l with
 | []=>r
 | a::t=>f a t
section
variable {P:Program} {rd:Option Nat} {base:Nat} {ops:Array Oper} {Φ:AOut→Prop} {c:Code}
end
end Go.Ab
namespace Go.Ab
open Go.RowKit
def Q9 {α:Type} (enc:α→AV) (L:List α) (n:Int) (A:AV):List AV:=(L.map enc).set n.toNat A
theorem Qy1 {α:Type} {enc:α→AV} {L:List α} {n:Int} {A:AV}:(Q9 enc L n A).length=L.length:=by simp [Q9]
theorem Qk6 {α:Type} {enc:α→AV} {L:List α} {n:Int} {A:AV} {a:α} (ha:lkI L n=some a):(Q9 enc L n A)[n.toNat]?=some A:=by
 obtain ⟨h1,h2,h3⟩:=Qa0 ha
 unfold Q9
 rw [List.getElem?_set_self (by simpa using h2)]
theorem Ql8 {α:Type} {enc:α→AV} {L:List α} {n:Int} {A B:AV}:(Q9 enc L n A).set n.toNat B=Q9 enc L n B:=by simp [Q9,List.set_set]
theorem Qxa {α:Type} {enc:α→AV} {L:List α} {n:Int} {a:α} (ha:lkI L n=some a):Q9 enc L n (enc a)=L.map enc:=by
 obtain ⟨h1,h2,h3⟩:=Qa0 ha
 unfold Q9
 apply List.ext_getElem?
 intro i
 by_cases e:n.toNat = i
 ·subst e; rw [List.getElem?_set_self (by simpa using h2)]; simp [h3]
 ·rw [List.getElem?_set_ne e]
theorem Qy2 {α:Type} {enc:α→AV} {L:List α} {n:Int} {b:α}:Q9 enc L n (enc b)=(L.set n.toNat b).map enc:=by
 unfold Q9; rw [List.map_set]
section
variable {P:Program} {base:Nat} {st st':St}
theorem Qtr (o:Nat) {α:Type} {enc:α→AV} {L:List α} {n:Int} {a:α} {A:AV} {bx ro nr fl:Bool} {w:Nat} (ha:lkI L n=some a) (hA:enc a=A) (ho:st.objs[o]?=some (.row bx ro nr fl w (L.map enc)))
  (hS:(⟨st.slots,st.objs.set o (.row bx ro nr fl w (Q9 enc L n A)),st.nt⟩:St)=st'):Wk P base st st':=by
 subst hA
 rw [Qxa ha] at hS
 refine Q3n ?_
 rw [←hS]
 have:st.objs.set o (.row bx ro nr fl w (L.map enc))=st.objs:=by
  obtain ⟨h1,h2⟩:=List.getElem?_eq_some_iff.1 ho
  apply List.ext_getElem?
  intro i
  by_cases e:o=i
  ·subst e; rw [List.getElem?_set_self h1,ho]
  ·rw [List.getElem?_set_ne e]
 rw [this]
theorem Qk2 (o c w:Nat) (nr fl:Bool) {α:Type} {enc:α→AV} {L:List α} {n:Int} {a:α} {A A' y:AV} {bx nr0 fl0:Bool} {w0:Nat} (ha:lkI L n=some a) (ho:st.objs[o]?=some (.row bx false nr0 fl0 w0 (Q9 enc L n A)))
  (hy:A.flat[c]?=some y) (hn:(Qmh y && Nat.blt 0 w && Nat.blt st.objs.length BIG)=true) (hput:Qf0 A c (.ref st.objs.length 0 0)=some A')
  (hS:(⟨st.slots,st.objs.set o (.row bx false false false w0 (Q9 enc L n A'))++[.row false false nr fl w []],st.nt⟩:St)=st'):Wk P base st st':=by
 refine Q5 o n.toNat c w nr fl ?_
 unfold Qrj
 simp only [ho,Qk6 ha,hy,hn,if_true,hput,Ql8,hS]
theorem Qzq (o:Nat) {α:Type} {enc:α→AV} {L:List α} {n:Int} {a:α} {A y:AV} {ids:List Nat} {bx ro nr fl:Bool} {w:Nat} (ha:lkI L n=some a) (ho:st.sto o=some (.row bx ro nr fl w (Q9 enc L n A))) (hno:Qbg ids o=false)
  (hsn:Qn st.sto Qm A=some (y,ids)) (h:Qhe o n.toNat y ids st=some st'):Wk P base st st' :=
 Qsp o n.toNat ho (Qk6 ha) hno hsn h
theorem Qtk {α:Type} {enc:α→AV} (h:∀a,(enc a).nr=true):∀(L:List α),AV.nrL (L.map enc)=true
 | []=>rfl
 | a::L=>by simp [AV.nrL,h a,Qtk h L]
theorem Qt6 (o:Nat) {α:Type} {enc:α→AV} {L:List α} {bx ro nr fl:Bool} {w:Nat} (hnr:∀a,(enc a).nr=true) (ho:st.objs[o]?=some (.row bx ro nr fl w (L.map enc)))
  (hS:(⟨st.slots,st.objs.set o (.row bx ro true false w (L.map enc)),st.nt⟩:St)=st'):Wk P base st st':=by
 subst hS
 intro B W0 D0 dl M ι a W hsim
 have hlt:=(List.getElem?_eq_some_iff.1 ho).1
 have hob:=hsim.lt ho
 have hos:=Qnq hob ho rfl
 obtain ⟨p,hp,hrow⟩:=hsim.rel.row o bx ro nr fl w _ hos
 refine ⟨M,ι,.refl _ _,.refl _ _,⟨?_,hsim.slots,hsim.nt,hsim.df,fun k hk=>hsim.new k (by simpa using hk),by simpa using hsim.big⟩⟩
 show Rel P B W0 (dl++D0) M ι (sto (st.objs.set o _)) W
 rw [Qby ho rfl rfl hob]
 refine hsim.rel.lessRow (nr:=nr) (fl:=fl) (xs:=L.map enc) hos rfl (fun i x x' hi hi'=>⟨[],?_⟩) (fun _=>Qtk hnr L) (fun hf=>by cases hf)
 rw [hi] at hi'; cases hi'
 cases x <;> simp [Qu,Qcu]
end
theorem Qlb {α:Type} {f:AV→Option (AV × List Nat)} {enc:α→AV} (hE:∀a,f (enc a)=some (enc a,[])) {A A':AV} {ids:List Nat} (hA:f A=some (A',ids)):∀(L:List α) (k:Nat),k < L.length→Qp f ((L.map enc).set k A)=some ((L.map enc).set k A',ids)
 | [],k,h=>by simp at h
 | a::L,0,h=>by
  have hr:∀L:List α,Qp f (L.map enc)=some (L.map enc,[]):=by
   intro L
   induction L with
   | nil=>rfl
   | cons a L ih=>simp [Qp,hE,ih]
  simp [Qp,hA,hr]
 | a::L,k+1,h=>by
  simp only [List.map_cons,List.set_cons_succ,Qp,hE,Qlb hE hA L k (by simpa using h),List.nil_append]
theorem Qo3 {σ:Sto} {α:Type} {enc:α→AV} {L:List α} {N:Int} {a:α} {ob w n:Nat} {bx ro fl:Bool} {A A':AV} {ids:List Nat} (hrow:σ ob=some (.row bx ro false fl w (Q9 enc L N A))) (ha:lkI L N=some a)
  (hE:∀a,Qn σ n (enc a)=some (enc a,[])) (hA:Qn σ n A=some (A',ids)):Qn σ (n+1) (.ref ob 0 L.length)=some (.lst false (Q9 enc L N A'),ob::ids):=by
 obtain ⟨h1,h2,h3⟩:=Qa0 ha
 have hm:Qp (Qn σ n) (Q9 enc L N A)=some (Q9 enc L N A',ids):=Qlb hE hA L _ h2
 have hl:(Q9 enc L N A').take L.length=Q9 enc L N A':=List.take_of_length_le (by simp [Q9])
 simp [Qn,hrow,hm,Qy1,hl]
theorem Quq {M:CM} {ι:Inj} {v:Value} {fl:Bool} {xs:List AV} (hs:List LK) (h:Qa M ι v (.lst fl xs)):Qa M ι v (.lst false (xs.map (Qu hs))):=by
 cases h with
 | lst0=>exact .lst0 _ _
 | lst b off cap w _ _ f hcap hfl hc hM hr =>
  have key:∀(i j:Nat) (x y:AV),(xs.map (Qu hs))[i]?=some x→x.flat[j]?=some y→∃x0 y0 h,xs[i]?=some x0∧x0.flat[j]?=some y0∧y=LK.ap h y0:=fun i j x y hi hj=>by
   rw [List.getElem?_map,Option.map_eq_some_iff] at hi
   obtain ⟨x0,e1,rfl⟩:=hi
   have hsh:=hc x0 (List.mem_of_getElem? e1)
   obtain ⟨hs',e2,_⟩:=Qcb hs (x:=x0) hsh.form
   rw [e2] at hj
   obtain ⟨h,y0,e3,e4⟩:=Qhg hs' _ j y hj
   exact ⟨x0,y0,h,e1,e3,e4⟩
  have:=Qa.lst (M:=M) (ι:=ι) b off cap w false (xs.map (Qu hs)) f (by simpa using hcap) (fun h=>by cases h) (fun x hx=>by
   simp only [List.mem_map] at hx
   obtain ⟨z,hz,rfl⟩:=hx
   exact Qhb hs (hc z hz)) (fun i j x y hi hj=>by
   obtain ⟨x0,y0,h,e1,e2,_⟩:=key i j x y hi hj
   exact hM i j x0 y0 e1 e2) (fun i j x y hi hj=>by
   obtain ⟨x0,y0,h,e1,e2,rfl⟩:=key i j x y hi hj
   exact LK.ap_rep h (hr i j x0 y0 e1 e2))
  simpa using this
def Qaq (x y:AV):Prop:=∀(M:CM) (v:Value),Qa M noInj v x→Qa M noInj v y
theorem Qaq.refl {x:AV}:Qaq x x:=fun _ _ h=>h
theorem Qaq.lst {fl:Bool} {xs ys:List AV} (hs:List LK) (h:xs.map (Qu hs)=ys):Qaq (.lst fl xs) (.lst false ys):=fun M v hr=>by subst h; exact Quq hs hr
inductive Vu:List AV→List AV→Prop
 | nil:Vu [] []
 | cons {x y:AV} {xs ys:List AV} (h:Qaq x y) (hc:y.cell=x.cell) (k:Vu xs ys):Vu (x::xs) (y::ys)
theorem Vu.at {xs ys:List AV} (h:Vu xs ys):xs.length=ys.length∧∀(j:Nat) (y:AV),ys[j]?=some y→∃x,xs[j]?=some x∧Qaq x y∧y.cell=x.cell:=by
 induction h with
 | nil=>exact ⟨rfl,fun j y h=>by simp at h⟩
 | cons h hc k ih =>
  refine ⟨by simp [ih.1],fun j y hj=>?_⟩
  cases j with
  | zero=>simp at hj; subst hj; exact ⟨_,rfl,h,hc⟩
  | succ j=>exact ih.2 j y (by simpa using hj)
theorem Qaq.agg {xs ys:List AV} (h:Vu xs ys):Qaq (.agg xs) (.agg ys):=fun M v hr=>by
 cases hr with
 | agg cs' _ hsz hc hrr =>
  obtain ⟨hl,hat⟩:=h.at
  refine .agg cs' _ (by rw [←hl]; exact hsz) (fun y hy=>?_) (fun j v y hv hy=>?_)
  ·obtain ⟨j,hj,rfl⟩:=List.mem_iff_getElem.1 hy
   obtain ⟨x,e1,_,e3⟩:=hat j _ (List.getElem?_eq_getElem hj)
   rw [e3]; exact hc x (List.mem_of_getElem? e1)
  ·obtain ⟨x,e1,e2,_⟩:=hat j y hy
   exact e2 M v (hrr j v x hv e1)
theorem Qy.argsE {P:Program} {f:FuncId} {us ws:List AV} {co:Xd} (hw:Vu us ws) (h:Qy P f ws co):Qy P f us co:=by
 intro W M vs h1 h2 h3
 obtain ⟨hl,hat⟩:=hw.at
 refine h W M vs h1 (by rw [←hl]; exact h2) (fun j v y hv hy=>?_)
 obtain ⟨x,e1,e2,_⟩:=hat j y hy
 exact e2 M v (h3 j v x hv e1)
section
variable {P:Program} {rd:Option Nat} {base:Nat} {ops:Array Oper} {st S:St} {Φ:AOut→Prop} {d:Option (List Sk)} {i:Nat}
theorem Qci {α:Type} {enc:α→AV} {L:List α} {n:Int} {a:α} {A:AV} {ob w:Nat} {ro nr fl:Bool} (hi:Qen P ops i st=some (.ref ob 0 L.length,n,w)) (hrow:st.sto ob=some (.row false ro nr fl w (Q9 enc L n A))) (ha:lkI L n=some a)
  (hS:Zz ops i st (some (.ptr ob n.toNat 0)) []=some S) (k:RW P rd base ops (Qz d [([],[ob])]) (i+1) S Φ):RW P rd base ops d i st Φ:=by
 obtain ⟨h1,h2,_⟩:=Qa0 ha
 exact Q3x hi hrow h1 h2 (.inl rfl) hS k
theorem Qda {α:Type} {enc:α→AV} {L:List α} {n:Int} {a:α} {A:AV} {ob c w:Nat} {ro nr fl:Bool} (hp:Qd1 ops i st=some (ob,n.toNat,c)) (hrow:st.sto ob=some (.row false ro nr fl w (Q9 enc L n A))) (ha:lkI L n=some a)
  (hS:Qi8 P ops i st c A=some S) (k:RW P rd base ops (Qz d [([],[ob])]) (i+1) S Φ):RW P rd base ops d i st Φ :=
 Q3d hp hrow (Qk6 ha) (.inl rfl) hS k
theorem Qns {α:Type} {enc:α→AV} {L:List α} {n:Int} {a:α} {A A' v:AV} {ob c w:Nat} (hp:Qd1 ops i st=some (ob,n.toNat,c)) (hrow:st.sto ob=some (.row false false false false w (Q9 enc L n A))) (ha:lkI L n=some a)
  (hv:Qmy P ops i st=some v) (hput:Qf0 A c v=some A') (hS:Zz ops i st none [(ob,.row false false false false w (Q9 enc L n A'))]=some S) (hl:Nat.beq S.objs.length st.objs.length=true)
  (k:RW P rd base ops (Qz d [([ob],[ob])]) (i+1) S Φ):RW P rd base ops d i st Φ:=by
 obtain ⟨o,t,x0,y,T,ho,hop,hT,hx,hy,hc⟩:=Qli hp hv
 refine Vv (nf:=true) (fr:=st.objs.length) (rds:=[ob]) ho ?_ hS (Nat.eq_of_beq_eq_true hl) k
 unfold Zu
 rw [hop]
 simp only [Xu,Bool.false_eq_true,if_false]
 unfold evalOp
 rw [hop]
 simp only [hT,hx,hy,hrow,Qk6 ha,hc,if_true,Bool.or_true,Bool.true_or,hput,frz,Qe6,List.contains_nil,Bool.false_eq_true,if_false,List.nil_append,Xk,Bool.false_and,Ql8]
end
theorem Qsb {α:Type} {enc:α→AV} {L:List α} {n:Int} {A:AV} {b:α}:(Q9 enc L n A).set n.toNat (enc b)=(L.set n.toNat b).map enc:=by rw [Ql8,Qy2]
theorem Qlf {α β:Type} {enc:α→AV} {enc2:β→AV} {conv:α→β} {L:List α} {n:Int} {A:AV} {b:β} (hs:List LK) (h:∀a,Qu hs (enc a)=enc2 (conv a)) (hA:Qu hs A=enc2 b) :
  (Q9 enc L n A).map (Qu hs)=((L.map conv).set n.toNat b).map enc2:=by
 have e:Qu hs ∘ enc=enc2 ∘ conv:=funext h
 unfold Q9
 rw [List.map_set,List.map_set,List.map_map,List.map_map,hA,e]
def Q2a {α β:Type}:α ⊕ β→Option α
 | .inl a=>some a
 | .inr _=>none
theorem Qxz {α β:Type} {x:α ⊕ β} {a:α} (h:Q2a x=some a):x=.inl a:=by cases x <;> cases h; rfl
def lkL {α β:Type} (l:List (α ⊕ β)) (n:Int):Option α:=(lkI l n).bind Q2a
theorem Qj {α β:Type} {l:List (α ⊕ β)} {n:Int} {a:α} (h:lkL l n=some a):lkI l n=some (.inl a):=by
 unfold lkL at h
 cases e:lkI l n with
 | none=>rw [e] at h; cases h
 | some x=>rw [e] at h; rw [Qxz h]
def alr {α β:Type}:List (α ⊕ β)→Option (List β)
 | []=>some []
 | .inr b::l=>(alr l).map (b::·)
 | .inl _::_=>none
theorem Qln {α β:Type}:∀{l:List (α ⊕ β)} {m:List β},alr l=some m→l=m.map .inr
 | [],m,h=>by cases h; rfl
 | .inl _::_,m,h=>by cases h
 | .inr b::l,m,h=>by
  unfold alr at h
  cases e:alr l with
  | none=>rw [e] at h; cases h
  | some m'=>rw [e] at h; cases h; rw [Qln e]; rfl
theorem Q07 {α β:Type} {l:List (α ⊕ β)} {m:List β} {enc:α ⊕ β→AV} {enc2:β→AV} (h:alr l=some m) (he:∀b,enc (.inr b)=enc2 b):l.map enc=m.map enc2:=by
 rw [Qln h,List.map_map]
 exact congrArg (fun f=>m.map f) (funext he)
theorem Q1i {α β:Type} {l:List (α ⊕ β)} {m:List β} (h:alr l=some m):l.length=m.length:=by rw [Qln h,List.length_map]
theorem Qo5 {α:Type} {enc:α→AV} {f:Nat → Option Nat} (hE:∀a,(enc a).ren f=some (enc a)) {A A':AV} (hA:A.ren f=some A'):∀(L:List α) (k:Nat),AV.renL f ((L.map enc).set k A)=some ((L.map enc).set k A')
 | [],k=>by simp [AV.renL]
 | a::L,0=>by
  have hr:∀L:List α,AV.renL f (L.map enc)=some (L.map enc):=by
   intro L
   induction L with
   | nil=>rfl
   | cons a L ih=>simp [AV.renL,hE,ih]
  simp [AV.renL,hA,hr]
 | a::L,k+1=>by simp only [List.map_cons,List.set_cons_succ,AV.renL,hE,Qo5 hE hA L k]
def fillH (o:Nat) (h:AV→List AV):List Nat → List AObj→List AObj
 | k::ks,x::xs=>(if Nat.beq k o then (match x with | .row bx ro nr fl w [A]=>.row bx ro nr fl w (h A) | x=>x) else x)::fillH o h ks xs
 | _,_=>[]
theorem Qf8 {α:Type} {enc:α→AV} {f:Nat → Option Nat} (hE:∀a,(enc a).ren f=some (enc a)) {L:List α} {n:Int} {A:AV} {objs:List AObj} {o w:Nat} {bx ro fl:Bool} (ho:o < objs.length) :
  ∀(ks:List Nat) (os:List AObj),X4 f (objs.set o (.row bx ro false fl w [A])) ks=some os→X4 f (objs.set o (.row bx ro false fl w (Q9 enc L n A))) ks=some (fillH o (Q9 enc L n) ks os)
 | [],os,h=>by simp [X4] at h; subst h; rfl
 | k::ks,os,h=>by
  unfold X4 at h ⊢
  by_cases e:o=k
  ·subst e
   rw [List.getElem?_set_self ho] at h ⊢
   simp only [AObj.ren,AV.renL] at h ⊢
   cases hA:A.ren f with
   | none=>rw [hA] at h; simp at h
   | some A' =>
    rw [hA] at h
    simp only at h
    cases hr:X4 f (objs.set o (.row bx ro false fl w [A])) ks with
    | none=>rw [hr] at h; simp at h
    | some os' =>
     rw [hr] at h
     have ih:=Qf8 hE (L:=L) (n:=n) ho ks os' hr
     have h2:AV.renL f (Q9 enc L n A)=some (Q9 enc L n A'):=Qo5 hE hA L _
     simp at h
     subst h
     simp [h2,ih,fillH]
  ·rw [List.getElem?_set_ne e] at h ⊢
   cases hk:objs[k]? with
   | none=>rw [hk] at h; cases h
   | some x =>
    rw [hk] at h
    simp only at h ⊢
    cases hx:x.ren f with
    | none=>rw [hx] at h; cases h
    | some y =>
     rw [hx] at h
     cases hr:X4 f (objs.set o (.row bx ro false fl w [A])) ks with
     | none=>rw [hr] at h; cases h
     | some os' =>
      rw [hr] at h
      have ih:=Qf8 hE (L:=L) (n:=n) ho ks os' hr
      cases h
      rw [ih]
      have:Nat.beq k o=false:=by
       cases e2:Nat.beq k o with
       | false=>rfl
       | true=>exact absurd (Nat.eq_of_beq_eq_true e2).symm e
      simp [fillH,this]
def Q0n (base:Nat) (live keep:List Nat) (o w:Nat) (h:AV→List AV) (A:AV) (st:St):Option St :=
 match Qbp base live keep ⟨st.slots,st.objs.set o (.row false false false false w [A]),st.nt⟩ with
 | some s=>some ⟨s.slots,fillH o h (List.range base++keep) s.objs,s.nt⟩
 | none=>none
theorem wk_gcH {P:Program} {base:Nat} {st st':St} {live keep:List Nat} (o:Nat) {α:Type} (enc:α→AV) (L:List α) (n:Int) (A:AV) (w:Nat) (hE:∀f a,(enc a).ren f=some (enc a)) (ho:st.objs[o]?=some (.row false false false false w (Q9 enc L n A)))
  (h:Q0n base live keep o w (Q9 enc L n) A st=some st'):Wk P base st st':=by
 refine wk_gc (live:=live) (keep:=keep) ?_
 unfold Q0n at h
 have hself:st.objs.set o (.row false false false false w (Q9 enc L n A))=st.objs:=by
  obtain ⟨h1,h2⟩:=List.getElem?_eq_some_iff.1 ho
  apply List.ext_getElem?
  intro i
  by_cases e:o=i
  ·subst e; rw [List.getElem?_set_self h1,ho]
  ·rw [List.getElem?_set_ne e]
 cases hg:Qbp base live keep ⟨st.slots,st.objs.set o (.row false false false false w [A]),st.nt⟩ with
 | none=>rw [hg] at h; cases h
 | some s =>
  rw [hg] at h
  cases h
  unfold Qbp at hg ⊢
  simp only at hg ⊢
  split at hg
  ·rename_i hc
   rw [if_pos hc]
   split at hg
   ·rename_i os hos
    cases hg
    have:=Qf8 (fun a=>hE _ a) (L:=L) (n:=n) (List.getElem?_eq_some_iff.1 ho).1 _ _ hos
    rw [hself] at this
    rw [this]
   ·cases hg
  ·cases hg
end Go.Ab
namespace Go.Ab
open Go.RowKit
section
variable {P:Program} {rd:Option Nat} {base:Nat} {ops:Array Oper} {st S:St} {Φ:AOut→Prop} {d:Option (List Sk)} {i:Nat} {c:Code}
theorem Qsf {σ ρ1 ρ2:Type} {body:σ→Option (Ql σ (ρ1 ⊕ ρ2))} {I:σ→St} {H:ρ1→St} {Ex:ρ2→AOut→Prop}
  (stop:∀s y,body s=some (.done (.inl y))→H y=I s)
  (round:∀s o,body s=some o→(∃y,o=.done (.inl y))∨WP P rd base c (I s) (fun out=>match o with
   | .next s'=>∃st1,out=.go .normal st1∧Wk P base st1 (I s')
   | .done (.inl _)=>False
   | .done (.inr x)=>Ex x out∧out.normal=false)) :
  ∀(n:Nat) (s:σ) (x:ρ1 ⊕ ρ2),Qb n body s=some x→(∀y,x=.inl y→LWP P rd base c (H y) Φ)→(∀z,x=.inr z→∀out,Ex z out→Φ out)→LWP P rd base c (I s) Φ
 | 0,s,x,h,_,_=>by cases h
 | n+1,s,x,h,h1,h2=>by
  simp only [Qb] at h
  split at h
  ·rename_i s' hb
   rcases round s _ hb with ⟨y,e⟩ | hr
   ·cases e
   ·refine Qfg (hr.mono fun out ho=>?_)
    obtain ⟨st1,rfl,hw⟩:=ho
    exact Qkf hw (Qsf stop round n s' x h h1 h2)
  ·rename_i x' hb
   cases h
   cases x with
   | inl y =>
    have:=h1 y rfl
    rw [stop s y hb] at this
    exact this
   | inr z =>
    rcases round s _ hb with ⟨y,e⟩ | hr
    ·cases e
    ·refine Qfg (hr.mono fun out ho=>?_)
     obtain ⟨g1,g2⟩:=ho
     have g3:=h2 z rfl out g1
     cases out with
     | pan v=>exact g3
     | go e st1=>cases e <;> first | exact g3 | simp [AOut.normal] at g2
  ·cases h
def Q0u {σ ρ:Type}:Ql σ ρ→Ql σ (σ ⊕ ρ)
 | .next s=>.next s
 | .done x=>.done (.inr x)
def Qjt {σ ρ:Type} (cnd:σ→Bool) (body:σ→Option (Ql σ ρ)) (s:σ):Option (Ql σ (σ ⊕ ρ)):=if cnd s=true then some (.done (.inl s)) else (body s).map Q0u
theorem Qxn {σ ρ R:Type} {n:Nat} {cnd:σ→Bool} {body:σ→Option (Ql σ ρ)} {I:σ→St} {Ex:ρ→AOut→Prop} {K:σ ⊕ ρ→Option R} {r:R} (s0:σ) (hw:Wk P base st (I s0)) (h:(Qb n (Qjt cnd body) s0).bind K=some r)
  (round:∀s o,body s=some o→WP P rd base c (I s) (Qe3 P base I Ex o))
  (k1:∀y,K (.inl y)=some r→LWP P rd base c (I y) Φ) (k2:∀z,K (.inr z)=some r→∀out,Ex z out→Φ out):WP P rd base (.loop c) st Φ:=by
 cases hx:Qb n (Qjt cnd body) s0 with
 | none=>rw [hx] at h; cases h
 | some x =>
  rw [hx] at h
  have hb:∀s o,Qjt cnd body s=some o→(o=.done (.inl s))∨∃o',body s=some o'∧o=Q0u o':=fun s o ho=>by
   unfold Qjt at ho
   split at ho
   ·cases ho; exact .inl rfl
   ·simp only [Option.map_eq_some_iff] at ho
    obtain ⟨o',e1,e2⟩:=ho
    exact .inr ⟨o',e1,e2.symm⟩
  refine Quf (Qkf hw (Qsf (H:=I) (Ex:=Ex) (fun s y e=>?_) (fun s o e=>?_) n s0 x hx (fun y e=>?_) (fun z e=>?_)))
  ·rcases hb s _ e with e1 | ⟨o',_,e1⟩
   ·cases e1; rfl
   ·cases o' <;> cases e1
  ·rcases hb s _ e with e1 | ⟨o',e1,e2⟩
   ·exact .inl ⟨s,e1⟩
   ·subst e2
    refine .inr ((round s o' e1).mono fun out ho=>?_)
    cases o' with
    | next s'=>exact ho
    | done x=>exact ho
  ·subst e; exact k1 y h
  ·subst e; exact k2 z h
end
end Go.Ab
namespace Go.Ab
open Go.RowKit
def Qif:AObj→Bool
 | .row _ _ _ _ _ _=>true
 | .loop _ _ _ _ _ _ _=>true
 | .dead=>true
 | _=>false
def Qh2:AObj→Bool
 | .row _ _ _ _ _ _=>true
 | .loop _ _ _ _ _ _ _=>true
 | _=>false
def Jd (N:Nat):AObj→Prop
 | .row _ _ nr _ _ xs=>nr=true∨∀x∈xs,∀y∈x.flat,∀o∈y.ids,o < N
 | .loop _ sl _ _ _ _ _=>∀p∈sl,∀o∈p.2.ids,o < N
 | .dead=>True
 | _=>False
def Qnp (N:Nat):AObj→Bool
 | .row _ _ nr _ _ xs=>nr || xs.all fun x=>x.flat.all fun y=>y.ids.all fun o=>Nat.blt o N
 | .loop _ sl _ _ _ _ _=>sl.all fun p=>p.2.ids.all fun o=>Nat.blt o N
 | .dead=>true
 | _=>false
theorem Qt0 {N:Nat} {x:AObj} (h:Qnp N x=true):Jd N x:=by
 cases x with
 | row bx ro nr fl w xs =>
  simp only [Qnp,Bool.or_eq_true,List.all_eq_true] at h
  exact h.imp id fun h x hx y hy o ho=>V7 (h x hx y hy o ho)
 | loop nt sl ps as bd st pe =>
  simp only [Qnp,List.all_eq_true] at h
  exact fun p hp o ho=>V7 (h p hp o ho)
 | dead=>trivial
 | fam=>cases h
 | refs=>cases h
theorem Qj8 {N:Nat} {x:AObj} (h:Jd N x):Qif x=true:=by cases x <;> first | rfl | exact h.elim
theorem Qve {objs:List AObj} (h:∀x∈objs,Qif x=true) (id:Nat):Kh objs id=none:=by
 unfold Kh
 rw [dif_neg]
 rintro ⟨y,k,i,w,fl,xs,l,_,hk,_⟩
 have:=h _ (List.mem_of_getElem? hk)
 cases this
theorem Qd5 {x:AObj} (h:Qif x=true):x.plain=x:=by cases x <;> first | rfl | cases h
theorem Qhm {objs:List AObj} (h:∀x∈objs,Qif x=true) (hb:objs.length≤BIG) (id:Nat):sto objs id=objs[id]?:=by
 by_cases hi:id < BIG
 ·rw [Xl hi]
  cases e:objs[id]? with
  | none=>rfl
  | some x=>simp [Qd5 (h x (List.mem_of_getElem? e))]
 ·rw [Qho (by omega),Qve h,List.getElem?_eq_none (by omega)]
theorem Qrt:∀{l:List (Nat × AV)} {t:Nat} {x:AV},lk l t=some x→∃p∈l,p.2=x
 | [],t,x,h=>by cases h
 | (k,y)::r,t,x,h=>by
  unfold lk at h
  split at h
  ·cases h; exact ⟨(k,y),by simp,rfl⟩
  ·obtain ⟨p,hp,e⟩:=Qrt h
   exact ⟨p,List.mem_cons_of_mem _ hp,e⟩
section
variable {P:Program} {B N:Nat} {W0 W:World} {D:List Nat} {M:CM} {ι:Inj} {σ:Sto}
def Qgd (N:Nat) (ι:Inj) (σ:Sto) (b:Nat):Prop:=∃k p fn sl ps as bd st pe,¬ k < N∧σ k=some (.loop fn sl ps as bd st pe)∧ι k=some p∧p.blk=b
def Qbo (N:Nat) (ι:Inj) (σ:Sto) (b o:Nat):Prop:=∃k p bx nr fl w xs j,¬ k < N∧σ k=some (.row bx false nr fl w xs)∧ι k=some p∧p.blk=b∧o=p.base+j∧j < p.cap*w
open Classical in
noncomputable def Qjo (N:Nat) (ι:Inj) (σ:Sto) (W:World) (M:CM):CM :=
 ⟨M.f,M.ok,fun b=>if Qgd N ι σ b then W.heap[b]? else M.blk b,fun b o=>if Qbo N ι σ b o then W.cell? ⟨b,o,none⟩ else M.kc b o⟩
theorem Qka (h:Rel P B W0 D M ι σ W) {b:Nat} (hb:Qgd N ι σ b):M.blk b=none∧∃l,W.heap[b]?=some (Qbm l):=by
 obtain ⟨k,p,fn,sl,ps,as,bd,st,pe,_,hk,hp',rfl⟩:=hb
 obtain ⟨q,nt1,hq,hb1,_,tmps,_,hrec,_⟩:=h.loop k _ _ _ _ _ _ _ hk
 rw [hp'] at hq; cases hq
 exact ⟨hb1,_,hrec⟩
theorem Qdp (h:Rel P B W0 D M ι σ W) {b o:Nat} (hb:Qbo N ι σ b o):M.kc b o=none∧M b o=none∧(∃v,W.cell? ⟨b,o,none⟩=some v)∧W.frozen? ⟨b,o,none⟩=false:=by
 obtain ⟨k,p,bx,nr,fl,w,xs,j,_,hk,hp',rfl,rfl,hj⟩:=hb
 obtain ⟨q,hq,hr⟩:=h.row k _ _ _ _ _ _ hk
 rw [hp'] at hq; cases hq
 have c:=h.cool k bx nr fl w xs p j hk hp' hj
 obtain ⟨o1,o2⟩:=(hr.own rfl).2 j hj
 exact ⟨c.2,o2,Option.isSome_iff_exists.1 o1,c.1⟩
open Classical in
theorem Rel.hide (h:Rel P B W0 D M ι σ W) (hA:∀k x,k < N→σ k=some x→Jd N x) :
  Rel P B W0 D (Qjo N ι σ W M) (fun k=>if k < N then ι k else none) (fun k=>if k < N then σ k else none) W:=by
 have hM1:M.le (Qjo N ι σ W M):=fun _ _ _ h=>h
 have blk1:∀b,(Qjo N ι σ W M).blk b=if Qgd N ι σ b then W.heap[b]? else M.blk b:=fun b=>rfl
 have kc1:∀b o,(Qjo N ι σ W M).kc b o=if Qbo N ι σ b o then W.cell? ⟨b,o,none⟩ else M.kc b o:=fun b o=>rfl
 have low:∀{k:Nat} {x:AObj},(if k < N then σ k else none)=some x→k < N∧σ k=some x:=fun {k x} hk=>by
  by_cases e:k < N
  ·rw [if_pos e] at hk; exact ⟨e,hk⟩
  ·rw [if_neg e] at hk; cases hk
 have lowi:∀{k:Nat} {p:Place},k < N→(if k < N then ι k else none)=some p→ι k=some p:=fun e hk=>by rw [if_pos e] at hk; exact hk
 have rep1:∀{v:Value} {y:AV},(∀o∈y.ids,o < N)→Qa M ι v y→Qa (Qjo N ι σ W M) (fun k=>if k < N then ι k else none) v y:=fun hi h=>(h.congr fun o ho=>if_pos (hi o ho)).mono hM1 (Inj.le_refl _)
 refine ⟨h.size,h.below,h.defs,⟨h.agree.cell,fun b x hb=>?_,fun b o v hb=>?_⟩,fun o bx nr fl w xs p k ho hp' hk=>?_,fun o bx ro nr fl w xs ho=>?_,fun o fn sl ps as bd st pe ho=>?_,fun o o' bx nr fl w xs bx' nr' fl' w' xs' p p' hne h1 h2 h3 h4=>?_,fun o o' fn sl ps as bd st pe fn' sl' ps' as' bd' st' pe' p p' hne h1 h2 h3 h4=>?_,fun o ho=>?_⟩
 ·rw [blk1] at hb
  by_cases hd:Qgd N ι σ b
  ·rw [if_pos hd] at hb
   obtain ⟨_,l,hl⟩:=Qka h hd
   rw [hl] at hb; cases hb
   exact ⟨hl,fun c e f=>Qi1 c e f,fun d he=>Qgk (x:=d) (by rw [he])⟩
  ·rw [if_neg hd] at hb; exact h.agree.keep b x hb
 ·rw [kc1] at hb
  by_cases hd:Qbo N ι σ b o
  ·rw [if_pos hd] at hb
   exact ⟨hb,(Qdp h hd).2.2.2⟩
  ·rw [if_neg hd] at hb; exact h.agree.keepC b o v hb
 ·obtain ⟨l1,ho⟩:=low ho
  have hp':=lowi l1 hp'
  have c:=h.cool o bx nr fl w xs p k ho hp' hk
  refine ⟨c.1,?_⟩
  rw [kc1,if_neg]
  ·exact c.2
  ·rintro ⟨k2,p2,bx2,nr2,fl2,w2,xs2,j2,n2,hk2,hp2,hb2,ho2,hj2⟩
   obtain ⟨q,hq,hr⟩:=h.row o _ _ _ _ _ _ ho
   rw [hp'] at hq; cases hq
   obtain ⟨q,hq,hr2⟩:=h.row k2 _ _ _ _ _ _ hk2
   rw [hp2] at hq; cases hq
   have hpw:=hr.pw
   have hpw2:=hr2.pw
   rcases h.apart o k2 _ _ _ _ _ _ _ _ _ _ _ _ (fun e=>n2 (e ▸ l1)) ho hk2 hp' hp2 with a | a | a
   ·exact a hb2.symm
   ·rw [hpw] at a; omega
   ·rw [hpw2] at a; omega
 ·obtain ⟨l1,ho⟩:=low ho
  obtain ⟨p,hp',hrow⟩:=h.row o bx ro nr fl w xs ho
  refine ⟨p,by rw [if_pos l1]; exact hp',hrow.pw,hrow.pos,hrow.cpos,hrow.len,hrow.shaped,hrow.nr,hrow.fl,fun i j x y hi hj=>?_,hrow.own,fun hro i j x y hi hj=>?_⟩
  ·obtain ⟨v,hv,hrep⟩:=hrow.cells i j x y hi hj
   refine ⟨v,hv,?_⟩
   rcases hA o _ l1 ho with hn | hn
   ·exact (hrep.of_nr (AV.nr_flat (Qr.1 (hrow.nr hn) x (List.mem_of_getElem? hi)) y (List.mem_of_getElem? hj))).mono hM1 (Inj.le_refl _)
   ·exact rep1 (hn x (List.mem_of_getElem? hi) y (List.mem_of_getElem? hj)) hrep
  ·obtain ⟨v,hv,hrep⟩:=hrow.imm hro i j x y hi hj
   exact ⟨v,hv,hrep.mono hM1 (Inj.le_refl _)⟩
 ·obtain ⟨l1,ho⟩:=low ho
  obtain ⟨p,nt1,hp',hb1,hB1,tmps,hsz,hrec,hsl1⟩:=h.loop o fn sl ps as bd st pe ho
  refine ⟨p,nt1,by rw [if_pos l1]; exact hp',?_,hB1,tmps,hsz,hrec,fun t x hx=>?_⟩
  ·rw [blk1,if_neg]
   ·exact hb1
   ·rintro ⟨k,q,fn',sl',ps',as',bd',st',pe',hk,hk',hq,hqb⟩
    exact h.loops o k _ _ _ _ _ _ _ _ _ _ _ _ _ _ _ _ (fun e=>hk (e ▸ l1)) ho hk' hp' hq hqb.symm
  ·obtain ⟨q,hq,rfl⟩:=Qrt hx
   exact rep1 (hA o _ l1 ho q hq) (hsl1 t _ hx)
 ·obtain ⟨l1,h1⟩:=low h1
  obtain ⟨l2,h2⟩:=low h2
  exact h.apart o o' bx nr fl w xs bx' nr' fl' w' xs' p p' hne h1 h2 (lowi l1 h3) (lowi l2 h4)
 ·obtain ⟨l1,h1⟩:=low h1
  obtain ⟨l2,h2⟩:=low h2
  exact h.loops o o' fn sl ps as bd st pe fn' sl' ps' as' bd' st' pe' p p' hne h1 h2 (lowi l1 h3) (lowi l2 h4)
 ·by_cases l1:o < N
  ·rw [if_pos l1] at ho ⊢; exact h.used o ho
  ·exact .inl (if_neg l1)
open Classical in
theorem Rel.unhide {W':World} {M':CM} {ι':Inj} {σ':Sto} (h:Rel P B W0 D M ι σ W) (h':Rel P B W0 D M' ι' (fun k=>if k < N then σ' k else none) W') (hG:CM.Grow B (Qjo N ι σ W M) M') (hι:∀k,k < N→ι' k=ι k)
  (hA:∀k x,k < N→σ' k=some x→Jd N x) :
  ∃M2:CM,CM.Grow B M M2∧M'.le M2∧Rel P B W0 D M2 ι (fun k=>if k < N then σ' k else σ k) W':=by
 let M2:CM:=⟨M'.f,M'.ok,M.blk,M.kc⟩
 have hM2:M'.le M2:=fun _ _ _ h=>h
 have hMM2:M.le M2:=fun b o v h=>hG.le b o v h
 have blk':∀b,M'.blk b=if Qgd N ι σ b then W.heap[b]? else M.blk b:=fun b=>by rw [hG.keep]; rfl
 have kc':∀b o,M'.kc b o=if Qbo N ι σ b o then W.cell? ⟨b,o,none⟩ else M.kc b o:=fun b o=>by rw [hG.keepC]; rfl
 have notB:∀b,M'.blk b=none→¬ Qgd N ι σ b∧M.blk b=none:=fun b hb=>by
  rw [blk'] at hb
  by_cases hd:Qgd N ι σ b
  ·rw [if_pos hd] at hb
   obtain ⟨_,l,hl⟩:=Qka h hd
   rw [hl] at hb; cases hb
  ·rw [if_neg hd] at hb; exact ⟨hd,hb⟩
 have notC:∀b o,M'.kc b o=none→¬ Qbo N ι σ b o∧M.kc b o=none:=fun b o hb=>by
  rw [kc'] at hb
  by_cases hd:Qbo N ι σ b o
  ·rw [if_pos hd] at hb
   obtain ⟨_,_,⟨v,hv⟩,_⟩:=Qdp h hd
   rw [hv] at hb; cases hb
  ·rw [if_neg hd] at hb; exact ⟨hd,hb⟩
 have low:∀{k:Nat} {x:AObj},k < N→(if k < N then σ' k else σ k)=some x→(if k < N then σ' k else none)=some x∧σ' k=some x:=fun e hk=>by
  rw [if_pos e] at hk ⊢; exact ⟨hk,hk⟩
 have high:∀{k:Nat} {x:AObj},¬ k < N→(if k < N then σ' k else σ k)=some x→σ k=some x:=fun e hk=>by rw [if_neg e] at hk; exact hk
 have repl:∀{v:Value} {y:AV},(∀o∈y.ids,o < N)→Qa M' ι' v y→Qa M2 ι v y:=fun hi h=>(h.congr fun o ho=>(hι o (hi o ho)).symm).mono hM2 (Inj.le_refl _)
 refine ⟨M2,⟨hMM2,hG.old,rfl,rfl,fun b o v hv=>?_⟩,hM2,h'.size,h'.below,h'.defs,⟨h'.agree.cell,fun b x hb=>?_,fun b o v hb=>?_⟩,fun o bx nr fl w xs p k ho hp' hk=>?_,fun o bx ro nr fl w xs ho=>?_,fun o fn sl ps as bd st pe ho=>?_,fun o o' bx nr fl w xs bx' nr' fl' w' xs' p p' hne h1 h2 h3 h4=>?_,fun o o' fn sl ps as bd st pe fn' sl' ps' as' bd' st' pe' p p' hne h1 h2 h3 h4=>?_,fun o ho=>?_⟩
 ·by_cases hd:Qbo N ι σ b o
  ·rw [(Qdp h hd).1] at hv; cases hv
  ·exact hG.keepF b o v (by show (if Qbo N ι σ b o then _ else _)=_; rw [if_neg hd]; exact hv)
 ·have hb':M.blk b=some x:=hb
  refine h'.agree.keep b x ?_
  rw [blk']
  by_cases hd:Qgd N ι σ b
  ·rw [(Qka h hd).1] at hb'; cases hb'
  ·rw [if_neg hd]; exact hb'
 ·have hb':M.kc b o=some v:=hb
  refine h'.agree.keepC b o v ?_
  rw [kc']
  by_cases hd:Qbo N ι σ b o
  ·rw [(Qdp h hd).1] at hb'; cases hb'
  ·rw [if_neg hd]; exact hb'
 ·by_cases hl:o < N
  ·obtain ⟨ho1,ho2⟩:=low hl ho
   have c:=h'.cool o bx nr fl w xs p k ho1 (by rw [hι o hl]; exact hp') hk
   exact ⟨c.1,(notC _ _ c.2).2⟩
  ·have ho:=high hl ho
   have hd:Qbo N ι σ p.blk (p.base+k):=⟨o,p,bx,nr,fl,w,xs,k,hl,ho,hp',rfl,rfl,hk⟩
   obtain ⟨s1,s2,⟨v,hv⟩,s4⟩:=Qdp h hd
   exact ⟨(h'.agree.keepC _ _ v (by rw [kc',if_pos hd]; exact hv)).2,s1⟩
 ·by_cases hl:o < N
  ·obtain ⟨ho1,ho2⟩:=low hl ho
   obtain ⟨p,hp',hrow⟩:=h'.row o bx ro nr fl w xs ho1
   refine ⟨p,by rw [←hι o hl]; exact hp',hrow.pw,hrow.pos,hrow.cpos,hrow.len,hrow.shaped,hrow.nr,hrow.fl,fun i j x y hi hj=>?_,hrow.own,fun hro i j x y hi hj=>?_⟩
   ·obtain ⟨v,hv,hrep⟩:=hrow.cells i j x y hi hj
    refine ⟨v,hv,?_⟩
    rcases hA o _ hl ho2 with hn | hn
    ·exact (hrep.of_nr (AV.nr_flat (Qr.1 (hrow.nr hn) x (List.mem_of_getElem? hi)) y (List.mem_of_getElem? hj))).mono hM2 (Inj.le_refl _)
    ·exact repl (hn x (List.mem_of_getElem? hi) y (List.mem_of_getElem? hj)) hrep
   ·obtain ⟨v,hv,hrep⟩:=hrow.imm hro i j x y hi hj
    exact ⟨v,hv,hrep.mono hM2 (Inj.le_refl _)⟩
  ·have ho:=high hl ho
   obtain ⟨p,hp',hrow⟩:=h.row o bx ro nr fl w xs ho
   cases ro with
   | true =>
    have himm:∀(i j:Nat) (x y:AV),xs[i]?=some x→x.flat[j]?=some y→∃v,M2 p.blk (p.base+i*w+j)=some v∧Qa M2 noInj v y:=fun i j x y hi hj=>by
     obtain ⟨v,hv,hrep⟩:=hrow.imm rfl i j x y hi hj
     exact ⟨v,hMM2 _ _ _ hv,hrep.mono hMM2 (Inj.le_refl _)⟩
    refine ⟨p,hp',hrow.pw,hrow.pos,hrow.cpos,hrow.len,hrow.shaped,hrow.nr,hrow.fl,fun i j x y hi hj=>?_,fun h=>(by cases h),fun _=>himm⟩
    obtain ⟨v,hv,hrep⟩:=himm i j x y hi hj
    exact ⟨v,h'.agree.cell _ _ _ hv,hrep.mono (CM.le_refl _) (Inj.noInj_le _)⟩
   | false =>
    have kept:∀k,k < p.cap*w→∀v,W.cell? ⟨p.blk,p.base+k,none⟩=some v→W'.cell? ⟨p.blk,p.base+k,none⟩=some v:=fun k hk v hv =>
     (h'.agree.keepC _ _ v (by rw [kc',if_pos ⟨o,p,bx,nr,fl,w,xs,k,hl,ho,hp',rfl,rfl,hk⟩]; exact hv)).1
    refine ⟨p,hp',hrow.pw,hrow.pos,hrow.cpos,hrow.len,hrow.shaped,hrow.nr,hrow.fl,fun i j x y hi hj=>?_,fun _=>⟨(hrow.own rfl).1,fun k hk=>?_⟩,fun h=>(by cases h)⟩
    ·obtain ⟨v,hv,hrep⟩:=hrow.cells i j x y hi hj
     have hi':=(List.getElem?_eq_some_iff.1 hi).1
     have hj':=(List.getElem?_eq_some_iff.1 hj).1
     rw [(hrow.shaped x (List.mem_of_getElem? hi)).len] at hj'
     have hlt:i*w+j < p.cap*w:=by
      have h1:(i+1)*w≤p.cap*w:=Nat.mul_le_mul_right _ (by have:=hrow.len; omega)
      rw [Nat.succ_mul] at h1; omega
     have:=kept (i*w+j) hlt v (by rw [←Nat.add_assoc]; exact hv)
     exact ⟨v,by rw [Nat.add_assoc]; exact this,hrep.mono hMM2 (Inj.le_refl _)⟩
    ·obtain ⟨o1,o2⟩:=(hrow.own rfl).2 k hk
     obtain ⟨v,hv⟩:=Option.isSome_iff_exists.1 o1
     refine ⟨by rw [kept k hk v hv]; rfl,?_⟩
     have hd:Qbo N ι σ p.blk (p.base+k):=⟨o,p,bx,nr,fl,w,xs,k,hl,ho,hp',rfl,rfl,hk⟩
     have:=hG.keepF p.blk (p.base+k) v (by show (if Qbo N ι σ p.blk (p.base+k) then _ else _)=_; rw [if_pos hd]; exact hv)
     exact this.trans o2
 ·by_cases hl:o < N
  ·obtain ⟨ho1,ho2⟩:=low hl ho
   obtain ⟨p,nt1,hp',hb1,hB1,tmps,hsz,hrec,hsl1⟩:=h'.loop o fn sl ps as bd st pe ho1
   refine ⟨p,nt1,by rw [←hι o hl]; exact hp',(notB _ hb1).2,hB1,tmps,hsz,hrec,fun t x hx=>?_⟩
   obtain ⟨q,hq,rfl⟩:=Qrt hx
   exact repl (hA o _ hl ho2 q hq) (hsl1 t _ hx)
  ·have ho:=high hl ho
   obtain ⟨p,nt1,hp',hb1,hB1,tmps,hsz,hrec,hsl1⟩:=h.loop o fn sl ps as bd st pe ho
   refine ⟨p,nt1,hp',hb1,hB1,tmps,hsz,?_,fun t x hx=>(hsl1 t x hx).mono hMM2 (Inj.le_refl _)⟩
   exact (h'.agree.keep p.blk _ (by rw [blk',if_pos ⟨o,p,fn,sl,ps,as,bd,st,pe,hl,ho,hp',rfl⟩]; exact hrec)).1
 ·have cellOf:∀{k bx nr fl w xs q},¬ k < N→σ k=some (.row bx false nr fl w xs)→ι k=some q→∀j,j < q.cap*q.w→Qbo N ι σ q.blk (q.base+j):=fun {k bx nr fl w xs q} hk h1 hq j hj=>by
   obtain ⟨q',hq',hr⟩:=h.row k _ _ _ _ _ _ h1
   rw [hq] at hq'; cases hq'
   exact ⟨k,q,bx,nr,fl,w,xs,j,hk,h1,hq,rfl,rfl,by rw [←hr.pw]; exact hj⟩
  have free:∀{k bx nr fl w xs q},k < N→(if k < N then σ' k else σ k)=some (.row bx false nr fl w xs)→ι k=some q→∀j,j < q.cap*q.w→¬ Qbo N ι σ q.blk (q.base+j):=fun {k bx nr fl w xs q} hk h1 hq j hj=>by
   obtain ⟨h1,_⟩:=low hk h1
   obtain ⟨q',hq',hr⟩:=h'.row k _ _ _ _ _ _ h1
   rw [hι k hk,hq] at hq'; cases hq'
   exact (notC _ _ (h'.cool k bx nr fl w xs q j h1 (by rw [hι k hk]; exact hq) (by rw [←hr.pw]; exact hj)).2).1
  have mixed:∀{k bx nr fl w xs q k2 bx2 nr2 fl2 w2 xs2 q2},k < N→¬ k2 < N→(if k < N then σ' k else σ k)=some (.row bx false nr fl w xs)→(if k2 < N then σ' k2 else σ k2)=some (.row bx2 false nr2 fl2 w2 xs2)→ι k=some q→ι k2=some q2 →
    q.blk≠q2.blk∨q.base+q.cap*q.w≤q2.base∨q2.base+q2.cap*q2.w≤q.base:=fun {k bx nr fl w xs q k2 bx2 nr2 fl2 w2 xs2 q2} l1 l2 h1 h2 h3 h4=>by
   apply Classical.byContradiction
   intro hno
   have hblk:q.blk=q2.blk:=Classical.byContradiction fun e=>hno (.inl e)
   have a1:¬ q.base+q.cap*q.w≤q2.base:=fun e=>hno (.inr (.inl e))
   have a2:¬ q2.base+q2.cap*q2.w≤q.base:=fun e=>hno (.inr (.inr e))
   have n1:0 < q.cap*q.w:=by
    obtain ⟨q',hq',hr⟩:=h'.row k _ _ _ _ _ _ (low l1 h1).1
    rw [hι k l1,h3] at hq'; cases hq'
    rcases hr.cpos with e | e
    ·exact Nat.mul_pos e (by rw [hr.pw]; exact hr.pos)
    ·rcases Nat.eq_zero_or_pos (q.cap*q.w) with z | z
     ·omega
     ·exact z
   have n2:0 < q2.cap*q2.w:=by
    obtain ⟨q',hq',hr⟩:=h.row k2 _ _ _ _ _ _ (high l2 h2)
    rw [h4] at hq'; cases hq'
    rcases hr.cpos with e | e
    ·exact Nat.mul_pos e (by rw [hr.pw]; exact hr.pos)
    ·rcases Nat.eq_zero_or_pos (q2.cap*q2.w) with z | z
     ·omega
     ·exact z
   have c1:=cellOf l2 (high l2 h2) h4
   have c2:=free l1 h1 h3
   rcases Nat.le_total q.base q2.base with e | e
   ·have:=c2 (q2.base - q.base) (by omega)
    rw [show q.base+(q2.base - q.base)=q2.base+0 by omega,hblk] at this
    exact this (c1 0 (by omega))
   ·have:=c2 0 (by omega)
    rw [hblk,show q.base+0=q2.base+(q.base - q2.base) by omega] at this
    exact this (c1 (q.base - q2.base) (by omega))
  by_cases l1:o < N
  ·by_cases l2:o' < N
   ·exact h'.apart o o' bx nr fl w xs bx' nr' fl' w' xs' p p' hne (low l1 h1).1 (low l2 h2).1 (by rw [hι o l1]; exact h3) (by rw [hι o' l2]; exact h4)
   ·exact mixed l1 l2 h1 h2 h3 h4
  ·by_cases l2:o' < N
   ·rcases mixed l2 l1 h2 h1 h4 h3 with a | a | a
    ·exact .inl (Ne.symm a)
    ·exact .inr (.inr a)
    ·exact .inr (.inl a)
   ·exact h.apart o o' bx nr fl w xs bx' nr' fl' w' xs' p p' hne (high l1 h1) (high l2 h2) h3 h4
 ·have free:∀{k fn sl ps as bd st pe q},k < N→(if k < N then σ' k else σ k)=some (.loop fn sl ps as bd st pe)→ι k=some q→¬ Qgd N ι σ q.blk:=fun {k fn sl ps as bd st pe q} hk h1 hq=>by
   obtain ⟨h1,_⟩:=low hk h1
   obtain ⟨p,nt1,hp',hb1,_⟩:=h'.loop _ _ _ _ _ _ _ _ h1
   rw [hι k hk,hq] at hp'; cases hp'
   exact (notB _ hb1).1
  have one:∀{k fn sl ps as bd st pe q},¬ k < N→(if k < N then σ' k else σ k)=some (.loop fn sl ps as bd st pe)→ι k=some q→Qgd N ι σ q.blk:=fun hk h1 hq=>⟨_,_,_,_,_,_,_,_,_,hk,high hk h1,hq,rfl⟩
  by_cases l1:o < N
  ·by_cases l2:o' < N
   ·exact h'.loops o o' fn sl ps as bd st pe fn' sl' ps' as' bd' st' pe' p p' hne (low l1 h1).1 (low l2 h2).1 (by rw [hι o l1]; exact h3) (by rw [hι o' l2]; exact h4)
   ·exact fun e=>free l1 h1 h3 (e ▸ one l2 h2 h4)
  ·by_cases l2:o' < N
   ·exact fun e=>free l2 h2 h4 (e ▸ one l1 h1 h3)
   ·exact h.loops o o' fn sl ps as bd st pe fn' sl' ps' as' bd' st' pe' p p' hne (high l1 h1) (high l2 h2) h3 h4
 ·by_cases hl:o < N
  ·rw [if_pos hl]
   have:=h'.used o (by rw [hι o hl]; exact ho)
   rw [if_pos hl] at this
   exact this
  ·rw [if_neg hl]; exact h.used o ho
end
end Go.Ab
namespace Go.Ab
open Go.RowKit
theorem Qtv:∀D:List Nat,∃D':List Nat,D'.Nodup∧∀r,r∈D'↔r∈D
 | []=>⟨[],List.nodup_nil,fun r=>Iff.rfl⟩
 | x::D=>by
  obtain ⟨D',h1,h2⟩:=Qtv D
  by_cases hx:x∈D'
  ·exact ⟨D',h1,fun r=>by rw [h2,List.mem_cons]; exact ⟨.inr,fun h=>h.elim (fun e=>by subst e; exact (h2 _).1 hx) id⟩⟩
  ·exact ⟨x::D',List.nodup_cons.2 ⟨hx,h1⟩,fun r=>by rw [List.mem_cons,List.mem_cons,h2]⟩
theorem Qkk:∀{es:List (Nat × AObj)} {objs objs':List AObj},Zj objs es=some objs'→(∀y∈es,y.1 < objs.length)→objs'.length=objs.length
 | [],objs,objs',h,_=>by cases h; rfl
 | (o,x)::es,objs,objs',h,hl=>by
  simp only [Zj] at h
  split at h
  ·split at h
   ·split at h
    ·cases h
    ·rw [Qkk h (fun y hy=>by rw [List.length_set]; exact hl y (List.mem_cons_of_mem _ hy)),List.length_set]
   ·rename_i hn
    have:=hl (o,x) (by simp)
    rw [List.getElem?_eq_getElem this] at hn; cases hn
  ·cases h
section
variable {P:Program} {ops:Array Oper} {o:Oper}
theorem Q1k {g:Operand} {args:Array Operand} {ts:Array TypeId} {f:FuncId} {fn:Func} {c:Code} {first caps as:List AV} {e:Z5} {x:AV} {s:Slots} {σ:Sto} {N n:Nat} {A A':List AObj} {sl':List (Nat × AV)} {nt':Nat} {eff:List (Nat × AObj)}
  (hw:Xj ops s o=some true) (ho:o.op=.call { callee:=.value g,args,argTypes:=ts }) (hg:evo s g=some (.fn (.func f) first caps)) (has:Jc s args.toList=some as)
  (hf:P.funcs[f]?=some fn) (hb:fn.body=some c) (hn:(fn.name == "runtime.NumGoroutine")=false) (hle:(first++as++caps).length≤fn.ntmps)
  (hσ:∀k,k < N→σ k=A[k]?) (hN:A.length=N) (hN':A'.length=N) (hbig:N≤BIG) (hlive:∀y∈A,Qh2 y=true) (hA:∀y∈A,Jd N y) (hA':∀y∈A',Jd N y)
  (hids:∀a∈first++as++caps,∀k∈a.ids,k < N)
  (h:Xf P none N c ⟨X6 0 (first++as++caps),A,fn.ntmps⟩ (.go e ⟨sl',A',nt'⟩)) (hend:e.ends=true) (hr:resultA P fn ⟨sl',A',nt'⟩=some x) (hx:x.nr=true)
  (heff:∀k,k < N→Sto.puts (fun k=>A[k]?) eff k=A'[k]?) (heff2:∀y∈eff,y.1 < N) :
  YlL P ops o ⟨some x,eff,n,n,List.range N⟩ s σ:=by
 intro s' σ' hs' hσ'
 have hl:=Qf6 (ops:=ops) hs'
 rw [ho] at hl
 have hg':evo s' g=some (.fn (.func f) first caps):=by rw [hl g (by simp [Op.operands,Call.operands])]; exact hg
 have has':Jc s' args.toList=some as:=by rw [evos_congr (fun y hy=>hl y (by simp [Op.operands,Call.operands]; exact .inr (by simpa using hy)))]; exact has
 refine .inl ⟨by rw [Jg hs']; exact hw,?_⟩
 intro B W0 D M ι a W nn Q r next hrel hsl hfree hpost
 simp only at hfree hpost
 have hσN:∀k,k < N→σ' k=A[k]?:=fun k hk=>by rw [hσ' k (List.mem_range.2 hk)]; exact hσ k hk
 have hgv:=Qf hsl hg'
 generalize hgu:a.eval g=gu at hgv
 cases hgv with
 | fn _ first' caps' _ _ hy hm h1 h2 hr1 hr2 =>
 obtain ⟨l1,e1⟩:=Vw hsl has'
 refine ⟨fun _ _=>trivial,?_⟩
 rw [Oper.semAt_eq _ _ _ (by rw [ho]; simp)]
 have hrun:(execOp a.eval o).run P W=.ok (.enter f (first'++args.map a.eval++caps')) W:=by
  simp only [execOp,ho,resolve,hgu,Deferred.ofValue,Sem.run_bind,Sem.run_pure,Result.andThen_ok,invoke]
  exact Ke hf (by rw [hb]; rfl) hn _ W
 rw [hrun,Oper.uponIn_enter]
 have hrep:∀(j:Nat) (v:Value) (y:AV),(first'++args.map a.eval++caps')[j]?=some v→(first++as++caps)[j]?=some y→Qa M ι v y :=
  Qhx h1 (by simpa using l1.symm) h2 hr1 (fun j v y hv hy=>by
   simp only [Array.getElem?_map,Option.map_eq_some_iff] at hv
   obtain ⟨w,hw,rfl⟩:=hv
   exact (e1 j w y (by simpa using hw) hy).2) hr2
 have hsz:(first'++args.map a.eval++caps').size=(first++as++caps).length:=by simp [h1,h2,l1]
 have hOk:∀k x,k < N→σ' k=some x→Jd N x:=fun k x hk hx=>by
  rw [hσN k hk] at hx; exact hA x (List.mem_of_getElem? hx)
 have hhide:=hrel.hide (N:=N) hOk
 have hsA:sto A=fun k=>if k < N then σ' k else none:=funext fun k=>by
  rw [Qhm (fun y hy=>Qj8 (hA y hy)) (by omega)]
  by_cases hk:k < N
  ·rw [if_pos hk,hσN k hk]
  ·rw [if_neg hk,List.getElem?_eq_none (by omega)]
 rw [←hsA] at hhide
 obtain ⟨D0,hnd,hmem⟩:=Qtv D
 have hhide0:=hhide.mem (D':=D0) (fun r hr=>(hmem r).1 hr)
 have hM1:M.le (Qjo N ι σ' W M):=fun _ _ _ h=>h
 refine ⟨fun hd=>by simp [FW,Fence.wide] at hd,Qd3 ?_⟩
 refine callsIn_wide.1 (callsIn_of_wp_marks (F:=FW none) (n:=0) hf hb trivial ?_)
 refine h B W0 D0 [] (Qjo N ι σ' W M) (fun k=>if k < N then ι k else none) _ W 0 _ none ⟨hhide0,Qaw fn.ntmps (fun j v y hv hy=>?_) hsz,by rw [Array.size_append,Array.size_replicate]; show _=fn.ntmps; omega,⟨rfl,fun r hr=>by simp at hr,by simpa using hnd⟩,fun k hk=>?_,by show A.length≤BIG; omega⟩ rfl ⟨?_,fun v hv=>by cases hv⟩
 ·have hi:=hids y (List.mem_of_getElem? hy)
  exact ((hrep j v y hv hy).congr fun o ho=>if_pos (hi o ho)).mono hM1 (Inj.le_refl _)
 ·exact if_neg (fun hlt=>hk (.inl (by show k < A.length; omega)))
 intro e' st'' he dl' M' ι' a' W' g1 g2 g3 g4
 cases he
 have hex:e.exit'=.normal∨e.exit'=.ret:=by cases e <;> simp_all [Z5.ends,Z5.exit']
 have cut:∀R,LeavesInM (FW none) 0 P fn a'.tmps R a'.defers .returning W'→bodyPostM (FW none) 0 P fn R e.exit' a' W':=fun R hR=>by
  rcases hex with e1 | e1 <;> rw [e1] <;> exact hR
 apply cut
 rw [g4.df.defs]
 refine Qc1 (by simp) dl' W' g4.rel g4.df.nd g4.df.old (fun W2 h2=>?_)
 obtain ⟨v,k1,k2⟩:=Qa9 h2 g4.slots hr
 refine ⟨v,k1,?_⟩
 have hι:∀k,k < N→ι' k=ι k:=fun k hk=>by
  have hlv:∃p,ι k=some p:=by
   have hAk:A[k]?=some (A[k]'(by omega)):=List.getElem?_eq_getElem (by omega)
   have hk':=hσN k hk
   rw [hAk] at hk'
   have hlv:=hlive _ (List.mem_of_getElem? hAk)
   cases hy:A[k]'(by omega) with
   | row bx ro nr fl w xs=>rw [hy] at hk'; obtain ⟨p,hp,_⟩:=hrel.row k _ _ _ _ _ _ hk'; exact ⟨p,hp⟩
   | loop nt sl ps as bd st pe=>rw [hy] at hk'; obtain ⟨p,_,hp,_⟩:=hrel.loop k _ _ _ _ _ _ _ hk'; exact ⟨p,hp⟩
   | _=>rw [hy] at hlv; cases hlv
  obtain ⟨p,hp⟩:=hlv
  rw [hp]
  exact g2 k p (.inl hk) (by show (if k < N then ι k else none)=_; rw [if_pos hk]; exact hp)
 have h2':=h2.mem (D':=D) (fun r hr=>(hmem r).2 hr)
 have hsA':sto A'=fun k=>if k < N then (fun k=>A'[k]?) k else none:=funext fun k=>by
  rw [Qhm (fun y hy=>Qj8 (hA' y hy)) (by omega)]
  by_cases hk:k < N
  ·rw [if_pos hk]
  ·rw [if_neg hk,List.getElem?_eq_none (by omega)]
 rw [show (⟨sl',A',nt'⟩:St).objs=A' from rfl,hsA'] at h2'
 obtain ⟨M2,q1,q2,q3⟩:=hrel.unhide h2' g1 hι (fun k y hk hy=>hA' y (List.mem_of_getElem? hy))
 refine hpost v W2 M2 ι q1 (Inj.le_refl _) (fun _ _=>rfl) ?_ (fun y hy=>?_)
 ·have:(fun k=>if k < N then (fun k=>A'[k]?) k else σ' k)=σ'.puts eff:=funext fun k=>by
   by_cases hk:k < N
   ·rw [if_pos hk]
    show A'[k]?=_
    rw [←heff k hk]
    exact Qd7 eff k (.inl (hσN k hk).symm)
   ·rw [if_neg hk]
    exact (Qc2 (fun y hy e=>hk (by rw [←e]; exact heff2 y hy))).symm
  rw [←this]; exact q3
 ·cases hy
  exact (k2.of_nr hx).mono q2 (Inj.noInj_le _)
end
section
variable {P:Program} {rd:Option Nat} {base:Nat} {ops:Array Oper} {d:Option (List Sk)} {st S:St} {Φ:AOut→Prop} {i:Nat}
noncomputable def Qa1 (P:Program) (fn:Func) (ops:Array Oper) (i:Nat) (st:St) (eff:List (Nat × AObj)) (st':St):Option St :=
 match resultA P fn st',ops[i]? with
 | some x,some o=>match Jv st.slots st.nt o.dst (some x),Zj st.objs eff with
  | some slots,some objs=>if x.nr then some ⟨slots,objs,st.nt⟩ else none
  | _,_=>none
 | _,_=>none
theorem Q33 {σ ρ R:Type} {N:Nat} {c:Code} {I:σ→St} {E:ρ→St} {F:σ→Option ρ} {K:ρ→Option R} {r:R} {f:FuncId} {fn:Func} {as0:List AV} (s0:σ) (A H:List AObj) (eff:ρ→List (Nat × AObj)) (S:ρ→St)
  (hi:Zh ops i st=some (f,as0)) (hf:P.funcs[f]?=some fn) (hb:fn.body=some c) (hn:(fn.name == "runtime.NumGoroutine")=false) (hle:Nat.ble as0.length fn.ntmps=true)
  (hsp:st.objs=A++H) (h0:(⟨X6 0 as0,A,fn.ntmps⟩:St)=I s0) (hN:A.length=N) (hbig:Nat.ble N BIG=true) (hlive:A.all Qh2=true) (hA:∀y∈A,Jd N y) (hE:∀x,(E x).objs.length=N) (hA':∀x,∀y∈(E x).objs,Jd N y)
  (hsl:(as0.all fun a=>a.ids.all fun o=>Nat.blt o N)=true)
  (heff:∀x,∀k,k < N→Sto.puts (fun k=>A[k]?) (eff x) k=(E x).objs[k]?) (hefl:∀x,∀y∈eff x,y.1 < N) (w:List Nat) (hw:∀x,(eff x).map (·.1)=w) (hlow:Nat.ble st.objs.length BIG=true)
  (IH:Qac P N c I E F) (h:(F s0).bind K=some r) (hS:∀x,Qa1 P fn ops i st (eff x) (E x)=some (S x))
  (k:∀x,K x=some r→RW P rd base ops (Qz d [(w,List.range N)]) (i+1) (S x) Φ):RW P rd base ops d i st Φ:=by
 obtain ⟨o,g,args,ts,first,caps,as1,ho,hop,hg,has,rfl⟩:=Qa6 hi
 obtain ⟨h1,h2⟩:=Yb ho
 cases hx:F s0 with
 | none=>rw [hx] at h; cases h
 | some x =>
  rw [hx] at h
  obtain ⟨out,hex,hout⟩:=IH s0 x hx
  rw [←h0] at hex
  have hsx:=hS x
  unfold Qa1 at hsx
  split at hsx
  ·rename_i y o' hr ho'
   rw [h1] at ho'; cases ho'
   split at hsx
   ·rename_i slots objs hp ha
    split at hsx
    ·rename_i hy
     have hsS:S x=⟨slots,objs,st.nt⟩:=(Option.some.inj hsx).symm
     have hks:=k x h
     rw [hsS] at hks
     obtain ⟨p1,p2,p3⟩:=Vo _ _ _ ha
     have hNl:N≤st.objs.length:=by rw [hsp,List.length_append]; omega
     have hbig':N≤BIG:=Nat.le_of_ble_eq_true hbig
     have hAsimp:∀z∈A,Qif z=true:=fun z hz=>Qj8 (hA z hz)
     have hσ:∀k,k < N→sto st.objs k=A[k]?:=fun k hk=>by
      have hkb:k < BIG:=by omega
      rw [Xl hkb,hsp,List.getElem?_append_left (by omega)]
      cases e:A[k]? with
      | none=>rfl
      | some z=>simp [Qd5 (hAsimp z (List.mem_of_getElem? e))]
     have hids:∀a∈first++as1++caps,∀k∈a.ids,k < N:=fun a ha k hk=>V7 (List.all_eq_true.1 (List.all_eq_true.1 hsl a ha) k hk)
     have hout':∃e,out=.go e (E x)∧e.ends=true:=by
      rcases hout with he | he
      ·exact ⟨_,he,rfl⟩
      ·exact ⟨_,he,rfl⟩
     obtain ⟨e,rfl,hend⟩:=hout'
     have hlen:objs.length=st.objs.length:=Qkk ha (fun y hy=>by have:=hefl x y hy; omega)
     refine Qaj (s:=(w,List.range N)) ⟨o,⟨some y,eff x,st.objs.length,st.objs.length,List.range N⟩,h1,?_,Qrp (by simp [Foot.sk,hw x])⟩ hks
     refine Ql7 (Q1k (e:=e) (sl':=(E x).slots) (nt':=(E x).nt) (A:=A) (A':=(E x).objs) h2 hop hg has hf hb hn (Nat.le_of_ble_eq_true hle) hσ hN (hE x) hbig' (fun z hz=>List.all_eq_true.1 hlive z hz) hA (hA' x) hids hex hend hr hy (heff x) (hefl x)) rfl ?_ ha hp rfl
     show st.objs.length=objs.length
     exact hlen.symm
    ·cases hsx
   ·cases hsx
  ·cases hsx
end
end Go.Ab
namespace Go.Ab
open Go.RowKit
def Jb {α:Type} (kk:IntKind) (enc:α→AV) (p:Int × α):AV × AV:=(.int kk p.1,enc p.2)
def mapI {α:Type} (kk:IntKind) (enc:α→AV) (l:List (Int × α)):AObj:=mapO (l.map (Jb kk enc))
def Y4 {α:Type}:List (Int × α)→Int→Option α
 | [],_=>none
 | p::r,n=>if n==p.1 then some p.2 else Y4 r n
def mput {α:Type}:List (Int × α)→Int→α→List (Int × α)
 | [],n,v=>[(n,v)]
 | p::r,n,v=>if n==p.1 then (n,v)::r else p::mput r n v
theorem Qlg:∀(es:List (AV × AV)) (i:Nat),Qcz i (Z6 i es)=some es
 | [],i=>rfl
 | (k,v)::r,i=>by
  simp only [Z6,Qcz]
  rw [show Nat.beq i i=true from Nat.beq_refl i,show Nat.beq (i+1) (i+1)=true from Nat.beq_refl _]
  simp [Qlg r (i+2)]
theorem Qo9 (es:List (AV × AV)):Qfs (mapO es)=some es:=by
 simp [Qfs,mapO,Qlg]
section
variable {P:Program} {α:Type} {enc:α→AV} {kk:IntKind} {kt:TypeId}
theorem Qez (hk:Kp P kt=some .int) (n m:Int):Qa8 P kt (.int kk n) (.int kk m)=some (n==m):=by
 unfold Qa8; rw [hk]; simp [Qoz]
theorem Qkl (hk:Kp P kt=some .int) {n:Int}:∀(l:List (Int × α)) (i:Nat),Y4 l n=none→Qc3 (Qa8 P kt) (.int kk n) (l.map (Jb kk enc)) i=some none
 | [],i,_=>rfl
 | p::r,i,h=>by
  unfold Y4 at h
  split at h
  ·cases h
  ·rename_i hc
   simp only [List.map_cons,Jb,Qc3,Qez hk]
   rw [show (n==p.1)=false by simpa using hc]
   exact Qkl hk r (i+1) h
theorem Qjr (hk:Kp P kt=some .int) {n:Int} {v:α}:∀(l:List (Int × α)) (i:Nat),Y4 l n=some v→∃j,Qc3 (Qa8 P kt) (.int kk n) (l.map (Jb kk enc)) i=some (some (i+j,enc v))∧∀w,(l.map (Jb kk enc)).set j (Jb kk enc (n,w))=(mput l n w).map (Jb kk enc)
 | [],i,h=>by cases h
 | p::r,i,h=>by
  unfold Y4 at h
  split at h
  ·rename_i hc
   cases h
   refine ⟨0,?_,fun w=>?_⟩
   ·simp only [List.map_cons,Jb,Qc3,Qez hk,hc,Nat.add_zero]
   ·simp only [mput,hc,if_true,List.map_cons,List.set_cons_zero]
  ·rename_i hc
   have hc':(n==p.1)=false:=by simpa using hc
   obtain ⟨j,h1,h2⟩:=Qjr hk r (i+1) h
   refine ⟨j+1,?_,fun w=>?_⟩
   ·simp only [List.map_cons,Jb,Qc3,Qez hk,hc']
    rw [show i+(j+1)=i+1+j by omega]
    exact h1
   ·simp only [mput,hc',List.map_cons,List.set_cons_succ,h2 w]
    simp
theorem Qr1 {n:Int} {w:α}:∀(l:List (Int × α)),Y4 l n=none→l.map (Jb kk enc)++[Jb kk enc (n,w)]=(mput l n w).map (Jb kk enc)
 | [],_=>rfl
 | p::r,h=>by
  unfold Y4 at h
  split at h
  ·cases h
  ·rename_i hc
   have hc':(n==p.1)=false:=by simpa using hc
   simp only [mput,hc',List.map_cons,List.cons_append,Qr1 r h]
   simp
end
section
variable {P:Program} {rd:Option Nat} {base:Nat} {ops:Array Oper} {d:Option (List Sk)} {st S:St} {Φ:AOut→Prop} {i:Nat}
theorem Qht {P:Program} {nf:Bool} {C:FuncId→List AV→Option Xd} {σ:Sto} {fr:Nat} {s:Slots} {o:Oper} {r:Res}:(Zu P nf C σ fr s o=some (.val r))=(evalOp P nf C σ fr s o=some (.val r)):=by
 apply propext
 unfold Zu
 split
 ·exact Iff.rfl
 ·cases evalOp P nf C σ fr s o with
  | none=>exact Iff.rfl
  | some y=>cases y <;> simp [Xk]
noncomputable def Qt7 (P:Program) (ops:Array Oper) (i:Nat) (st:St):Option (Nat × AV × Bool × AV) :=
 match Z9 ops i st with
 | some o=>match o.op with
  | .lookup t x ix c=>match ti P t,evo (lk st.slots) x,evo (lk st.slots) ix with
   | some T,some (.mp ob),some k=>match T.kind with
    | .map kt et=>match Kp P kt,(ti P et).bind (·.zero) with
     | some .int,some z=>some (ob,k,c,z)
     | _,_=>none
    | _=>none
   | _,_,_=>none
  | _=>none
 | none=>none
noncomputable def Qud (P:Program) (ops:Array Oper) (i:Nat) (st:St):Option (Nat × AV × AV) :=
 match Z9 ops i st with
 | some o=>match o.op with
  | .mapUpdate t m x y | .insert t m x y=>match ti P t,evo (lk st.slots) m,evo (lk st.slots) x,evo (lk st.slots) y with
   | some T,some (.mp ob),some k,some v=>match T.kind with
    | .map kt _=>match Kp P kt with
     | some .int=>some (ob,k,v)
     | _=>none
    | _=>none
   | _,_,_,_=>none
  | _=>none
 | none=>none
theorem Q0l {α:Type} {enc:α→AV} {kk:IntKind} {l:List (Int × α)} {n:Int} {z:α} {ob:Nat} {c:Bool} (hi:Qt7 P ops i st=some (ob,.int kk n,c,enc z)) (hrow:st.sto ob=some (mapI kk enc l)) (hok:∀v,(enc v).okv=true)
  (hS:Zz ops i st (some (if c then .tup [enc ((Y4 l n).getD z),.bool (Y4 l n).isSome] else enc ((Y4 l n).getD z))) []=some S) (k:RW P rd base ops (Qz d [([],[ob])]) (i+1) S Φ):RW P rd base ops d i st Φ:=by
 unfold Qt7 at hi
 split at hi
 ·rename_i o ho
  split at hi
  ·rename_i t x ix c' hop
   split at hi
   ·rename_i T ob' k' hT hx hix
    split at hi
    ·rename_i kt et hkind
     split at hi
     ·rename_i z' hsk hz
      cases hi
      refine Vv (nf:=false) (v:=some (if c then .tup [enc ((Y4 l n).getD z),.bool (Y4 l n).isSome] else enc ((Y4 l n).getD z))) (eff:=[]) (fr:=st.objs.length) (rds:=[ob]) ho ?_ hS (Xn hS) k
      rw [Qht]
      simp only [evalOp,hop]
      unfold Qfh
      have hes:(st.sto ob).bind Qfs=some (l.map (Jb kk enc)):=by rw [hrow]; exact Qo9 _
      simp only [hT,hx,hix,hkind,hes,Qez hsk,hz]
      cases hg:Y4 l n with
      | none =>
       rw [Qkl hsk l 0 hg]
       simp only [hok,if_true,Option.getD_none,Option.isSome_none]
      | some v =>
       obtain ⟨j,h1,_⟩:=Qjr (enc:=enc) (kk:=kk) hsk l 0 hg
       rw [h1]
       simp only [hok,if_true,Option.getD_some,Option.isSome_some]
     ·cases hi
    ·cases hi
   ·cases hi
  ·cases hi
 ·cases hi
theorem Qzr {α:Type} {enc:α→AV} {kk:IntKind} {l:List (Int × α)} {n:Int} {v:α} {ob:Nat} (hi:Qud P ops i st=some (ob,.int kk n,enc v)) (hrow:st.sto ob=some (mapI kk enc l))
  (hS:Zz ops i st none [(ob,mapI kk enc (mput l n v))]=some S) (hl:Nat.beq S.objs.length st.objs.length=true) (k:RW P rd base ops (Qz d [([ob],[ob])]) (i+1) S Φ):RW P rd base ops d i st Φ:=by
 have main:∃o,Z9 ops i st=some o∧Zu P false noC st.sto st.objs.length (lk st.slots) o=some (.val ⟨none,[(ob,mapI kk enc (mput l n v))],st.objs.length,[ob]⟩):=by
  unfold Qud at hi
  split at hi
  ·rename_i o ho
   have step:∀(t:TypeId) (m x y:Operand),(o.op=.mapUpdate t m x y∨o.op=.insert t m x y)→(match ti P t,evo (lk st.slots) m,evo (lk st.slots) x,evo (lk st.slots) y with
     | some T,some (.mp ob),some k,some v=>match T.kind with
      | .map kt _=>match Kp P kt with
       | some .int=>some (ob,k,v)
       | _=>none
      | _=>none
     | _,_,_,_=>none)=some (ob,AV.int kk n,enc v)→Zu P false noC st.sto st.objs.length (lk st.slots) o=some (.val ⟨none,[(ob,mapI kk enc (mput l n v))],st.objs.length,[ob]⟩):=fun t m x y hop hi=>by
    split at hi
    ·rename_i T ob' k' v' hT hm hx hy
     split at hi
     ·rename_i kt et hkind
      split at hi
      ·rename_i hsk
       cases hi
       rw [Qht]
       have hev:evalOp P false noC st.sto st.objs.length (lk st.slots) o=Qc5 P st.sto st.objs.length (lk st.slots) t m x y:=by
        rcases hop with hop | hop <;> simp only [evalOp,hop]
       rw [hev]
       unfold Qc5
       have hes:(st.sto ob).bind Qfs=some (l.map (Jb kk enc)):=by rw [hrow]; exact Qo9 _
       simp only [hT,hm,hx,hy,hkind,hes,Qez hsk]
       cases hg:Y4 l n with
       | none =>
        rw [Qkl hsk l 0 hg]
        simp only
        rw [show (AV.int kk n,enc v)=Jb kk enc (n,v) from rfl,Qr1 l hg]
        rfl
       | some u =>
        obtain ⟨j,h1,h2⟩:=Qjr (enc:=enc) (kk:=kk) hsk l 0 hg
        rw [h1]
        simp only [Nat.zero_add]
        rw [show (AV.int kk n,enc v)=Jb kk enc (n,v) from rfl,h2]
        rfl
      ·cases hi
     ·cases hi
    ·cases hi
   refine ⟨o,ho,?_⟩
   split at hi
   ·rename_i t m x y hop; exact step t m x y (.inl hop) hi
   ·rename_i t m x y hop; exact step t m x y (.inr hop) hi
   ·cases hi
  ·cases hi
 obtain ⟨o,ho,he⟩:=main
 exact Vv ho he hS (Nat.eq_of_beq_eq_true hl) k
end
end Go.Ab
namespace Go.Ab
open Go.RowKit
section
variable {P:Program}
theorem Qxq {N:Nat} {α:Type} {kk:IntKind} {enc:α→AV} {l:List (Int × α)} (he:∀v,(enc v).ids=[]):Jd N (mapI kk enc l):=by
 show ∀p∈Z6 0 (l.map (Jb kk enc)),∀o∈p.2.ids,o < N
 have:∀(l:List (Int × α)) (i:Nat),∀p∈Z6 i (l.map (Jb kk enc)),p.2.ids=[]:=by
  intro l
  induction l with
  | nil=>intro i p hp; cases hp
  | cons x l ih =>
   intro i p hp
   simp only [List.map_cons,Jb,Z6,List.mem_cons] at hp
   rcases hp with rfl | rfl | hp
   ·rfl
   ·exact he _
   ·exact ih (i+2) p hp
 intro p hp o ho
 rw [this l 0 p hp] at ho
 cases ho
end
end Go.Ab
