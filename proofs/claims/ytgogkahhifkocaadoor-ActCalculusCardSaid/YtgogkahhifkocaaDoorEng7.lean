/- Rules. No conditions. -/
import Derived.Test.YtgogkahhifkocaaDoorEng6
import Derived.ChangeArms
import Derived.OpenShut
import Derived.WideKeyArgs
import Derived.Test.YtgogkahhifkocaaDoorEng5
import Derived.KernelRfl
set_option linter.all false
namespace Go.Ab
open Go.RowKit
theorem Qzs {M:CM} {ι:Inj} {v:Value} {fl:Bool} (h:Qa M ι v (.lst fl [])):Qa M ι v .nils\/Qa M ι v .emn:=by
 cases h with
 | lst0 a =>
  cases a with
  | none=>exact .inl .nils
  | some a=>exact .inr (.emn a 0)
 | lst b off cap=>exact .inr (.emn _ cap)
theorem Q0.nil {P:Program} {f:FuncId} {l1 l2:List AV} {fl:Bool} {out:Xf} (h1:Q0 P f (l1++.nils::l2) out) (h2:Q0 P f (l1++.emn::l2) out):Q0 P f (l1++.lst fl []::l2) out:=by
 intro W M vs hM hsz hr
 have hlt:l1.length < vs.size:=by simp at hsz; omega
 have h0:=hr l1.length vs[l1.length] (.lst fl []) (by simp [hlt]) (by simp)
 have other:∀y,Qa M noInj vs[l1.length] y->∀(j:Nat) (v:Value) (a:AV),vs[j]?=some v->(l1++y::l2)[j]?=some a->Qa M noInj v a:=by
  intro y hy j v a hv ha
  rcases Nat.lt_trichotomy j l1.length with c | c | c
  ·refine hr j v a hv ?_
   rw [aX c] at ha ⊢; exact ha
  ·subst c
   rw [aY (bA _)] at ha
   simp at ha; subst ha
   rw [aL hlt] at hv; cases hv; exact hy
  refine hr j v a hv ?_
  rw [aY (by omega)] at ha ⊢
  rw [show j - l1.length=(j - l1.length - 1)+1 by omega] at ha ⊢
  simpa using ha
 rcases Qzs h0 with e | e
 ·exact h1 W M vs hM (by simpa using hsz) (other _ e)
 exact h2 W M vs hM (by simpa using hsz) (other _ e)
section
variable {P:Program} {base:Nat} {st st':St}
end
theorem Q0.froz {P:Program} {f:FuncId} {args:List AV} {v y:AV} {objs:List AObj} {ids:List Nat} (h:Q0 P f args (.ret v objs)) (hs:Qq (fun k=>objs[k]?) Qn v=some (y,ids)):Q0 P f args (.ret y []):=by
 intro W M vs hM hsz hr
 refine (h W M vs hM hsz hr).mono fun e W' he=>?_
 obtain ⟨u,M',ι',rfl,hg,hrel,hout,hv⟩:=he
 refine ⟨u,_,noInj,rfl,hg.trans (hrel.growC ids),⟨hrel.size,hrel.below,hrel.defs,Qd5 hrel.agree,fun o bx nr fl w xs p k ho=>(by simp at ho),fun o bx ro nr fl w xs ho=>(by simp at ho),fun o fn sl ps as bd st pe ho=>(by simp at ho),fun o o' bx nr fl w xs bx' nr' fl' w' xs' p p' _ ho=>(by simp at ho),fun o o' fn sl ps as bd st pe fn' sl' ps' as' bd' st' pe' p p' _ ho=>(by simp at ho),fun o _=>.inl (by simp)⟩,fun _ _=>rfl,Vo hrel ids Qn v y ids u hs (fun k hk=>hk) hv⟩
section
variable {P:Program} {rd:Option Nat} {base:Nat} {ops:Array Oper} {st S:St} {Φ:AOut->Prop} {d:Option (List Sk)} {i:Nat}
def Zab (P:Program) (ops:Array Oper) (i:Nat) (st:St):Option (AV × AV × Nat) :=
 match Z5 ops i st with
 | some o=>match o.op with
  | .call { callee:=.builtin .copy,args,argTypes }=>match args.toList,argTypes.toList with
   | [x,y],t::_=>match ti P t,evo (lk st.slots) x,evo (lk st.slots) y with
    | some T,some a,some b=>match T.kind with
     | .slice e=>match ti P e with
      | some E=>some (a,b,E.size)
      | none=>none
     | _=>none
    | _,_,_=>none
   | _,_=>none
  | _=>none
 | none=>none
theorem Qgb {σ:Sto} {α:Type} {enc:α->AV} {l:List α} {w ob:Nat} {a b:Int} {ro nr fl:Bool} (hrow:σ ob=some (.row false ro nr fl w (l.map enc))) (hc:0<=a/\a<=b/\b<=(l.length:Int)) :
  Vk σ w (.ref ob a.toNat (b.toNat - a.toNat))=some ((sub l a b).map enc,nr,fl,[ob]):=by
 have h1:Nat.ble (a.toNat + (b.toNat - a.toNat)) (l.map enc).length=true:=Nat.ble_eq_true_of_le (by simp; omega)
 simp [Vk,hrow,sub]
 omega
def Qtt (agg:Bool) (w:Nat) (cs:List AV):Option AV:=if agg then (if w<=cs.length then some (.agg (cs.take w)) else none) else cs.head?
def Qrt (P:Program) (ops:Array Oper) (i:Nat) (st:St):Option (List AV × Int × Nat × Nat × Bool) :=
 match Z5 ops i st with
 | some o=>match o.op with
  | .index t x ix=>match ti P t,evo (lk st.slots) x,evo (lk st.slots) ix with
   | some T,some (.agg cs),some (.int _ n)=>match T.kind with
    | .array len e=>match ti P e with
     | some E=>some (cs,n,len,E.size,E.agg)
     | none=>none
    | _=>none
   | _,_,_=>none
  | _=>none
 | none=>none
theorem Qv9 {cs:List AV} {n:Int} {len w:Nat} {g:Bool} (h:Qrt P ops i st=some (cs,n,len,w,g)):∃o,Z5 ops i st=some o /\
  ∀v,0<=n->n.toNat < len->Qtt g w (cs.drop (n.toNat * w))=some v->Zj P false noC st.sto st.objs.length (lk st.slots) o=some (.val ⟨some v,[],st.objs.length,[]⟩):=by
 unfold Qrt at h
 split at h
 ·rename_i o ho
  split at h
  ·rename_i t x ix hop
   split at h
   ·rename_i T cs' k n' hT hx hix
    split at h
    ·rename_i len' e hk
     split at h
     ·rename_i E hE
      cases h
      refine ⟨o,ho,fun v h1 h2 hv=>?_⟩
      have hneg:¬ n < 0:=by omega
      unfold Zj
      rw [hop]
      simp only [Zv,aU,eO]
      unfold evalOp
      rw [hop]
      have hv':Qaf E (cs.drop (n.toNat * E.size))=some v:=hv
      simp only [hT,hx,hix,hk,asN,hneg,eO,hE,blt_true h2,eP,hv',Zq,bM,Zl]
     ·cases h
    ·cases h
   ·cases h
  ·cases h
 ·cases h
theorem Qs3 {α:Type} {enc:α->AV} {w:Nat} (hw:∀x,Nat.beq (enc x).flat.length w=true):∀(l:List α) (j:Nat) (a:α),l[j]?=some a->∃r,(l.flatMap fun x=>(enc x).flat).drop (j*w)=(enc a).flat ++ r
 | [],j,a,h=>by simp at h
 | x::xs,0,a,h=>by
  simp at h; subst h
  exact ⟨_,by simp [List.flatMap_cons]; rfl⟩
 | x::xs,j+1,a,h=>by
  obtain ⟨r,hr⟩:=Qs3 hw xs j a (by simpa using h)
  refine ⟨r,?_⟩
  rw [List.flatMap_cons,List.drop_append,aJ (hw x),List.drop_of_length_le (by rw [aJ (hw x),dW]; omega),cX,show (j+1)*w - w=j*w by rw [dW]; omega]
  exact hr
theorem Q2f {g:Bool} {w:Nat} {cs r:List AV} {v:AV} (hl:cs.length=w) (h:Qtt g w cs=some v) (hne:cs≠[]):Qtt g w (cs++r)=some v:=by
 subst hl
 cases g with
 | true =>
  have h:(if cs.length<=cs.length then some (AV.agg (cs.take cs.length)) else none)=some v:=h
  show (if cs.length<=(cs++r).length then some (AV.agg ((cs++r).take cs.length)) else none)=some v
  rw [aH (by simp),List.take_append_of_le_length (bA _)]
  rw [aH (bA _)] at h; exact h
 | false =>
  cases cs with
  | nil=>exact absurd rfl hne
  | cons c cs=>exact h
theorem Q7n {α:Type} {enc:α->AV} {l:List α} {n:Int} {a:α} {w:Nat} {g:Bool} {v:AV} (hi:Qrt P ops i st=some (l.flatMap (fun x=>(enc x).flat),n,l.length,w,g)) (hw:∀x,Nat.beq (enc x).flat.length w=true) (h0:Nat.blt 0 w=true)
  (ha:lkI l n=some a) (hv:Qtt g w (enc a).flat = some v) (hS:Zr ops i st (some v) []=some S) (k:RW P rd base ops (Q6 d [([],[])]) (i+1) S Φ):RW P rd base ops d i st Φ:=by
 obtain ⟨h1,h2,h3⟩:=Jh ha
 obtain ⟨o,ho,hev⟩:=Qv9 hi
 obtain ⟨r,hr⟩:=Qs3 hw l _ a h3
 have hl:=aJ (hw a)
 refine Y6 ho (hev v h1 h2 ?_) hS (Z7 hS) k
 rw [hr]
 exact Q2f hl hv (fun e=>by rw [e] at hl; simp at hl; rw [<-hl] at h0; cases h0)
end
end Go.Ab
namespace Go.Ab
open Go.RowKit
inductive Sh where
 | int (k:IntKind)
 | bool
 | str
 | slice (fl ag:Bool) (w:Nat) (e:Sh)
 | cat (a b:Sh)
 | unit
def Sh.scal:Sh->Bool
 | .slice ..=>false
 | .cat a b=>a.scal && b.scal
 | _=>true
def Sh.width:Sh->Nat
 | .cat a b=>a.width+b.width
 | .unit=>0
 | _=>1
def WT:Sh->List AV->Prop
 | .int k,cs=>∃n,cs=[.int k n]/\(Lit.int k n).wf=true
 | .bool,cs=>∃b,cs=[.bool b]
 | .str,cs=>∃s,cs=[.str s]/\s.size<=maxLen
 | .slice fl ag w e,cs=>∃xs,cs=[.lst fl xs]/\xs.length<=maxLen/\∀x∈xs,WT e x.flat /\ (if ag then x=.agg x.flat else x.cell=true)
 | .cat a b,cs=>∃x y,cs=x++y/\WT a x/\WT b y
 | .unit,cs=>cs=[]
def Qjo (P:Program) (t:TypeId):Bool:=match P.underlying t with | some (.struct _)=>true | some (.array _ _)=>true | _=>false
def Qyi (s:Sh):Nat -> Sh
 | 0=>.unit
 | n+1=>.cat s (Qyi s n)
def Qkw (P:Program) (rec:TypeId->Option Sh):List Field->Nat -> Option Sh
 | [],_=>some .unit
 | f::r,o=>match rec f.type with
  | some s=>if Nat.beq f.offset o && Nat.beq s.width (P.cellsOf f.type) then (match Qkw P rec r (o+s.width) with | some q=>some (.cat s q) | none=>none) else none
  | none=>none
def Qk4 (P:Program):Nat -> TypeId->Option Sh
 | 0,_=>none
 | n+1,t=>match P.underlying t with
  | some .bool=>some .bool
  | some (.int k)=>some (.int k)
  | some .string=>some .str
  | some (.slice e)=>match Qk4 P n e with
   | some s=>if Nat.beq s.width (P.cellsOf e) && Nat.blt 0 (P.cellsOf e) && (Qjo P e || Nat.beq s.width 1) then some (.slice s.scal (Qjo P e) (P.cellsOf e) s) else none
   | none=>none
  | some (.struct fs)=>match Qkw P (Qk4 P n) fs.toList 0 with
   | some s=>if Nat.beq s.width (P.cellsOf t) then some s else none
   | none=>none
  | some (.array m e)=>match Qk4 P n e with
   | some s=>if Nat.beq s.width (P.cellsOf e) && Nat.beq (m*s.width) (P.cellsOf t) then some (Qyi s m) else none
   | none=>none
  | _=>none
theorem Qvo:∀{s:Sh} {cs:List AV},WT s cs->cs.length=s.width
 | .int k,cs,h=>by obtain ⟨n,rfl,_⟩:=h; rfl
 | .bool,cs,h=>by obtain ⟨n,rfl⟩:=h; rfl
 | .str,cs,h=>by obtain ⟨n,rfl,_⟩:=h; rfl
 | .slice _ _ _ _,cs,h=>by obtain ⟨n,rfl,_⟩:=h; rfl
 | .cat a b,cs,h=>by obtain ⟨x,y,rfl,h1,h2⟩:=h; simp [Sh.width,Qvo h1,Qvo h2]
 | .unit,cs,h=>by cases h; rfl
theorem Qq7:∀{s:Sh} {cs:List AV},WT s cs->s.scal=true->cs.all AV.sc=true
 | .int k,cs,h,_=>by obtain ⟨n,rfl,_⟩:=h; rfl
 | .bool,cs,h,_=>by obtain ⟨n,rfl⟩:=h; rfl
 | .str,cs,h,_=>by obtain ⟨n,rfl,_⟩:=h; rfl
 | .slice _ _ _ _,cs,h,hs=>by cases hs
 | .cat a b,cs,h,hs=>by
  obtain ⟨x,y,rfl,h1,h2⟩:=h
  simp only [Sh.scal,aE] at hs
  rw [List.all_append,Qq7 h1 hs.1,Qq7 h2 hs.2]; rfl
 | .unit,cs,h,_=>by cases h; rfl
def Qb0 (M:CM) (cs:List Value) (avs:List AV):Prop:=avs.length=cs.length/\∀(j:Nat) (v:Value) (y:AV),cs[j]?=some v->avs[j]?=some y->Qa M noInj v y/\y.cell=true
theorem Qa1 {M:CM} {v:Value} {y:AV} (h:Qa M noInj v y) (hc:y.cell=true):Qb0 M [v] [y]:=by
 refine ⟨rfl,fun j v' y' h1 h2=>?_⟩
 cases j with
 | zero=>cases h1; cases h2; exact ⟨h,hc⟩
 | succ j=>simp at h1
theorem Qjd {M:CM} {a b:List Value} {x y:List AV} (h1:Qb0 M a x) (h2:Qb0 M b y):Qb0 M (a++b) (x++y):=by
 refine ⟨by simp [h1.1,h2.1],fun j v z hv hz=>?_⟩
 rcases bB j a.length with hj | hj
 ·rw [aX hj] at hv
  rw [aX (by rw [h1.1]; exact hj)] at hz
  exact h1.2 j v z hv hz
 rw [aY hj] at hv
 rw [aY (by rw [h1.1]; exact hj),h1.1] at hz
 exact h2.2 _ v z hv hz
theorem Qw1 {α:Type} {n:Nat} {Q:Nat -> α->Prop} (h:∀i,i < n->∃x,Q i x):∃xs:List α,xs.length=n/\∀i x,xs[i]?=some x->Q i x:=by
 induction n with
 | zero=>exact ⟨[],rfl,fun i x hx=>by simp at hx⟩
 | succ n ih =>
  obtain ⟨xs,h1,h2⟩:=ih fun i hi=>h i (by omega)
  obtain ⟨x,hx⟩:=h n (by omega)
  refine ⟨xs++[x],by simp [h1],fun i y hy=>?_⟩
  rcases bB i xs.length with hi | hi
  ·rw [aX hi] at hy; exact h2 i y hy
  rw [aY hi] at hy
  cases hk:i - xs.length with
  | zero =>
   rw [hk] at hy
   cases hy
   rw [show i=n by omega]; exact hx
  | succ k=>rw [hk] at hy; simp at hy
def Qcp (w:World) (hg:GlobIn w):CM:=⟨fun b o=>w.cell? ⟨b,o,none⟩,hg,fun _=>none,fun _ _=>none⟩
theorem Q36 {w:World} {hg:GlobIn w} {b o:Nat}:Qcp w hg b o=w.cell? ⟨b,o,none⟩:=rfl
theorem Qsz {α β:Type} {f:α->Option β}:∀{l:List α} {r:List β},l.mapM f=some r->r.length=l.length/\∀(i:Nat) (a:α),l[i]?=some a->f a=r[i]?
 | [],r,h=>by simp at h; subst h; simp
 | a::l,r,h=>by
  simp only [List.mapM_cons,Option.pure_def,Option.bind_eq_bind,bU] at h
  obtain ⟨b,hb,bs,hbs,h⟩:=h
  cases h
  obtain ⟨h1,h2⟩:=Qsz hbs
  refine ⟨by simp [h1],fun i x hx=>?_⟩
  cases i with
  | zero=>cases hx; simpa using hb
  | succ i=>simpa using h2 i x (by simpa using hx)
theorem Qug {w:World} {base:Nat} {a:Addr} {n:Nat} {row:List Value} (h:w.cells? base a n=some row):row.length=n/\∀i,i < n->w.cell? (a.add i)=row[i]?:=by
 unfold World.cells? at h
 split at h
 ·obtain ⟨h1,h2⟩:=Qsz h
  refine ⟨by simpa using h1,fun i hi=>h2 i i (by simp [hi])⟩
 cases h
theorem Q2j {w:World} {a:Addr} {v:Value} (h:w.cell? a=some v):a.spot=none:=by
 unfold World.cell? at h
 cases hs:a.spot with
 | none=>rfl
 | some s =>
  simp only [hs] at h
  split at h <;> simp at h
theorem Ql4 (a:Addr):a.add 0=a:=by simp [Addr.add]
theorem Qv2 (b off k:Nat):(⟨b,off,none⟩:Addr).add k=⟨b,off+k,none⟩:=by
 unfold Addr.add
 split
 ·rename_i h; subst h; rfl
 rfl
section
variable {H:Type} {enc:TypeId × Value->H} {P:Program} {w:World} {base:Nat} {hg:GlobIn w}
theorem Qp2 {cs:List Value} {m:Nat} {rec:TypeId->Option Sh} (ih:∀(t:TypeId) (s:Sh),rec t=some s->∀(cs:List Value) (x:DataW H × List MemPlace),DataW.trod enc P w base (fun _=>true) true m t cs=some x->∃avs,Qb0 (Qcp w hg) cs avs/\WT s avs) :
  ∀(l:List Field) (o:Nat) (s:Sh),Qkw P rec l o=some s->(∀f∈l,∃x,DataW.trod enc P w base (fun _=>true) true m f.type ((cs.drop f.offset).take (P.cellsOf f.type))=some x)->∃avs,Qb0 (Qcp w hg) ((cs.drop o).take s.width) avs/\WT s avs
 | [],o,s,h,_=>by
  cases h
  exact ⟨[],⟨by simp [Sh.width],fun j v y h1 h2=>by simp at h2⟩,rfl⟩
 | f::l,o,s,h,hf=>by
  unfold Qkw at h
  split at h
  rotate_left
  ·cases h
  rename_i s1 hs1
  split at h
  rotate_left
  ·cases h
  rename_i hc
  split at h
  rotate_left
  ·cases h
  rename_i q hq
  cases h
  simp only [aE] at hc
  have h1:=aJ hc.1
  have h2:=aJ hc.2
  obtain ⟨x,hx⟩:=hf f (by simp)
  rw [h1,<-h2] at hx
  obtain ⟨a1,c1,w1⟩:=ih _ _ hs1 _ _ hx
  obtain ⟨a2,c2,w2⟩:=Qp2 ih l (o+s1.width) q hq (fun g hg=>hf g (by simp [hg]))
  refine ⟨a1++a2,?_,a1,a2,rfl,w1,w2⟩
  have e:(cs.drop o).take (s1.width+q.width)=(cs.drop o).take s1.width++(cs.drop (o+s1.width)).take q.width:=by
   rw [List.take_add,List.drop_drop]
  simp only [Sh.width]
  rw [e]
  exact Qjd c1 c2
theorem Qx7 {cs:List Value} {M:CM} {s:Sh} {n:Nat} (h:∀i,i < n->∃avs,Qb0 M ((cs.drop (i*s.width)).take s.width) avs/\WT s avs):∀(k o:Nat),o+k=n->∃avs,Qb0 M ((cs.drop (o*s.width)).take (k*s.width)) avs/\WT (Qyi s k) avs
 | 0,o,_=>⟨[],⟨by simp,fun j v y h1 h2=>by simp at h2⟩,rfl⟩
 | k+1,o,hk=>by
  obtain ⟨a1,c1,w1⟩:=h o (by omega)
  obtain ⟨a2,c2,w2⟩:=Qx7 h k (o+1) (by omega)
  refine ⟨a1++a2,?_,a1,a2,rfl,w1,w2⟩
  have e:(cs.drop (o*s.width)).take ((k+1)*s.width)=(cs.drop (o*s.width)).take s.width++(cs.drop ((o+1)*s.width)).take (k*s.width):=by
   rw [dW k,cK,List.take_add,List.drop_drop,dW o]
  rw [e]
  exact Qjd c1 c2
theorem Qwe (cs:List AV):(AV.agg cs).flat = cs:=rfl
theorem Qg0:∀(n:Nat) (t:TypeId) (s:Sh),Qk4 P n t=some s->∀(m:Nat) (cs:List Value) (x:DataW H × List MemPlace),DataW.trod enc P w base (fun _=>true) true m t cs=some x->∃avs,Qb0 (Qcp w hg) cs avs/\WT s avs
 | 0,t,s,h=>by simp [Qk4] at h
 | n+1,t,s,h=>by
  intro m cs x hx
  unfold Qk4 at h
  split at h
  ·rename_i ht
   cases h
   obtain ⟨b,rfl,_⟩:=DataW.trod_bool ht hx
   exact ⟨[.bool b],Qa1 (.bool b) rfl,b,rfl⟩
  ·rename_i k ht
   cases h
   obtain ⟨z,rfl,_,hw⟩:=DataW.trod_int ht hx
   exact ⟨[.int k z],Qa1 (.int k z) rfl,z,rfl,hw⟩
  ·rename_i ht
   cases h
   obtain ⟨z,rfl,_,hw⟩:=DataW.trod_string ht hx
   exact ⟨[.str z],Qa1 (.str z) rfl,z,rfl,hw⟩
  ·rename_i e ht
   split at h
   rotate_left
   ·cases h
   rename_i s1 hs1
   split at h
   rotate_left
   ·cases h
   rename_i hc
   cases h
   simp only [aE,aM] at hc
   obtain ⟨⟨hw,hpos⟩,hag⟩:=hc
   have hw:=aJ hw
   have hpos:0 < P.cellsOf e:=by simpa using hpos
   rcases DataW.trod_slice ht hx with ⟨rfl,_⟩ | ⟨a,len,cap,elems,rest,n',_,rfl,_,hb,hl,hm,hlen,hel,hsp,_⟩
   ·exact ⟨[.lst s1.scal []],Qa1 (.lst0 none _) rfl,[],rfl,by simp,fun x hx=>by cases hx⟩
   have hsp:=hsp rfl
   have hspot:0 < cap->a.spot=none:=fun hcap=>by
    have key:∃row,w.cells? base a (P.cellsOf e)=some row:=by
     rcases eG len with h0 | h0
     ·have:=hsp.2 0 (by omega)
      rw [aG (by omega)] at this
      obtain ⟨row,h1,_⟩:=bU.1 this
      rw [h0,eN,Nat.zero_mul,Ql4] at h1
      exact ⟨row,h1⟩
     have:=hel 0 h0
     rw [aG (by omega)] at this
     obtain ⟨row,h1,_⟩:=bU.1 this
     rw [Nat.zero_mul,Ql4] at h1
     exact ⟨row,h1⟩
    obtain ⟨row,hk⟩:=key
    obtain ⟨h1,h2⟩:=Qug hk
    have h3:=h2 0 hpos
    rw [aG (by omega),Ql4] at h3
    exact Q2j h3
   rcases eG cap with h0 | h0
   ·have hl0:len=0:=by omega
    subst h0; subst hl0
    exact ⟨[.lst s1.scal []],Qa1 (.lst0 _ _) rfl,[],rfl,by simp,fun x hx=>by cases hx⟩
   have hspot:=hspot h0
   obtain ⟨blk,off,spot⟩:=a
   simp only at hspot
   subst hspot
   have each:∀i,i < len->∃z:AV,z.shaped (P.cellsOf e)/\WT s1 z.flat /\ (if Qjo P e then z=.agg z.flat else z.cell=true)/\∀(j:Nat) (y:AV),z.flat[j]?=some y->∃v,w.cell? ⟨blk,off+i*P.cellsOf e+j,none⟩=some v/\Qa (Qcp w hg) noInj v y:=by
    intro i hi
    have h1:=hel i hi
    rw [aG (by omega)] at h1
    obtain ⟨row,h2,h3⟩:=bU.1 h1
    obtain ⟨avs,c1,w1⟩:=Qg0 n e s1 hs1 _ _ _ h3
    obtain ⟨g1,g2⟩:=Qug h2
    have hlen':=Qvo w1
    have cellv:∀(j:Nat) (y:AV),avs[j]?=some y->∃v,w.cell? ⟨blk,off+i*P.cellsOf e+j,none⟩=some v/\Qa (Qcp w hg) noInj v y/\y.cell=true:=fun j y hy=>by
     have hj:=(aD.1 hy).1
     have h5:=g2 j (by omega)
     have h6:row[j]?=some row[j]:=aG (by rw [<-c1.1]; exact hj)
     rw [h6] at h5
     refine ⟨_,?_,c1.2 j _ y h6 hy⟩
     rw [Qv2,Qv2] at h5
     exact h5
    by_cases ha:Qjo P e=true
    ·refine ⟨.agg avs,⟨.inl rfl,by rw [Qwe]; omega,fun y hy=>?_⟩,w1,by rw [aH ha]; rfl,fun j y hy=>?_⟩
     ·rw [Qwe] at hy
      obtain ⟨j,hj⟩:=bT.1 hy
      obtain ⟨_,_,_,h⟩:=cellv j y hj
      exact h
     obtain ⟨v,h1,h2,_⟩:=cellv j y hy
     exact ⟨v,h1,h2⟩
    have h1:s1.width=1:=by
     rcases hag with h | h
     ·exact absurd h ha
     exact aJ h
    obtain ⟨z,rfl⟩:∃z,avs=[z]:=by
     match avs,hlen' with
     | [z],_=>exact ⟨z,rfl⟩
     | [],h=>simp [h1] at h
     | _::_::_,h=>simp [h1] at h
    obtain ⟨v,hv,hr,hcell⟩:=cellv 0 z rfl
    have hflat : z.flat = [z]:=by cases z <;> simp_all [AV.flat,AV.cell]
    refine ⟨z,⟨.inr hcell,by rw [hflat]; simp; omega,fun y hy=>by rw [hflat] at hy; simp at hy; rw [hy]; exact hcell⟩,by rw [hflat]; exact w1,by rw [aI ha]; exact hcell,fun j y hy=>?_⟩
    rw [hflat] at hy
    cases j with
    | zero=>cases hy; exact ⟨v,by simpa using hv,hr⟩
    | succ j=>simp at hy
   obtain ⟨xs,hxl,hxs⟩:=Qw1 each
   refine ⟨[.lst s1.scal xs],Qa1 ?_ rfl,xs,rfl,by omega,fun z hz=>?_⟩
   ·have:=Qa.lst (M:=Qcp w hg) (ι:=noInj) blk off cap (P.cellsOf e) s1.scal xs (fun i j=>(w.cell? ⟨blk,off+i*P.cellsOf e+j,none⟩).getD default) (by omega)
     (fun hfl z hz=>by
      obtain ⟨i,hi⟩:=bT.1 hz
      exact Qq7 (hxs i z hi).2.1 hfl)
     (fun z hz=>by
      obtain ⟨i,hi⟩:=bT.1 hz
      exact (hxs i z hi).1)
     (fun i j z y hz hy=>by
      obtain ⟨v,h1,h2⟩:=(hxs i z hz).2.2.2 j y hy
      simp only [Q36]
      rw [h1]; rfl)
     (fun i j z y hz hy=>by
      obtain ⟨v,h1,h2⟩:=(hxs i z hz).2.2.2 j y hy
      rw [h1]; exact h2)
    rwa [hxl] at this
   obtain ⟨i,hi⟩:=bT.1 hz
   exact ⟨(hxs i z hi).2.1,(hxs i z hi).2.2.1⟩
  ·rename_i fs ht
   split at h
   rotate_left
   ·cases h
   rename_i s1 hs1
   split at h
   rotate_left
   ·cases h
   rename_i hw
   cases h
   have hw:=aJ hw
   obtain ⟨xs,n',_,_,hl,hxs,hf⟩:=DataW.trod_struct ht hx
   obtain ⟨avs,c1,w1⟩:=Qp2 (cs:=cs) (m:=n') (rec:=Qk4 P n) (fun t s hs cs x hx=>Qg0 n t s hs _ _ _ hx) fs.toList 0 s hs1 (fun f hf'=>by
    obtain ⟨i,hi⟩:=bT.1 hf'
    have h1:=hf i f (by simpa using hi)
    have hi':=(aD.1 hi).1
    rw [aG (by rw [hxs]; simpa using hi')] at h1
    exact ⟨_,h1⟩)
   refine ⟨avs,?_,w1⟩
   rw [List.drop_zero,List.take_of_length_le (by omega)] at c1
   exact c1
  ·rename_i m0 e ht
   split at h
   rotate_left
   ·cases h
   rename_i s1 hs1
   split at h
   rotate_left
   ·cases h
   rename_i hw
   cases h
   simp only [aE] at hw
   have h1:=aJ hw.1
   have h2:=aJ hw.2
   obtain ⟨xs,n',_,_,hl,hxs,hf⟩:=DataW.trod_array ht hx
   obtain ⟨avs,c1,w1⟩:=Qx7 (cs:=cs) (M:=Qcp w hg) (s:=s1) (n:=m0) (fun i hi=>by
    have h3:=hf i hi
    rw [aG (by omega),<-h1] at h3
    exact Qg0 n e s1 hs1 _ _ _ h3) m0 0 (by omega)
   refine ⟨avs,?_,w1⟩
   rw [Nat.zero_mul,List.drop_zero,List.take_of_length_le (by omega)] at c1
   exact c1
  cases h
theorem arg_struct {t:TypeId} {s:Sh} {v:Value} {d:DataW H} {ps:List MemPlace} {b0:Nat} (n:Nat) (hs:Qk4 P n t=some s) (ha:Qjo P t=true) (hok:Value.okWide P w .any b0 t v)
  (h:DataW.Trod enc P w base (fun _=>true) true t v d ps):∃avs,Qa (Qcp w hg) noInj v (.agg avs)/\WT s avs:=by
 obtain ⟨m,hm⟩:=h
 obtain ⟨avs,c1,w1⟩:=Qg0 n t s hs m _ _ hm
 have hv:∃cs,v=.agg cs:=by
  unfold Qjo at ha
  unfold Value.okWide at hok
  split at ha
  ·rename_i fs hfs
   rw [hfs] at hok
   obtain ⟨cs,h1,_⟩:=hok
   exact ⟨cs,h1⟩
  ·rename_i m0 e hfs
   rw [hfs] at hok
   obtain ⟨cs,h1,_⟩:=hok
   exact ⟨cs,h1⟩
  cases ha
 obtain ⟨cs,rfl⟩:=hv
 refine ⟨avs,.agg cs avs (by simpa [Value.cells] using c1.1.symm) (fun y hy=>?_) (fun j u y hu hy=>?_),w1⟩
 ·obtain ⟨j,hj⟩:=bT.1 hy
  have hj':=(aD.1 hj).1
  rw [c1.1] at hj'
  exact (c1.2 j _ y (aG hj') hj).2
 ·exact (c1.2 j u y (by simpa [Value.cells] using hu) hy).1
end
theorem sameAt_of {W W':World} (h:∀b,b < W.heap.size->W'.heap[b]?=W.heap[b]?) {p:MemPlace} (hp:p.block < W.heap.size):W.sameAt W' p:=by
 cases p with
 | cell b off =>
  show W'.cell? ⟨b,off,none⟩=W.cell? ⟨b,off,none⟩
  unfold World.cell?
  rw [h b hp]
 | map b=>exact h b hp
theorem calls_args {P:Program} {f:FuncId} {args:List AV} {b:Bool} (h:Q0 P f args (.ret (.bool b) [])) {W:World} {hg:GlobIn W} {vs:Array Value} (hl:vs.size=args.length)
  (hr:∀(j:Nat) (v:Value) (a:AV),vs[j]?=some v->args[j]?=some a->Qa (Qcp W hg) noInj v a):Calls P f vs W fun e W'=>e=.returned (.bool b)/\Below W.heap.size W W'/\∀b,b < W.heap.size->W'.heap[b]?=W.heap[b]?:=by
 refine (h W (Qcp W hg) vs ⟨fun _ _ _ h=>h,fun b x h=>(by cases h),fun b o v h=>(by cases h)⟩ hl hr).mono fun e W' he=>?_
 obtain ⟨v,M',ι',he,_,hrel,_,hv⟩:=he
 cases hv
 exact ⟨he,hrel.below.toBelow,fun b hb=>hrel.below.block b hb⟩
theorem Qz7 {x:AV} (h:x.cell=true):x.flat = [x]:=by cases x <;> simp_all [AV.flat,AV.cell]
theorem Qt3 {α:Type} {enc:α->AV} {R:α->Prop} {xs:List AV} (h:∀x∈xs,∃a,x=enc a/\R a):∃l:List α,xs=l.map enc/\∀a∈l,R a:=by
 induction xs with
 | nil=>exact ⟨[],rfl,fun n hn=>by cases hn⟩
 | cons x xs ih =>
  obtain ⟨l,rfl,hl⟩:=ih fun y hy=>h y (by simp [hy])
  obtain ⟨a,rfl,ha⟩:=h x (by simp)
  refine ⟨a::l,rfl,fun m hm=>?_⟩
  rcases cF.1 hm with rfl | hm
  ·exact ha
  exact hl m hm
end Go.Ab
namespace Go.Ab
open Go.RowKit
def Qxl (P:Program) (t:TypeId):Bool:=match P.underlying t with | some (.int _)=>true | some .bool=>true | some .string=>true | some (.slice _)=>true | _=>false
section
variable {H:Type} {enc:TypeId × Value->H} {P:Program} {w:World} {base:Nat} {hg:GlobIn w}
theorem arg_cell {t:TypeId} {s:Sh} {v:Value} {d:DataW H} {ps:List MemPlace} {b0:Nat} (n:Nat) (hs:Qk4 P n t=some s) (ha:Qxl P t=true) (hok:Value.okWide P w .any b0 t v)
  (h:DataW.Trod enc P w base (fun _=>true) true t v d ps):∃y,Qa (Qcp w hg) noInj v y/\WT s [y]:=by
 obtain ⟨m,hm⟩:=h
 obtain ⟨avs,c1,w1⟩:=Qg0 n t s hs m _ _ hm
 have hv:v.cells=#[v]:=by
  cases v with
  | agg cs =>
   exfalso
   unfold Qxl at ha
   unfold Value.okWide at hok
   split at ha <;> (rename_i hu; first | (rw [hu] at hok; unfold Cell.okWide at hok; rw [hu] at hok; unfold Cell.ok at hok; rw [hu] at hok; exact hok) | cases ha)
  | _=>rfl
 rw [hv] at c1
 obtain ⟨h1,h2⟩:=c1
 simp at h1
 obtain ⟨y,rfl⟩:∃y,avs=[y]:=List.length_eq_one_iff.1 h1
 exact ⟨y,(h2 0 v y rfl rfl).1,w1⟩
end
end Go.Ab
namespace Go.Ab
section
variable {P:Program} {rd:Option Nat} {base:Nat} {ops:Array Oper} {st S:St} {Φ:AOut->Prop} {d:Option (List Sk)} {i:Nat} {c y:Code}
theorem rga {id:Nat} (hm:P.follows .mixedOrders=true) (h:RW P rd base ops (some []) 0 st Φ) (hB:Qrp ops=true:=by kernel_rfl):WP P rd base (.region id ops true) st Φ:=Q5x (by simp [hm]) (Qxw hB) h
def gt (o:Option St) (d:St):St:=match o with | some S=>S | none=>d
noncomputable def nx (P:Program) (ops:Array Oper) (k i:Nat) (st:St):St:=gt (Qpj P false ops k i st) st
noncomputable def lx (P:Program) (ops:Array Oper) (i:Nat) (st:St) (hv he:List LK) (b:Bool):St:=gt (Qyt P false ops i st hv he b) st
theorem Q11 {o:Option St} {d:St} (h:o.isSome=true):o=some (gt o d):=by
 cases o with
 | none=>cases h
 | some S=>rfl
theorem sz (k j:Nat) (hk:RW P rd base ops none j (nx P ops k i st) Φ) (h:(Qpj P false ops k i st).isSome=true:=by kernel_rfl) (hj:i+k=j:=by rfl):RW P rd base ops none i st Φ:=sg false k j (Q11 h) hj hk
theorem sl (nf:Bool) (hv he:List LK) (b:Bool) (hn:nf=false) (hk:RW P rd base ops (Q6 d [Qwa P nf ops i st]) (i+1) (lx P ops i st hv he b) Φ) (h:(Qyt P false ops i st hv he b).isSome=true:=by kernel_rfl):RW P rd base ops d i st Φ:=by
 subst hn; exact sgL false hv he b (Q11 h) hk
theorem kr {α:Sort _} {a b:α} (h:a=b:=by kernel_rfl):a=b:=h
def gt0 (o:Option St):St:=match o with | some S=>S | none=>⟨[],[],0⟩
theorem gE {o:Option St} (h:o.isSome=true:=by kernel_rfl):o=some (gt0 o):=by
 cases o with
 | none=>cases h
 | some S=>rfl
theorem gF {α:Type} {o:α->Option St} (h:∀x,(o x).isSome=true:=by (intro _; kernel_rfl)):∀x,o x=some (gt0 (o x)):=fun x=>gE (h x)
def Q5b (b:Bool):List Nat -> List (Nat × AV)->List (Nat × AV)
 | [],s=>s
 | t::ts,s=>Q5b b ts (setS s t (.bool b))
def pB (ts:List Nat) (b:Bool) (st:St):St:=⟨Q5b b ts st.slots,st.objs,st.nt⟩
def setLen (n:Nat):AV->AV
 | .ref o i _=>.ref o i n
 | .lin o i _=>.lin o i n
 | x=>x
def Q45 (n:Nat):List Nat -> List (Nat × AV)->List (Nat × AV)
 | [],s=>s
 | t::ts,s=>Q45 n ts (match lk s t with | some x=>setS s t (setLen n x) | none=>s)
def pL (ts:List Nat) (n:Nat) (st:St):St:=⟨Q45 n ts st.slots,st.objs,st.nt⟩
theorem rb (ts:List Nat) {R:Type} {b:Bool} {A B:Option R} {r:R} (h:(if b=true then A else B)=some r) (h1:b=true->A=some r->RW P rd base ops d i (pB ts true st) Φ) (h2:b=false->B=some r->RW P rd base ops d i (pB ts false st) Φ) (hS:st=pB ts b st:=by kernel_rfl):RW P rd base ops d i st Φ:=by
 rw [hS]; exact Q9g (S:=fun b=>pB ts b st) h h1 h2
theorem rk (ts:List Nat) {b c':Bool} (hb:b=c') (h:RW P rd base ops d i (pB ts c' st) Φ) (hS:st=pB ts b st:=by kernel_rfl):RW P rd base ops d i st Φ:=by rw [hS,hb]; exact h
theorem Q31 {n m:Nat} {S:Nat -> St} (hb:n=m) (h:RW P rd base ops d i (S m) Φ) (hS:st=S n:=by kernel_rfl):RW P rd base ops d i st Φ:=by rw [hS]; exact Q8o hb h
end
abbrev z1:List Int->AV:=eL true eI
abbrev z2:List (List Int)->AV:=eL false z1
abbrev zw:Int->Int:=IntKind.i64.wrap
abbrev zv:Int->Int:=IntKind.u64.wrap
abbrev zb:Int -> BitVec (IntKind.bits .u64):=BitVec.ofInt (IntKind.bits .u64)
abbrev zk:Nat:=IntKind.bits .u64
abbrev zp:Int×Int -> AV:=fun x=>.agg [vI x.1,vI x.2]
abbrev zq:Int×Int -> Int×Int -> Bool:=fun a b=>(a.1==b.1) && ((a.2==b.2) && true)
abbrev zt:Int->Nat := Int.toNat
abbrev zn {α:Type} (l:List α):Int:=(l.length:Int)
end Go.Ab
namespace Go.Ab
def Qbh {σ ρ:Type} (F:(σ->Option ρ)->σ->Option ρ):Nat -> σ->Option ρ
 | 0,_=>none
 | n+1,s=>F (Qbh F n) s
def Qge (P:Program) (N:Nat) (c:Code) {σ ρ:Type} (I:σ->St) (E:ρ->St) (d:σ->Option ρ):Prop :=
 ∀s x,d s=some x->WP P none N c (I s) (fun o=>o=.go .ret (E x)\/o=.go .normal (E x))
theorem Q02 {P:Program} {N:Nat} {c:Code} {σ ρ:Type} {I:σ->St} {E:ρ->St} {F:(σ->Option ρ)->σ->Option ρ}
  (step:∀d,Qge P N c I E d->∀s x,F d s=some x->WP P none N c (I s) (fun o=>o=.go .ret (E x)\/o=.go .normal (E x))):∀n,Qge P N c I E (Qbh F n)
 | 0=>fun s x h=>by cases h
 | n+1=>fun s x h=>step _ (Q02 step n) s x h
section
variable {P:Program} {rd:Option Nat} {base:Nat} {ops:Array Oper} {st:St} {Φ:AOut->Prop} {i:Nat}
theorem Q6u {σ ρ R:Type} {N:Nat} {c:Code} {I:σ->St} {E:ρ->St} {d:σ->Option ρ} {K:ρ->Option R} {r:R} {f:FuncId} {fn:Func} {as0:List AV} (s0:σ)
  (hi:Zs ops i st=some (f,as0)) (hf:P.funcs[f]?=some fn) (hb:fn.body=some c) (hn:(fn.name == "runtime.NumGoroutine")=false) (hle:Nat.ble as0.length fn.ntmps=true)
  (h0:(⟨Ja 0 as0,st.objs,fn.ntmps⟩:St)=I s0) (hN:st.objs.length=N) (IH:Qge P N c I E d) (h:(d s0).bind K=some r)
  (k:∀x,K x=some r->∃S,Qjk P fn ops i st (.go .ret (E x))=some S/\RW P rd base ops none (i+1) S Φ):RW P rd base ops none i st Φ:=by
 cases hx:d s0 with
 | none=>rw [hx] at h; cases h
 | some x =>
  rw [hx] at h
  refine Q65 hi hf hb hn hle ?_
  rw [h0,hN]
  obtain ⟨out,h1,h2⟩:=IH s0 x hx
  refine ⟨out,h1,?_⟩
  rcases h2 with rfl | rfl
  ·exact k x h
  obtain ⟨S,k1,k2⟩:=k x h
  exact ⟨S,by rw [<-k1]; rfl,k2⟩
end
section
variable {P:Program} {rd:Option Nat} {base:Nat} {ops:Array Oper} {st:St} {Φ:AOut->Prop} {i:Nat}
theorem Q92 {σ ρ R:Type} {N:Nat} {c:Code} {I:σ->St} {E:ρ->St} {F:(σ->Option ρ)->σ->Option ρ} {K:ρ->Option R} {r:R} {f:FuncId} {fn:Func} {as0:List AV} (s0:σ)
  (hi:Zs ops i st=some (f,as0)) (hf:P.funcs[f]?=some fn) (hb:fn.body=some c) (hn:(fn.name == "runtime.NumGoroutine")=false) (hle:Nat.ble as0.length fn.ntmps=true)
  (h0:(⟨Ja 0 as0,st.objs,fn.ntmps⟩:St)=I s0) (hN:st.objs.length=N) (h:(Qbh F fuel s0).bind K=some r)
  (step:∀d,Qge P N c I E d->∀s x,F d s=some x->WP P none N c (I s) (fun o=>o=.go .ret (E x)\/o=.go .normal (E x)))
  (k:∀x,K x=some r->∃S,Qjk P fn ops i st (.go .ret (E x))=some S/\RW P rd base ops none (i+1) S Φ):RW P rd base ops none i st Φ :=
 Q6u s0 hi hf hb hn hle h0 hN (Q02 step fuel) h k
end
theorem Qsu {σ ρ:Type} {F:(σ->Option ρ)->σ->Option ρ} (I:σ->Prop) (m:σ->Nat) (Q:σ->ρ->Prop)
  (step:∀d s,I s->(∀s',I s'->m s' < m s->∃x,d s'=some x/\Q s' x)->∃x,F d s=some x/\Q s x):∀(n:Nat) (s:σ),I s->m s < n->∃x,Qbh F n s=some x/\Q s x
 | 0,s,_,h=>by omega
 | n+1,s,hI,h=>step (Qbh F n) s hI (fun s' h1 h2=>Qsu I m Q step n s' h1 (by omega))
end Go.Ab
namespace Go.Ab
open Go.RowKit
section
variable {P:Program} {ops:Array Oper} {G:Array Bool->Nat -> Foot} {Q:Slots->Sto->Prop} {s:Slots} {σ:Sto}
end
section
variable {P:Program} {ops:Array Oper} {G:Array Bool->Nat -> Foot} {s s':Slots} {σ:Sto} {B:Nat} {W0 W:World} {D:List Nat} {M:CM} {ι:Inj} {a:Act} {Q:Exit->Act->World->Prop} {QA:Slots->Sto->Prop}
end
section
variable {P:Program} {rd:Option Nat} {base:Nat} {ops ops0:Array Oper} {st st1 st2 st3:St}
theorem Qbs.symm {F G:Foot} (h:Qbs F G):Qbs G F:=⟨h.b,h.a,fun e he e' he'=>Ne.symm (h.c e' he' e he)⟩
end
section
variable {P:Program} {rd:Option Nat} {base:Nat} {ops:Array Oper} {st st1 Sa Sb S3 S:St} {Φ:AOut->Prop} {i:Nat}
end
end Go.Ab
namespace Go.Ab
open Go.RowKit
theorem Q59 {α:Type} {vs:Array α} (h:vs.size=1):∃v0,vs=#[v0]:=by
 obtain ⟨l⟩:=vs
 match l,h with
 | [v0],_=>exact ⟨v0,rfl⟩
def Qz8 (P:Program) (f:FuncId) (t1 t2:TypeId):Prop:=∀(g:FuncId) (gfn:Func) (caps:Array Value) (w:World) (x y:Int) (R:Ending->World->Prop),P.funcs[g]?=some gfn->gfn.body.isSome=true->(gfn.name == "runtime.NumGoroutine")=false ->
 Calls P g caps ((w.alloc (.cells #[.int .i64 0,.int .i64 0] t1)).alloc (.cells #[.int .i64 0] t2)) (fun e w'=>e=.returned (.agg #[.int .i64 x,.int .i64 y]) /\
  w'.cell? ⟨w.heap.size,0,none⟩=some (.int .i64 0)/\w'.cell? ⟨w.heap.size,1,none⟩=some (.int .i64 0)/\w'.cell? ⟨w.heap.size+1,0,none⟩=some (.int .i64 0) /\
  w'.frozen? ⟨w.heap.size,0,none⟩=false/\w'.frozen? ⟨w.heap.size,1,none⟩=false/\w'.frozen? ⟨w.heap.size+1,0,none⟩=false /\
  R (.returned (.tuple #[.agg #[.int .i64 x,.int .i64 y],.int .i64 0])) (((w'.setCell ⟨w.heap.size,0,none⟩ (.int .i64 x)).setCell ⟨w.heap.size,1,none⟩ (.int .i64 y)).setCell ⟨w.heap.size+1,0,none⟩ (.int .i64 0))) ->
 Calls P f #[.func (.func g) #[] caps] w R
section
variable {P:Program}
theorem Qwk {M:CM} {ι:Inj} {v:Value} {k:IntKind} {n:Int} (h:Qa M ι v (.int k n)):v=.int k n:=by cases h; rfl
theorem Qwg {W W':World} {M M':CM} (hag:Qcn M W) (hb:Za W.heap.size W W') (hk:M'.blk=M.blk):∀b x,M'.blk b=some x->W'.heap[b]?=some x/\(∀c e f,x≠.cells c e f)/\∀d,x≠.deferred d:=fun b x hx=>by
 rw [hk] at hx
 obtain ⟨k1,k2,k3⟩:=hag.keep b x hx
 exact ⟨by rw [hb.block b (aZ.1 k1).1]; exact k1,k2,k3⟩
theorem Qso {W W':World} {M M':CM} (hag:Qcn M W) (hb:Za W.heap.size W W') (hk:M'.kc=M.kc):∀b o v,M'.kc b o=some v->W'.cell? ⟨b,o,none⟩=some v/\∀j,W'.frozen? ⟨b,j,none⟩=false:=fun b o v hx=>by
 rw [hk] at hx
 obtain ⟨k1,k2⟩:=hag.keepC b o v hx
 have hlt:=World.block_lt_of_cell? W _ k1
 exact ⟨by rw [hb.cell (p:=⟨b,o,none⟩) hlt]; exact k1,fun j=>by rw [hb.toBelow.frozen (p:=⟨b,j,none⟩) hlt]; exact k2 j⟩
theorem Q22 {W0 W':World} {M0' M:CM} {ι:Inj} (hag:Qcn M0' W0) (hk:M.blk=M0'.blk) (hkc:M.kc=M0'.kc) (hs:W0.heap.size<=W'.heap.size) (hb:Za W0.heap.size W0 W') (ha:∀b o v,M b o=some v->W'.cell? ⟨b,o,none⟩=some v):Rel P W0.heap.size W0 [] M ι (fun k=>([]:List AObj)[k]?) W' :=
 ⟨hs,hb,fun r hr=>(by simp at hr),⟨ha,Qwg hag hb hk,Qso hag hb hkc⟩,fun o bx nr fl w xs p k ho=>(by simp at ho),fun o bx ro nr fl w xs ho=>(by simp at ho),fun o fn sl ps asg bd st pe ho=>(by simp at ho),fun o o' bx nr fl w xs bx' nr' fl' w' xs' p p' _ ho=>(by simp at ho),fun o o' fn sl ps asg bd st pe fn' sl' ps' asg' bd' st' pe' p p' _ ho=>(by simp at ho),fun o _=>.inl (by simp)⟩
theorem Qie {f:FuncId} {t1 t2:TypeId} (raw:Qz8 P f t1 t2) {g:FuncId} {gfn:Func} {capsA:List AV} {x y:Int} (hf:P.funcs[g]?=some gfn) (hb:gfn.body.isSome=true) (hn:(gfn.name == "runtime.NumGoroutine")=false)
  (h:Q0 P g capsA (.ret (.agg [.int .i64 x,.int .i64 y]) [])):Q0 P f [.fn (.func g) [] capsA] (.ret (.tup [.agg [.int .i64 x,.int .i64 y],.int .i64 0]) []):=by
 intro W M vs hag hsz hrep
 obtain ⟨v0,rfl⟩:=Q59 (vs:=vs) (by simp [hsz])
 have h0:=hrep 0 v0 _ rfl rfl
 cases h0 with
 | fn _ first' caps' _ _ hy hm h1 h2 hr1 hr2 =>
 have:first'=#[]:=by apply Array.eq_empty_of_size_eq_zero; simpa using h1
 subst this
 refine raw g gfn caps' W x y _ hf hb hn ?_
 have hcell:∀b o v,M b o=some v->b < W.heap.size:=fun b o v hv=>World.block_lt_of_cell? W _ (hag b o v hv)
 have hW1:Za W.heap.size W ((W.alloc (.cells #[.int .i64 0,.int .i64 0] t1)).alloc (.cells #[.int .i64 0] t2)):=((Za.refl _ W).alloc (bA _) _).alloc (by simp) _
 generalize hW:(W.alloc (.cells #[.int .i64 0,.int .i64 0] t1)).alloc (.cells #[.int .i64 0] t2)=W1 at *
 have hsz1:W1.heap.size=W.heap.size+2:=by rw [<-hW]; simp
 have k1:W1.cell? ⟨W.heap.size,0,none⟩=some (.int .i64 0):=by rw [<-hW]; simp [go_sem]
 have k2:W1.cell? ⟨W.heap.size,1,none⟩=some (.int .i64 0):=by rw [<-hW]; simp [go_sem]
 have k3:W1.cell? ⟨W.heap.size+1,0,none⟩=some (.int .i64 0):=by rw [<-hW]; simp [go_sem]
 have z1:W1.frozen? ⟨W.heap.size,0,none⟩=false:=by rw [<-hW]; simp [go_sem]
 have z2:W1.frozen? ⟨W.heap.size,1,none⟩=false:=by rw [<-hW]; simp [go_sem]
 have z3:W1.frozen? ⟨W.heap.size+1,0,none⟩=false:=by rw [<-hW]; simp [go_sem]
 refine (h W1 M caps' ⟨fun b o v hv=>by rw [hW1.cell (p:=⟨b,o,none⟩) (hcell b o v hv)]; exact hag b o v hv,Qwg hag hW1 rfl,Qso hag hW1 rfl⟩ h2 (fun j v a hv ha=>hr2 j v a hv ha)).mono ?_
 rintro e W' ⟨v,M',ι',rfl,q1,q2,q3,q4⟩
 have hv:v=.agg #[.int .i64 x,.int .i64 y]:=by
  cases q4 with
  | agg cs' cs hl hc hr =>
  have hs2:cs'.size=2:=by simpa using hl
  have e0:=hr 0 (cs'[0]'(by omega)) (.int .i64 x) (by simp) rfl
  have e1:=hr 1 (cs'[1]'(by omega)) (.int .i64 y) (by simp) rfl
  have e0':cs'[0]'(by omega)=.int .i64 x:=Qwk e0
  have e1':cs'[1]'(by omega)=.int .i64 y:=Qwk e1
  congr 1
  apply Array.ext (by simp [hs2])
  intro i h3 h4
  have:i=0\/i=1:=by omega
  rcases this with rfl | rfl
  ·simpa using e0'
  simpa using e1'
 subst hv
 have hbel:=q2.below
 have same:∀(b o:Nat),b < W1.heap.size->W'.cell? ⟨b,o,none⟩=W1.cell? ⟨b,o,none⟩:=fun b o hlt=>hbel.cell (p:=⟨b,o,none⟩) hlt
 have samf:∀(b o:Nat),b < W1.heap.size->W'.frozen? ⟨b,o,none⟩=W1.frozen? ⟨b,o,none⟩:=fun b o hlt=>hbel.toBelow.frozen (p:=⟨b,o,none⟩) hlt
 refine ⟨rfl,by rw [same _ _ (by omega)]; exact k1,by rw [same _ _ (by omega)]; exact k2,by rw [same _ _ (by omega)]; exact k3,by rw [samf _ _ (by omega)]; exact z1,by rw [samf _ _ (by omega)]; exact z2,by rw [samf _ _ (by omega)]; exact z3,?_⟩
 have hle:W1.heap.size<=W'.heap.size:=q2.size
 refine ⟨_,M',noInj,rfl,q1.mono (by omega),Q22 hag q1.keep q1.keepC (by simp; omega) ?_ ?_,fun _ _=>rfl,?_⟩
 ·exact ((((hW1.trans (hbel.mono (by omega))).setCell (bA _) _).setCell (bA _) _).setCell (Nat.le_succ _) _)
 ·intro b o v hv
  have hne:∀p:Addr,(p.block=W.heap.size\/p.block=W.heap.size+1)->(⟨b,o,none⟩:Addr)≠p:=fun p hp e=>by
   subst e
   simp only at hp
   have hlt:b < W1.heap.size:=by omega
   rw [q1.old b o hlt] at hv
   have:=hcell b o v hv
   omega
  rw [World.cell?_setCell_other _ _ _ _ (hne ⟨W.heap.size+1,0,none⟩ (.inr rfl)).symm,World.cell?_setCell_other _ _ _ _ (hne ⟨W.heap.size,1,none⟩ (.inl rfl)).symm,World.cell?_setCell_other _ _ _ _ (hne ⟨W.heap.size,0,none⟩ (.inl rfl)).symm]
  exact q2.agree b o v hv
 ·refine .tup _ _ rfl (fun j u z hu hz=>?_)
  match j with
  | 0 =>
   simp at hu hz; subst hu; subst hz
   refine .agg _ _ rfl (fun c hc=>by simp at hc; rcases hc with rfl | rfl <;> rfl) (fun i u z hu hz=>?_)
   match i with
   | 0=>simp at hu hz; subst hu; subst hz; exact .int _ _
   | 1=>simp at hu hz; subst hu; subst hz; exact .int _ _
   | i+2=>simp at hu
  | 1=>simp at hu hz; subst hu; subst hz; exact .int _ _
  | j+2=>simp at hu
end
end Go.Ab
namespace Go.Ab
open Go.RowKit
def Q46 {α β:Type} (l:List α) (r:Option β) (f:α->List α->Option β):Option β:=match l with
 | []=>r
 | a::t=>f a t
section
variable {P:Program} {rd:Option Nat} {base:Nat} {ops:Array Oper} {Φ:AOut->Prop} {c:Code}
end
end Go.Ab
namespace Go.Ab
open Go.RowKit
def Ze {α:Type} (enc:α->AV) (L:List α) (n:Int) (A:AV):List AV:=(L.map enc).set n.toNat A
theorem Q32 {α:Type} {enc:α->AV} {L:List α} {n:Int} {A:AV}:(Ze enc L n A).length=L.length:=by simp [Ze]
theorem Qnh {α:Type} {enc:α->AV} {L:List α} {n:Int} {A:AV} {a:α} (ha:lkI L n=some a):(Ze enc L n A)[n.toNat]?=some A:=by
 obtain ⟨h1,h2,h3⟩:=Jh ha
 unfold Ze
 rw [cD (by simpa using h2)]
theorem Qoo {α:Type} {enc:α->AV} {L:List α} {n:Int} {A B:AV}:(Ze enc L n A).set n.toNat B=Ze enc L n B:=by simp [Ze,List.set_set]
theorem Q0e {α:Type} {enc:α->AV} {L:List α} {n:Int} {a:α} (ha:lkI L n=some a):Ze enc L n (enc a)=L.map enc:=by
 obtain ⟨h1,h2,h3⟩:=Jh ha
 unfold Ze
 apply List.ext_getElem?
 intro i
 by_cases e:n.toNat = i
 ·subst e; rw [cD (by simpa using h2)]; simp [h3]
 rw [cE e]
theorem Q3v {α:Type} {enc:α->AV} {L:List α} {n:Int} {b:α}:Ze enc L n (enc b)=(L.set n.toNat b).map enc:=by
 unfold Ze; rw [List.map_set]
section
variable {P:Program} {base:Nat} {st st':St}
theorem Qxc (o:Nat) {α:Type} {enc:α->AV} {L:List α} {n:Int} {a:α} {A:AV} {bx ro nr fl:Bool} {w:Nat} (ha:lkI L n=some a) (hA:enc a=A) (ho:st.objs[o]?=some (.row bx ro nr fl w (L.map enc)))
  (hS:(⟨st.slots,st.objs.set o (.row bx ro nr fl w (Ze enc L n A)),st.nt⟩:St)=st'):Wk P base st st':=by
 subst hA
 rw [Q0e ha] at hS
 refine Q9n ?_
 rw [<-hS]
 have:st.objs.set o (.row bx ro nr fl w (L.map enc))=st.objs:=by
  obtain ⟨h1,h2⟩:=aD.1 ho
  apply List.ext_getElem?
  intro i
  by_cases e:o=i
  ·subst e; rw [cD h1,ho]
  rw [cE e]
 rw [this]
theorem Qnr (o c w:Nat) (nr fl:Bool) {α:Type} {enc:α->AV} {L:List α} {n:Int} {a:α} {A A' y:AV} {bx nr0 fl0:Bool} {w0:Nat} (ha:lkI L n=some a) (ho:st.objs[o]?=some (.row bx false nr0 fl0 w0 (Ze enc L n A)))
  (hy:A.flat[c]?=some y) (hn:(Qp7 y && Nat.blt 0 w && Nat.blt st.objs.length BIG)=true) (hput:Qd9 A c (.ref st.objs.length 0 0)=some A')
  (hS:(⟨st.slots,st.objs.set o (.row bx false false false w0 (Ze enc L n A'))++[.row false false nr fl w []],st.nt⟩:St)=st'):Wk P base st st':=by
 refine Qr4 o n.toNat c w nr fl ?_
 unfold Qt4
 simp only [ho,Qnh ha,hy,hn,eP,hput,Qoo,hS]
theorem Q2w (o:Nat) {α:Type} {enc:α->AV} {L:List α} {n:Int} {a:α} {A y:AV} {ids:List Nat} {bx ro nr fl:Bool} {w:Nat} (ha:lkI L n=some a) (ho:st.sto o=some (.row bx ro nr fl w (Ze enc L n A))) (hno:Qc6 ids o=false)
  (hsn:Qq st.sto Qn A=some (y,ids)) (h:Qi2 o n.toNat y ids st=some st'):Wk P base st st' :=
 Qwj o n.toNat ho (Qnh ha) hno hsn h
theorem Qxg {α:Type} {enc:α->AV} (h:∀a,(enc a).nr=true):∀(L:List α),AV.nrL (L.map enc)=true
 | []=>rfl
 | a::L=>by simp [AV.nrL,h a,Qxg h L]
theorem Qx2 (o:Nat) {α:Type} {enc:α->AV} {L:List α} {bx ro nr fl:Bool} {w:Nat} (hnr:∀a,(enc a).nr=true) (ho:st.objs[o]?=some (.row bx ro nr fl w (L.map enc)))
  (hS:(⟨st.slots,st.objs.set o (.row bx ro true false w (L.map enc)),st.nt⟩:St)=st'):Wk P base st st':=by
 subst hS
 intro B W0 D0 dl M ι a W hsim
 have hlt:=(aD.1 ho).1
 have hob:=hsim.lt ho
 have hos:=Qvj hob ho rfl
 obtain ⟨p,hp,hrow⟩:=hsim.rel.row o bx ro nr fl w _ hos
 refine ⟨M,ι,.refl _ _,.refl _ _,⟨?_,hsim.slots,hsim.nt,hsim.df,fun k hk=>hsim.new k (by simpa using hk),by simpa using hsim.big⟩⟩
 show Rel P B W0 (dl++D0) M ι (sto (st.objs.set o _)) W
 rw [Qeo ho rfl rfl hob]
 refine hsim.rel.lessRow (nr:=nr) (fl:=fl) (xs:=L.map enc) hos rfl (fun i x x' hi hi'=>⟨[],?_⟩) (fun _=>Qxg hnr L) (fun hf=>by cases hf)
 rw [hi] at hi'; cases hi'
 cases x <;> simp [Qu,Qet]
end
theorem Qn0 {α:Type} {f:AV->Option (AV × List Nat)} {enc:α->AV} (hE:∀a,f (enc a)=some (enc a,[])) {A A':AV} {ids:List Nat} (hA:f A=some (A',ids)):∀(L:List α) (k:Nat),k < L.length->Qt f ((L.map enc).set k A)=some ((L.map enc).set k A',ids)
 | [],k,h=>by simp at h
 | a::L,0,h=>by
  have hr:∀L:List α,Qt f (L.map enc)=some (L.map enc,[]):=by
   intro L
   induction L with
   | nil=>rfl
   | cons a L ih=>simp [Qt,hE,ih]
  simp [Qt,hA,hr]
 | a::L,k+1,h=>by
  simp only [dI,List.set_cons_succ,Qt,hE,Qn0 hE hA L k (by simpa using h),cX]
theorem Qr6 {σ:Sto} {α:Type} {enc:α->AV} {L:List α} {N:Int} {a:α} {ob w n:Nat} {bx ro fl:Bool} {A A':AV} {ids:List Nat} (hrow:σ ob=some (.row bx ro false fl w (Ze enc L N A))) (ha:lkI L N=some a)
  (hE:∀a,Qq σ n (enc a)=some (enc a,[])) (hA:Qq σ n A=some (A',ids)):Qq σ (n+1) (.ref ob 0 L.length)=some (.lst false (Ze enc L N A'),ob::ids):=by
 obtain ⟨h1,h2,h3⟩:=Jh ha
 have hm:Qt (Qq σ n) (Ze enc L N A)=some (Ze enc L N A',ids):=Qn0 hE hA L _ h2
 have hl:(Ze enc L N A').take L.length=Ze enc L N A':=List.take_of_length_le (by simp [Ze])
 simp [Qq,hrow,hm,Q32,hl]
theorem Qza {M:CM} {ι:Inj} {v:Value} {fl:Bool} {xs:List AV} (hs:List LK) (h:Qa M ι v (.lst fl xs)):Qa M ι v (.lst false (xs.map (Qu hs))):=by
 cases h with
 | lst0=>exact .lst0 _ _
 | lst b off cap w _ _ f hcap hfl hc hM hr =>
  have key:∀(i j:Nat) (x y:AV),(xs.map (Qu hs))[i]?=some x->x.flat[j]?=some y->∃x0 y0 h,xs[i]?=some x0/\x0.flat[j]?=some y0/\y=LK.ap h y0:=fun i j x y hi hj=>by
   rw [bF,aS] at hi
   obtain ⟨x0,e1,rfl⟩:=hi
   have hsh:=hc x0 (aF e1)
   obtain ⟨hs',e2,_⟩:=Qd7 hs (x:=x0) hsh.form
   rw [e2] at hj
   obtain ⟨h,y0,e3,e4⟩:=Qi8 hs' _ j y hj
   exact ⟨x0,y0,h,e1,e3,e4⟩
  have:=Qa.lst (M:=M) (ι:=ι) b off cap w false (xs.map (Qu hs)) f (by simpa using hcap) (fun h=>by cases h) (fun x hx=>by
   simp only [cG] at hx
   obtain ⟨z,hz,rfl⟩:=hx
   exact Qi5 hs (hc z hz)) (fun i j x y hi hj=>by
   obtain ⟨x0,y0,h,e1,e2,_⟩:=key i j x y hi hj
   exact hM i j x0 y0 e1 e2) (fun i j x y hi hj=>by
   obtain ⟨x0,y0,h,e1,e2,rfl⟩:=key i j x y hi hj
   exact LK.ap_rep h (hr i j x0 y0 e1 e2))
  simpa using this
def Qb8 (x y:AV):Prop:=∀(M:CM) (v:Value),Qa M noInj v x->Qa M noInj v y
theorem Qb8.refl {x:AV}:Qb8 x x:=fun _ _ h=>h
theorem Qb8.lst {fl:Bool} {xs ys:List AV} (hs:List LK) (h:xs.map (Qu hs)=ys):Qb8 (.lst fl xs) (.lst false ys):=fun M v hr=>by subst h; exact Qza hs hr
inductive Jl:List AV->List AV->Prop
 | nil:Jl [] []
 | cons {x y:AV} {xs ys:List AV} (h:Qb8 x y) (hc:y.cell=x.cell) (k:Jl xs ys):Jl (x::xs) (y::ys)
theorem Jl.at {xs ys:List AV} (h:Jl xs ys):xs.length=ys.length/\∀(j:Nat) (y:AV),ys[j]?=some y->∃x,xs[j]?=some x/\Qb8 x y/\y.cell=x.cell:=by
 induction h with
 | nil=>exact ⟨rfl,fun j y h=>by simp at h⟩
 | cons h hc k ih =>
  refine ⟨by simp [ih.1],fun j y hj=>?_⟩
  cases j with
  | zero=>simp at hj; subst hj; exact ⟨_,rfl,h,hc⟩
  | succ j=>exact ih.2 j y (by simpa using hj)
theorem Qb8.agg {xs ys:List AV} (h:Jl xs ys):Qb8 (.agg xs) (.agg ys):=fun M v hr=>by
 cases hr with
 | agg cs' _ hsz hc hrr =>
  obtain ⟨hl,hat⟩:=h.at
  refine .agg cs' _ (by rw [<-hl]; exact hsz) (fun y hy=>?_) (fun j v y hv hy=>?_)
  ·obtain ⟨j,hj,rfl⟩:=bC.1 hy
   obtain ⟨x,e1,_,e3⟩:=hat j _ (aG hj)
   rw [e3]; exact hc x (aF e1)
  obtain ⟨x,e1,e2,_⟩:=hat j y hy
  exact e2 M v (hrr j v x hv e1)
theorem Q0.argsE {P:Program} {f:FuncId} {us ws:List AV} {co:Xf} (hw:Jl us ws) (h:Q0 P f ws co):Q0 P f us co:=by
 intro W M vs h1 h2 h3
 obtain ⟨hl,hat⟩:=hw.at
 refine h W M vs h1 (by rw [<-hl]; exact h2) (fun j v y hv hy=>?_)
 obtain ⟨x,e1,e2,_⟩:=hat j y hy
 exact e2 M v (h3 j v x hv e1)
section
variable {P:Program} {rd:Option Nat} {base:Nat} {ops:Array Oper} {st S:St} {Φ:AOut->Prop} {d:Option (List Sk)} {i:Nat}
theorem Qd2 {α:Type} {enc:α->AV} {L:List α} {n:Int} {a:α} {A:AV} {ob w:Nat} {ro nr fl:Bool} (hi:Qgg P ops i st=some (.ref ob 0 L.length,n,w)) (hrow:st.sto ob=some (.row false ro nr fl w (Ze enc L n A))) (ha:lkI L n=some a)
  (hS:Zr ops i st (some (.ptr ob n.toNat 0)) []=some S) (k:RW P rd base ops (Q6 d [([],[ob])]) (i+1) S Φ):RW P rd base ops d i st Φ:=by
 obtain ⟨h1,h2,_⟩:=Jh ha
 exact Q96 hi hrow h1 h2 (.inl rfl) hS k
theorem Qey {α:Type} {enc:α->AV} {L:List α} {n:Int} {a:α} {A:AV} {ob c w:Nat} {ro nr fl:Bool} (hp:Qba ops i st=some (ob,n.toNat,c)) (hrow:st.sto ob=some (.row false ro nr fl w (Ze enc L n A))) (ha:lkI L n=some a)
  (hS:Qmg P ops i st c A=some S) (k:RW P rd base ops (Q6 d [([],[ob])]) (i+1) S Φ):RW P rd base ops d i st Φ :=
 Q9t hp hrow (Qnh ha) (.inl rfl) hS k
theorem Qp8 {α:Type} {enc:α->AV} {L:List α} {n:Int} {a:α} {A A' v:AV} {ob c w:Nat} (hp:Qba ops i st=some (ob,n.toNat,c)) (hrow:st.sto ob=some (.row false false false false w (Ze enc L n A))) (ha:lkI L n=some a)
  (hv:Qg4 P ops i st=some v) (hput:Qd9 A c v=some A') (hS:Zr ops i st none [(ob,.row false false false false w (Ze enc L n A'))]=some S) (hl:Nat.beq S.objs.length st.objs.length=true)
  (k:RW P rd base ops (Q6 d [([ob],[ob])]) (i+1) S Φ):RW P rd base ops d i st Φ:=by
 obtain ⟨o,t,x0,y,T,ho,hop,hT,hx,hy,hc⟩:=Qcj hp hv
 refine Y6 (nf:=true) (fr:=st.objs.length) (rds:=[ob]) ho ?_ hS (aJ hl) k
 unfold Zj
 rw [hop]
 simp only [Zv,aU,eO]
 unfold evalOp
 rw [hop]
 simp only [hT,hx,hy,hrow,Qnh ha,hc,eP,Bool.or_true,Bool.true_or,hput,frz,Qew,List.contains_nil,aU,eO,cX,Zl,Bool.false_and,Qoo]
end
theorem Quo {α:Type} {enc:α->AV} {L:List α} {n:Int} {A:AV} {b:α}:(Ze enc L n A).set n.toNat (enc b)=(L.set n.toNat b).map enc:=by rw [Qoo,Q3v]
theorem Qn8 {α β:Type} {enc:α->AV} {enc2:β->AV} {conv:α->β} {L:List α} {n:Int} {A:AV} {b:β} (hs:List LK) (h:∀a,Qu hs (enc a)=enc2 (conv a)) (hA:Qu hs A=enc2 b) :
  (Ze enc L n A).map (Qu hs)=((L.map conv).set n.toNat b).map enc2:=by
 have e:Qu hs ∘ enc=enc2 ∘ conv:=funext h
 unfold Ze
 rw [List.map_set,List.map_set,List.map_map,List.map_map,hA,e]
def Q7y {α β:Type}:α ⊕ β->Option α
 | .inl a=>some a
 | .inr _=>none
theorem Q07 {α β:Type} {x:α ⊕ β} {a:α} (h:Q7y x=some a):x=.inl a:=by cases x <;> cases h; rfl
def lkL {α β:Type} (l:List (α ⊕ β)) (n:Int):Option α:=(lkI l n).bind Q7y
theorem Qo {α β:Type} {l:List (α ⊕ β)} {n:Int} {a:α} (h:lkL l n=some a):lkI l n=some (.inl a):=by
 unfold lkL at h
 cases e:lkI l n with
 | none=>rw [e] at h; cases h
 | some x=>rw [e] at h; rw [Q07 h]
def alr {α β:Type}:List (α ⊕ β)->Option (List β)
 | []=>some []
 | .inr b::l=>(alr l).map (b::·)
 | .inl _::_=>none
theorem Qoh {α β:Type}:∀{l:List (α ⊕ β)} {m:List β},alr l=some m->l=m.map .inr
 | [],m,h=>by cases h; rfl
 | .inl _::_,m,h=>by cases h
 | .inr b::l,m,h=>by
  unfold alr at h
  cases e:alr l with
  | none=>rw [e] at h; cases h
  | some m'=>rw [e] at h; cases h; rw [Qoh e]; rfl
theorem Q6d {α β:Type} {l:List (α ⊕ β)} {m:List β} {enc:α ⊕ β->AV} {enc2:β->AV} (h:alr l=some m) (he:∀b,enc (.inr b)=enc2 b):l.map enc=m.map enc2:=by
 rw [Qoh h,List.map_map]
 exact congrArg (fun f=>m.map f) (funext he)
theorem Q5t {α β:Type} {l:List (α ⊕ β)} {m:List β} (h:alr l=some m):l.length=m.length:=by rw [Qoh h,bZ]
theorem Qsb {α:Type} {enc:α->AV} {f:Nat -> Option Nat} (hE:∀a,(enc a).ren f=some (enc a)) {A A':AV} (hA:A.ren f=some A'):∀(L:List α) (k:Nat),AV.renL f ((L.map enc).set k A)=some ((L.map enc).set k A')
 | [],k=>by simp [AV.renL]
 | a::L,0=>by
  have hr:∀L:List α,AV.renL f (L.map enc)=some (L.map enc):=by
   intro L
   induction L with
   | nil=>rfl
   | cons a L ih=>simp [AV.renL,hE,ih]
  simp [AV.renL,hA,hr]
 | a::L,k+1=>by simp only [dI,List.set_cons_succ,AV.renL,hE,Qsb hE hA L k]
def fillH (o:Nat) (h:AV->List AV):List Nat -> List AObj->List AObj
 | k::ks,x::xs=>(if Nat.beq k o then (match x with | .row bx ro nr fl w [A]=>.row bx ro nr fl w (h A) | x=>x) else x)::fillH o h ks xs
 | _,_=>[]
theorem Qih {α:Type} {enc:α->AV} {f:Nat -> Option Nat} (hE:∀a,(enc a).ren f=some (enc a)) {L:List α} {n:Int} {A:AV} {objs:List AObj} {o w:Nat} {bx ro fl:Bool} (ho:o < objs.length) :
  ∀(ks:List Nat) (os:List AObj),Yy f (objs.set o (.row bx ro false fl w [A])) ks=some os->Yy f (objs.set o (.row bx ro false fl w (Ze enc L n A))) ks=some (fillH o (Ze enc L n) ks os)
 | [],os,h=>by simp [Yy] at h; subst h; rfl
 | k::ks,os,h=>by
  unfold Yy at h ⊢
  by_cases e:o=k
  ·subst e
   rw [cD ho] at h ⊢
   simp only [AObj.ren,AV.renL] at h ⊢
   cases hA:A.ren f with
   | none=>rw [hA] at h; simp at h
   | some A' =>
    rw [hA] at h
    simp only at h
    cases hr:Yy f (objs.set o (.row bx ro false fl w [A])) ks with
    | none=>rw [hr] at h; simp at h
    | some os' =>
     rw [hr] at h
     have ih:=Qih hE (L:=L) (n:=n) ho ks os' hr
     have h2:AV.renL f (Ze enc L n A)=some (Ze enc L n A'):=Qsb hE hA L _
     simp at h
     subst h
     simp [h2,ih,fillH]
  rw [cE e] at h ⊢
  cases hk:objs[k]? with
  | none=>rw [hk] at h; cases h
  | some x =>
   rw [hk] at h
   simp only at h ⊢
   cases hx:x.ren f with
   | none=>rw [hx] at h; cases h
   | some y =>
    rw [hx] at h
    cases hr:Yy f (objs.set o (.row bx ro false fl w [A])) ks with
    | none=>rw [hr] at h; cases h
    | some os' =>
     rw [hr] at h
     have ih:=Qih hE (L:=L) (n:=n) ho ks os' hr
     cases h
     rw [ih]
     have:Nat.beq k o=false:=by
      cases e2:Nat.beq k o with
      | false=>rfl
      | true=>exact absurd (aJ e2).symm e
     simp [fillH,this]
def Q5a (base:Nat) (live keep:List Nat) (o w:Nat) (h:AV->List AV) (A:AV) (st:St):Option St :=
 match Qfm base live keep ⟨st.slots,st.objs.set o (.row false false false false w [A]),st.nt⟩ with
 | some s=>some ⟨s.slots,fillH o h (List.range base++keep) s.objs,s.nt⟩
 | none=>none
theorem wk_gcH {P:Program} {base:Nat} {st st':St} {live keep:List Nat} (o:Nat) {α:Type} (enc:α->AV) (L:List α) (n:Int) (A:AV) (w:Nat) (hE:∀f a,(enc a).ren f=some (enc a)) (ho:st.objs[o]?=some (.row false false false false w (Ze enc L n A)))
  (h:Q5a base live keep o w (Ze enc L n) A st=some st'):Wk P base st st':=by
 refine Kr (live:=live) (keep:=keep) ?_
 unfold Q5a at h
 have hself:st.objs.set o (.row false false false false w (Ze enc L n A))=st.objs:=by
  obtain ⟨h1,h2⟩:=aD.1 ho
  apply List.ext_getElem?
  intro i
  by_cases e:o=i
  ·subst e; rw [cD h1,ho]
  rw [cE e]
 cases hg:Qfm base live keep ⟨st.slots,st.objs.set o (.row false false false false w [A]),st.nt⟩ with
 | none=>rw [hg] at h; cases h
 | some s =>
  rw [hg] at h
  cases h
  unfold Qfm at hg ⊢
  simp only at hg ⊢
  split at hg
  ·rename_i hc
   rw [aH hc]
   split at hg
   ·rename_i os hos
    cases hg
    have:=Qih (fun a=>hE _ a) (L:=L) (n:=n) (aD.1 ho).1 _ _ hos
    rw [hself] at this
    rw [this]
   cases hg
  cases hg
end Go.Ab
namespace Go.Ab
open Go.RowKit
section
variable {P:Program} {rd:Option Nat} {base:Nat} {ops:Array Oper} {st S:St} {Φ:AOut->Prop} {d:Option (List Sk)} {i:Nat} {c:Code}
theorem Qwb {σ ρ1 ρ2:Type} {body:σ->Option (Qg σ (ρ1 ⊕ ρ2))} {I:σ->St} {H:ρ1->St} {Ex:ρ2->AOut->Prop}
  (stop:∀s y,body s=some (.done (.inl y))->H y=I s)
  (round:∀s o,body s=some o->(∃y,o=.done (.inl y))\/WP P rd base c (I s) (fun out=>match o with
   | .next s'=>∃st1,out=.go .normal st1/\Wk P base st1 (I s')
   | .done (.inl _)=>False
   | .done (.inr x)=>Ex x out/\out.normal=false)) :
  ∀(n:Nat) (s:σ) (x:ρ1 ⊕ ρ2),Qb n body s=some x->(∀y,x=.inl y->LWP P rd base c (H y) Φ)->(∀z,x=.inr z->∀out,Ex z out->Φ out)->LWP P rd base c (I s) Φ
 | 0,s,x,h,_,_=>by cases h
 | n+1,s,x,h,h1,h2=>by
  simp only [Qb] at h
  split at h
  ·rename_i s' hb
   rcases round s _ hb with ⟨y,e⟩ | hr
   ·cases e
   refine Qg9 (hr.mono fun out ho=>?_)
   obtain ⟨st1,rfl,hw⟩:=ho
   exact Qm6 hw (Qwb stop round n s' x h h1 h2)
  ·rename_i x' hb
   cases h
   cases x with
   | inl y =>
    have:=h1 y rfl
    rw [stop s y hb] at this
    exact this
   | inr z =>
    rcases round s _ hb with ⟨y,e⟩ | hr
    ·cases e
    refine Qg9 (hr.mono fun out ho=>?_)
    obtain ⟨g1,g2⟩:=ho
    have g3:=h2 z rfl out g1
    cases out with
    | pan v=>exact g3
    | go e st1=>cases e <;> first | exact g3 | simp [AOut.normal] at g2
  cases h
def Q4q {σ ρ:Type}:Qg σ ρ->Qg σ (σ ⊕ ρ)
 | .next s=>.next s
 | .done x=>.done (.inr x)
def Qmo {σ ρ:Type} (cnd:σ->Bool) (body:σ->Option (Qg σ ρ)) (s:σ):Option (Qg σ (σ ⊕ ρ)):=if cnd s=true then some (.done (.inl s)) else (body s).map Q4q
theorem Q0y {σ ρ R:Type} {n:Nat} {cnd:σ->Bool} {body:σ->Option (Qg σ ρ)} {I:σ->St} {Ex:ρ->AOut->Prop} {K:σ ⊕ ρ->Option R} {r:R} (s0:σ) (hw:Wk P base st (I s0)) (h:(Qb n (Qmo cnd body) s0).bind K=some r)
  (round:∀s o,body s=some o->WP P rd base c (I s) (Qkb P base I Ex o))
  (k1:∀y,K (.inl y)=some r->LWP P rd base c (I y) Φ) (k2:∀z,K (.inr z)=some r->∀out,Ex z out->Φ out):WP P rd base (.loop c) st Φ:=by
 cases hx:Qb n (Qmo cnd body) s0 with
 | none=>rw [hx] at h; cases h
 | some x =>
  rw [hx] at h
  have hb:∀s o,Qmo cnd body s=some o->(o=.done (.inl s))\/∃o',body s=some o'/\o=Q4q o':=fun s o ho=>by
   unfold Qmo at ho
   split at ho
   ·cases ho; exact .inl rfl
   simp only [aS] at ho
   obtain ⟨o',e1,e2⟩:=ho
   exact .inr ⟨o',e1,e2.symm⟩
  refine Qxm (Qm6 hw (Qwb (H:=I) (Ex:=Ex) (fun s y e=>?_) (fun s o e=>?_) n s0 x hx (fun y e=>?_) (fun z e=>?_)))
  ·rcases hb s _ e with e1 | ⟨o',_,e1⟩
   ·cases e1; rfl
   cases o' <;> cases e1
  ·rcases hb s _ e with e1 | ⟨o',e1,e2⟩
   ·exact .inl ⟨s,e1⟩
   subst e2
   refine .inr ((round s o' e1).mono fun out ho=>?_)
   cases o' with
   | next s'=>exact ho
   | done x=>exact ho
  ·subst e; exact k1 y h
  subst e; exact k2 z h
end
end Go.Ab
namespace Go.Ab
open Go.RowKit
def Qqp:AObj->Bool
 | .row _ _ _ _ _ _=>true
 | .loop _ _ _ _ _ _ _=>true
 | .dead=>true
 | _=>false
def Qtp:AObj->Bool
 | .row _ _ _ _ _ _=>true
 | .loop _ _ _ _ _ _ _=>true
 | _=>false
def Qct (N:Nat):AObj->Prop
 | .row _ _ nr _ _ xs=>nr=true\/∀x∈xs,∀y∈x.flat,∀o∈y.ids,o < N
 | .loop _ sl _ _ _ _ _=>∀p∈sl,∀o∈p.2.ids,o < N
 | .dead=>True
 | _=>False
def Qtv (N:Nat):AObj->Bool
 | .row _ _ nr _ _ xs=>nr || xs.all fun x=>x.flat.all fun y=>y.ids.all fun o=>Nat.blt o N
 | .loop _ sl _ _ _ _ _=>sl.all fun p=>p.2.ids.all fun o=>Nat.blt o N
 | .dead=>true
 | _=>false
theorem Q5h {N:Nat} {x:AObj} (h:Qtv N x=true):Qct N x:=by
 cases x with
 | row bx ro nr fl w xs =>
  simp only [Qtv,aM,bQ] at h
  exact h.imp id fun h x hx y hy o ho=>J9 (h x hx y hy o ho)
 | loop nt sl ps as bd st pe =>
  simp only [Qtv,bQ] at h
  exact fun p hp o ho=>J9 (h p hp o ho)
 | dead=>trivial
 | fam=>cases h
 | refs=>cases h
theorem Ql5 {N:Nat} {x:AObj} (h:Qct N x):Qqp x=true:=by cases x <;> first | rfl | exact h.elim
theorem Qyf {objs:List AObj} (h:∀x∈objs,Qqp x=true) (id:Nat):Qbw objs id=none:=by
 unfold Qbw
 rw [dif_neg]
 rintro ⟨y,k,i,w,fl,xs,l,_,hk,_⟩
 have:=h _ (aF hk)
 cases this
theorem Qqe {x:AObj} (h:Qqp x=true):x.plain=x:=by cases x <;> first | rfl | cases h
theorem Qu3 {objs:List AObj} (h:∀x∈objs,Qqp x=true) (hb:objs.length<=BIG) (id:Nat):sto objs id=objs[id]?:=by
 by_cases hi:id < BIG
 ·rw [Yz hi]
  cases e:objs[id]? with
  | none=>rfl
  | some x=>simp [Qqe (h x (aF e))]
 rw [Qo1 (by omega),Qyf h,dP (by omega)]
theorem Qvm:∀{l:List (Nat × AV)} {t:Nat} {x:AV},lk l t=some x->∃p∈l,p.2=x
 | [],t,x,h=>by cases h
 | (k,y)::r,t,x,h=>by
  unfold lk at h
  split at h
  ·cases h; exact ⟨(k,y),by simp,rfl⟩
  obtain ⟨p,hp,e⟩:=Qvm h
  exact ⟨p,cN _ hp,e⟩
section
variable {P:Program} {B N:Nat} {W0 W:World} {D:List Nat} {M:CM} {ι:Inj} {σ:Sto}
def Qil (N:Nat) (ι:Inj) (σ:Sto) (b:Nat):Prop:=∃k p fn sl ps as bd st pe,¬ k < N/\σ k=some (.loop fn sl ps as bd st pe)/\ι k=some p/\p.blk=b
def Qcw (N:Nat) (ι:Inj) (σ:Sto) (b o:Nat):Prop:=∃k p bx nr fl w xs j,¬ k < N/\σ k=some (.row bx false nr fl w xs)/\ι k=some p/\p.blk=b/\o=p.base+j/\j < p.cap*w
open Classical in
noncomputable def Qls (N:Nat) (ι:Inj) (σ:Sto) (W:World) (M:CM):CM :=
 ⟨M.f,M.ok,fun b=>if Qil N ι σ b then W.heap[b]? else M.blk b,fun b o=>if Qcw N ι σ b o then W.cell? ⟨b,o,none⟩ else M.kc b o⟩
theorem Ql2 (h:Rel P B W0 D M ι σ W) {b:Nat} (hb:Qil N ι σ b):M.blk b=none/\∃l,W.heap[b]?=some (Qca l):=by
 obtain ⟨k,p,fn,sl,ps,as,bd,st,pe,_,hk,hp',rfl⟩:=hb
 obtain ⟨q,nt1,hq,hb1,_,tmps,_,hrec,_⟩:=h.loop k _ _ _ _ _ _ _ hk
 rw [hp'] at hq; cases hq
 exact ⟨hb1,_,hrec⟩
theorem Qfe (h:Rel P B W0 D M ι σ W) {b o:Nat} (hb:Qcw N ι σ b o):M.kc b o=none/\M b o=none/\(∃v,W.cell? ⟨b,o,none⟩=some v)/\∀j,W.frozen? ⟨b,j,none⟩=false:=by
 obtain ⟨k,p,bx,nr,fl,w,xs,j,_,hk,hp',rfl,rfl,hj⟩:=hb
 obtain ⟨q,hq,hr⟩:=h.row k _ _ _ _ _ _ hk
 rw [hp'] at hq; cases hq
 have c:=h.cool k bx nr fl w xs p j hk hp' hj
 obtain ⟨o1,o2⟩:=(hr.own rfl).2 j hj
 exact ⟨c.2,o2,dT.1 o1,c.1⟩
open Classical in
theorem Rel.hide (h:Rel P B W0 D M ι σ W) (hA:∀k x,k < N->σ k=some x->Qct N x) :
  Rel P B W0 D (Qls N ι σ W M) (fun k=>if k < N then ι k else none) (fun k=>if k < N then σ k else none) W:=by
 have hM1:M.le (Qls N ι σ W M):=fun _ _ _ h=>h
 have blk1:∀b,(Qls N ι σ W M).blk b=if Qil N ι σ b then W.heap[b]? else M.blk b:=fun b=>rfl
 have kc1:∀b o,(Qls N ι σ W M).kc b o=if Qcw N ι σ b o then W.cell? ⟨b,o,none⟩ else M.kc b o:=fun b o=>rfl
 have low:∀{k:Nat} {x:AObj},(if k < N then σ k else none)=some x->k < N/\σ k=some x:=fun {k x} hk=>by
  by_cases e:k < N
  ·rw [aH e] at hk; exact ⟨e,hk⟩
  rw [aI e] at hk; cases hk
 have lowi:∀{k:Nat} {p:Place},k < N->(if k < N then ι k else none)=some p->ι k=some p:=fun e hk=>by rw [aH e] at hk; exact hk
 have rep1:∀{v:Value} {y:AV},(∀o∈y.ids,o < N)->Qa M ι v y->Qa (Qls N ι σ W M) (fun k=>if k < N then ι k else none) v y:=fun hi h=>(h.congr fun o ho=>aH (hi o ho)).mono hM1 (Inj.le_refl _)
 refine ⟨h.size,h.below,h.defs,⟨h.agree.cell,fun b x hb=>?_,fun b o v hb=>?_⟩,fun o bx nr fl w xs p k ho hp' hk=>?_,fun o bx ro nr fl w xs ho=>?_,fun o fn sl ps as bd st pe ho=>?_,fun o o' bx nr fl w xs bx' nr' fl' w' xs' p p' hne h1 h2 h3 h4=>?_,fun o o' fn sl ps as bd st pe fn' sl' ps' as' bd' st' pe' p p' hne h1 h2 h3 h4=>?_,fun o ho=>?_⟩
 ·rw [blk1] at hb
  by_cases hd:Qil N ι σ b
  ·rw [aH hd] at hb
   obtain ⟨_,l,hl⟩:=Ql2 h hd
   rw [hl] at hb; cases hb
   exact ⟨hl,fun c e f=>Qli c e f,fun d he=>Qiy (x:=d) (by rw [he])⟩
  ·rw [aI hd] at hb; exact h.agree.keep b x hb
 ·rw [kc1] at hb
  by_cases hd:Qcw N ι σ b o
  ·rw [aH hd] at hb
   exact ⟨hb,(Qfe h hd).2.2.2⟩
  ·rw [aI hd] at hb; exact h.agree.keepC b o v hb
 ·obtain ⟨l1,ho⟩:=low ho
  have hp':=lowi l1 hp'
  have c:=h.cool o bx nr fl w xs p k ho hp' hk
  refine ⟨c.1,?_⟩
  rw [kc1,aI]
  ·exact c.2
  ·rintro ⟨k2,p2,bx2,nr2,fl2,w2,xs2,j2,n2,hk2,hp2,hb2,ho2,hj2⟩
   obtain ⟨q,hq,hr⟩:=h.row o _ _ _ _ _ _ ho
   rw [hp'] at hq; cases hq
   obtain ⟨q,hq,hr2⟩:=h.row k2 _ _ _ _ _ _ hk2
   rw [hp2] at hq; cases hq
   have hpw:=hr.pw
   have hpw2:=hr2.pw
   rcases h.apart o k2 _ _ _ _ _ _ _ _ _ _ _ _ (fun e=>n2 (e ▸ l1)) ho hk2 hp' hp2 with a | a | a
   ·exact a hb2.symm
   ·rw [hpw] at a; omega
   ·rw [hpw2] at a; omega
 ·obtain ⟨l1,ho⟩:=low ho
  obtain ⟨p,hp',hrow⟩:=h.row o bx ro nr fl w xs ho
  refine ⟨p,by rw [aH l1]; exact hp',hrow.pw,hrow.pos,hrow.cpos,hrow.len,hrow.shaped,hrow.nr,hrow.fl,fun i j x y hi hj=>?_,hrow.own,fun hro i j x y hi hj=>?_⟩
  ·obtain ⟨v,hv,hrep⟩:=hrow.cells i j x y hi hj
   refine ⟨v,hv,?_⟩
   rcases hA o _ l1 ho with hn | hn
   ·exact (hrep.of_nr (AV.nr_flat (Q4.1 (hrow.nr hn) x (aF hi)) y (aF hj))).mono hM1 (Inj.le_refl _)
   ·exact rep1 (hn x (aF hi) y (aF hj)) hrep
  ·obtain ⟨v,hv,hrep⟩:=hrow.imm hro i j x y hi hj
   exact ⟨v,hv,hrep.mono hM1 (Inj.le_refl _)⟩
 ·obtain ⟨l1,ho⟩:=low ho
  obtain ⟨p,nt1,hp',hb1,hB1,tmps,hsz,hrec,hsl1⟩:=h.loop o fn sl ps as bd st pe ho
  refine ⟨p,nt1,by rw [aH l1]; exact hp',?_,hB1,tmps,hsz,hrec,fun t x hx=>?_⟩
  ·rw [blk1,aI]
   ·exact hb1
   ·rintro ⟨k,q,fn',sl',ps',as',bd',st',pe',hk,hk',hq,hqb⟩
    exact h.loops o k _ _ _ _ _ _ _ _ _ _ _ _ _ _ _ _ (fun e=>hk (e ▸ l1)) ho hk' hp' hq hqb.symm
  ·obtain ⟨q,hq,rfl⟩:=Qvm hx
   exact rep1 (hA o _ l1 ho q hq) (hsl1 t _ hx)
 ·obtain ⟨l1,h1⟩:=low h1
  obtain ⟨l2,h2⟩:=low h2
  exact h.apart o o' bx nr fl w xs bx' nr' fl' w' xs' p p' hne h1 h2 (lowi l1 h3) (lowi l2 h4)
 ·obtain ⟨l1,h1⟩:=low h1
  obtain ⟨l2,h2⟩:=low h2
  exact h.loops o o' fn sl ps as bd st pe fn' sl' ps' as' bd' st' pe' p p' hne h1 h2 (lowi l1 h3) (lowi l2 h4)
 ·by_cases l1:o < N
  ·rw [aH l1] at ho ⊢; exact h.used o ho
  ·exact .inl (aI l1)
open Classical in
theorem Rel.unhide {W':World} {M':CM} {ι':Inj} {σ':Sto} (h:Rel P B W0 D M ι σ W) (h':Rel P B W0 D M' ι' (fun k=>if k < N then σ' k else none) W') (hG:CM.Grow B (Qls N ι σ W M) M') (hι:∀k,k < N->ι' k=ι k)
  (hA:∀k x,k < N->σ' k=some x->Qct N x) :
  ∃M2:CM,CM.Grow B M M2/\M'.le M2/\Rel P B W0 D M2 ι (fun k=>if k < N then σ' k else σ k) W':=by
 let M2:CM:=⟨M'.f,M'.ok,M.blk,M.kc⟩
 have hM2:M'.le M2:=fun _ _ _ h=>h
 have hMM2:M.le M2:=fun b o v h=>hG.le b o v h
 have blk':∀b,M'.blk b=if Qil N ι σ b then W.heap[b]? else M.blk b:=fun b=>by rw [hG.keep]; rfl
 have kc':∀b o,M'.kc b o=if Qcw N ι σ b o then W.cell? ⟨b,o,none⟩ else M.kc b o:=fun b o=>by rw [hG.keepC]; rfl
 have notB:∀b,M'.blk b=none->¬ Qil N ι σ b/\M.blk b=none:=fun b hb=>by
  rw [blk'] at hb
  by_cases hd:Qil N ι σ b
  ·rw [aH hd] at hb
   obtain ⟨_,l,hl⟩:=Ql2 h hd
   rw [hl] at hb; cases hb
  rw [aI hd] at hb; exact ⟨hd,hb⟩
 have notC:∀b o,M'.kc b o=none->¬ Qcw N ι σ b o/\M.kc b o=none:=fun b o hb=>by
  rw [kc'] at hb
  by_cases hd:Qcw N ι σ b o
  ·rw [aH hd] at hb
   obtain ⟨_,_,⟨v,hv⟩,_⟩:=Qfe h hd
   rw [hv] at hb; cases hb
  rw [aI hd] at hb; exact ⟨hd,hb⟩
 have low:∀{k:Nat} {x:AObj},k < N->(if k < N then σ' k else σ k)=some x->(if k < N then σ' k else none)=some x/\σ' k=some x:=fun e hk=>by
  rw [aH e] at hk ⊢; exact ⟨hk,hk⟩
 have high:∀{k:Nat} {x:AObj},¬ k < N->(if k < N then σ' k else σ k)=some x->σ k=some x:=fun e hk=>by rw [aI e] at hk; exact hk
 have repl:∀{v:Value} {y:AV},(∀o∈y.ids,o < N)->Qa M' ι' v y->Qa M2 ι v y:=fun hi h=>(h.congr fun o ho=>(hι o (hi o ho)).symm).mono hM2 (Inj.le_refl _)
 refine ⟨M2,⟨hMM2,hG.old,rfl,rfl,fun b o v hv=>?_⟩,hM2,h'.size,h'.below,h'.defs,⟨h'.agree.cell,fun b x hb=>?_,fun b o v hb=>?_⟩,fun o bx nr fl w xs p k ho hp' hk=>?_,fun o bx ro nr fl w xs ho=>?_,fun o fn sl ps as bd st pe ho=>?_,fun o o' bx nr fl w xs bx' nr' fl' w' xs' p p' hne h1 h2 h3 h4=>?_,fun o o' fn sl ps as bd st pe fn' sl' ps' as' bd' st' pe' p p' hne h1 h2 h3 h4=>?_,fun o ho=>?_⟩
 ·by_cases hd:Qcw N ι σ b o
  ·rw [(Qfe h hd).1] at hv; cases hv
  ·exact hG.keepF b o v (by show (if Qcw N ι σ b o then _ else _)=_; rw [aI hd]; exact hv)
 ·have hb':M.blk b=some x:=hb
  refine h'.agree.keep b x ?_
  rw [blk']
  by_cases hd:Qil N ι σ b
  ·rw [(Ql2 h hd).1] at hb'; cases hb'
  ·rw [aI hd]; exact hb'
 ·have hb':M.kc b o=some v:=hb
  refine h'.agree.keepC b o v ?_
  rw [kc']
  by_cases hd:Qcw N ι σ b o
  ·rw [(Qfe h hd).1] at hb'; cases hb'
  ·rw [aI hd]; exact hb'
 ·by_cases hl:o < N
  ·obtain ⟨ho1,ho2⟩:=low hl ho
   have c:=h'.cool o bx nr fl w xs p k ho1 (by rw [hι o hl]; exact hp') hk
   exact ⟨c.1,(notC _ _ c.2).2⟩
  ·have ho:=high hl ho
   have hd:Qcw N ι σ p.blk (p.base+k):=⟨o,p,bx,nr,fl,w,xs,k,hl,ho,hp',rfl,rfl,hk⟩
   obtain ⟨s1,s2,⟨v,hv⟩,s4⟩:=Qfe h hd
   exact ⟨(h'.agree.keepC _ _ v (by rw [kc',aH hd]; exact hv)).2,s1⟩
 ·by_cases hl:o < N
  ·obtain ⟨ho1,ho2⟩:=low hl ho
   obtain ⟨p,hp',hrow⟩:=h'.row o bx ro nr fl w xs ho1
   refine ⟨p,by rw [<-hι o hl]; exact hp',hrow.pw,hrow.pos,hrow.cpos,hrow.len,hrow.shaped,hrow.nr,hrow.fl,fun i j x y hi hj=>?_,hrow.own,fun hro i j x y hi hj=>?_⟩
   ·obtain ⟨v,hv,hrep⟩:=hrow.cells i j x y hi hj
    refine ⟨v,hv,?_⟩
    rcases hA o _ hl ho2 with hn | hn
    ·exact (hrep.of_nr (AV.nr_flat (Q4.1 (hrow.nr hn) x (aF hi)) y (aF hj))).mono hM2 (Inj.le_refl _)
    ·exact repl (hn x (aF hi) y (aF hj)) hrep
   ·obtain ⟨v,hv,hrep⟩:=hrow.imm hro i j x y hi hj
    exact ⟨v,hv,hrep.mono hM2 (Inj.le_refl _)⟩
  ·have ho:=high hl ho
   obtain ⟨p,hp',hrow⟩:=h.row o bx ro nr fl w xs ho
   cases ro with
   | true =>
    have himm:∀(i j:Nat) (x y:AV),xs[i]?=some x->x.flat[j]?=some y->∃v,M2 p.blk (p.base+i*w+j)=some v/\Qa M2 noInj v y:=fun i j x y hi hj=>by
     obtain ⟨v,hv,hrep⟩:=hrow.imm rfl i j x y hi hj
     exact ⟨v,hMM2 _ _ _ hv,hrep.mono hMM2 (Inj.le_refl _)⟩
    refine ⟨p,hp',hrow.pw,hrow.pos,hrow.cpos,hrow.len,hrow.shaped,hrow.nr,hrow.fl,fun i j x y hi hj=>?_,fun h=>(by cases h),fun _=>himm⟩
    obtain ⟨v,hv,hrep⟩:=himm i j x y hi hj
    exact ⟨v,h'.agree.cell _ _ _ hv,hrep.mono (CM.le_refl _) (Inj.noInj_le _)⟩
   | false =>
    have kept:∀k,k < p.cap*w->∀v,W.cell? ⟨p.blk,p.base+k,none⟩=some v->W'.cell? ⟨p.blk,p.base+k,none⟩=some v:=fun k hk v hv =>
     (h'.agree.keepC _ _ v (by rw [kc',aH ⟨o,p,bx,nr,fl,w,xs,k,hl,ho,hp',rfl,rfl,hk⟩]; exact hv)).1
    refine ⟨p,hp',hrow.pw,hrow.pos,hrow.cpos,hrow.len,hrow.shaped,hrow.nr,hrow.fl,fun i j x y hi hj=>?_,fun _=>⟨(hrow.own rfl).1,fun k hk=>?_⟩,fun h=>(by cases h)⟩
    ·obtain ⟨v,hv,hrep⟩:=hrow.cells i j x y hi hj
     have hi':=(aD.1 hi).1
     have hj':=(aD.1 hj).1
     rw [(hrow.shaped x (aF hi)).len] at hj'
     have hlt:i*w+j < p.cap*w:=by
      have h1:(i+1)*w<=p.cap*w:=aT _ (by have:=hrow.len; omega)
      rw [dW] at h1; omega
     have:=kept (i*w+j) hlt v (by rw [<-cJ]; exact hv)
     exact ⟨v,by rw [cJ]; exact this,hrep.mono hMM2 (Inj.le_refl _)⟩
    obtain ⟨o1,o2⟩:=(hrow.own rfl).2 k hk
    obtain ⟨v,hv⟩:=dT.1 o1
    refine ⟨by rw [kept k hk v hv]; rfl,?_⟩
    have hd:Qcw N ι σ p.blk (p.base+k):=⟨o,p,bx,nr,fl,w,xs,k,hl,ho,hp',rfl,rfl,hk⟩
    have:=hG.keepF p.blk (p.base+k) v (by show (if Qcw N ι σ p.blk (p.base+k) then _ else _)=_; rw [aH hd]; exact hv)
    exact this.trans o2
 ·by_cases hl:o < N
  ·obtain ⟨ho1,ho2⟩:=low hl ho
   obtain ⟨p,nt1,hp',hb1,hB1,tmps,hsz,hrec,hsl1⟩:=h'.loop o fn sl ps as bd st pe ho1
   refine ⟨p,nt1,by rw [<-hι o hl]; exact hp',(notB _ hb1).2,hB1,tmps,hsz,hrec,fun t x hx=>?_⟩
   obtain ⟨q,hq,rfl⟩:=Qvm hx
   exact repl (hA o _ hl ho2 q hq) (hsl1 t _ hx)
  ·have ho:=high hl ho
   obtain ⟨p,nt1,hp',hb1,hB1,tmps,hsz,hrec,hsl1⟩:=h.loop o fn sl ps as bd st pe ho
   refine ⟨p,nt1,hp',hb1,hB1,tmps,hsz,?_,fun t x hx=>(hsl1 t x hx).mono hMM2 (Inj.le_refl _)⟩
   exact (h'.agree.keep p.blk _ (by rw [blk',aH ⟨o,p,fn,sl,ps,as,bd,st,pe,hl,ho,hp',rfl⟩]; exact hrec)).1
 ·have cellOf:∀{k bx nr fl w xs q},¬ k < N->σ k=some (.row bx false nr fl w xs)->ι k=some q->∀j,j < q.cap*q.w->Qcw N ι σ q.blk (q.base+j):=fun {k bx nr fl w xs q} hk h1 hq j hj=>by
   obtain ⟨q',hq',hr⟩:=h.row k _ _ _ _ _ _ h1
   rw [hq] at hq'; cases hq'
   exact ⟨k,q,bx,nr,fl,w,xs,j,hk,h1,hq,rfl,rfl,by rw [<-hr.pw]; exact hj⟩
  have free:∀{k bx nr fl w xs q},k < N->(if k < N then σ' k else σ k)=some (.row bx false nr fl w xs)->ι k=some q->∀j,j < q.cap*q.w->¬ Qcw N ι σ q.blk (q.base+j):=fun {k bx nr fl w xs q} hk h1 hq j hj=>by
   obtain ⟨h1,_⟩:=low hk h1
   obtain ⟨q',hq',hr⟩:=h'.row k _ _ _ _ _ _ h1
   rw [hι k hk,hq] at hq'; cases hq'
   exact (notC _ _ (h'.cool k bx nr fl w xs q j h1 (by rw [hι k hk]; exact hq) (by rw [<-hr.pw]; exact hj)).2).1
  have mixed:∀{k bx nr fl w xs q k2 bx2 nr2 fl2 w2 xs2 q2},k < N->¬ k2 < N->(if k < N then σ' k else σ k)=some (.row bx false nr fl w xs)->(if k2 < N then σ' k2 else σ k2)=some (.row bx2 false nr2 fl2 w2 xs2)->ι k=some q->ι k2=some q2 ->
    q.blk≠q2.blk\/q.base+q.cap*q.w<=q2.base\/q2.base+q2.cap*q2.w<=q.base:=fun {k bx nr fl w xs q k2 bx2 nr2 fl2 w2 xs2 q2} l1 l2 h1 h2 h3 h4=>by
   apply Classical.byContradiction
   intro hno
   have hblk:q.blk=q2.blk:=Classical.byContradiction fun e=>hno (.inl e)
   have a1:¬ q.base+q.cap*q.w<=q2.base:=fun e=>hno (.inr (.inl e))
   have a2:¬ q2.base+q2.cap*q2.w<=q.base:=fun e=>hno (.inr (.inr e))
   have n1:0 < q.cap*q.w:=by
    obtain ⟨q',hq',hr⟩:=h'.row k _ _ _ _ _ _ (low l1 h1).1
    rw [hι k l1,h3] at hq'; cases hq'
    rcases hr.cpos with e | e
    ·exact Nat.mul_pos e (by rw [hr.pw]; exact hr.pos)
    ·rcases eG (q.cap*q.w) with z | z
     ·omega
     ·exact z
   have n2:0 < q2.cap*q2.w:=by
    obtain ⟨q',hq',hr⟩:=h.row k2 _ _ _ _ _ _ (high l2 h2)
    rw [h4] at hq'; cases hq'
    rcases hr.cpos with e | e
    ·exact Nat.mul_pos e (by rw [hr.pw]; exact hr.pos)
    ·rcases eG (q2.cap*q2.w) with z | z
     ·omega
     ·exact z
   have c1:=cellOf l2 (high l2 h2) h4
   have c2:=free l1 h1 h3
   rcases Nat.le_total q.base q2.base with e | e
   ·have:=c2 (q2.base - q.base) (by omega)
    rw [show q.base+(q2.base - q.base)=q2.base+0 by omega,hblk] at this
    exact this (c1 0 (by omega))
   ·have:=c2 0 (by omega)
    rw [hblk,show q.base+0=q2.base+(q.base - q2.base) by omega] at this
    exact this (c1 (q.base - q2.base) (by omega))
  by_cases l1:o < N
  ·by_cases l2:o' < N
   ·exact h'.apart o o' bx nr fl w xs bx' nr' fl' w' xs' p p' hne (low l1 h1).1 (low l2 h2).1 (by rw [hι o l1]; exact h3) (by rw [hι o' l2]; exact h4)
   ·exact mixed l1 l2 h1 h2 h3 h4
  ·by_cases l2:o' < N
   ·rcases mixed l2 l1 h2 h1 h4 h3 with a | a | a
    ·exact .inl (Ne.symm a)
    ·exact .inr (.inr a)
    ·exact .inr (.inl a)
   ·exact h.apart o o' bx nr fl w xs bx' nr' fl' w' xs' p p' hne (high l1 h1) (high l2 h2) h3 h4
 ·have free:∀{k fn sl ps as bd st pe q},k < N->(if k < N then σ' k else σ k)=some (.loop fn sl ps as bd st pe)->ι k=some q->¬ Qil N ι σ q.blk:=fun {k fn sl ps as bd st pe q} hk h1 hq=>by
   obtain ⟨h1,_⟩:=low hk h1
   obtain ⟨p,nt1,hp',hb1,_⟩:=h'.loop _ _ _ _ _ _ _ _ h1
   rw [hι k hk,hq] at hp'; cases hp'
   exact (notB _ hb1).1
  have one:∀{k fn sl ps as bd st pe q},¬ k < N->(if k < N then σ' k else σ k)=some (.loop fn sl ps as bd st pe)->ι k=some q->Qil N ι σ q.blk:=fun hk h1 hq=>⟨_,_,_,_,_,_,_,_,_,hk,high hk h1,hq,rfl⟩
  by_cases l1:o < N
  ·by_cases l2:o' < N
   ·exact h'.loops o o' fn sl ps as bd st pe fn' sl' ps' as' bd' st' pe' p p' hne (low l1 h1).1 (low l2 h2).1 (by rw [hι o l1]; exact h3) (by rw [hι o' l2]; exact h4)
   ·exact fun e=>free l1 h1 h3 (e ▸ one l2 h2 h4)
  ·by_cases l2:o' < N
   ·exact fun e=>free l2 h2 h4 (e ▸ one l1 h1 h3)
   ·exact h.loops o o' fn sl ps as bd st pe fn' sl' ps' as' bd' st' pe' p p' hne (high l1 h1) (high l2 h2) h3 h4
 ·by_cases hl:o < N
  ·rw [aH hl]
   have:=h'.used o (by rw [hι o hl]; exact ho)
   rw [aH hl] at this
   exact this
  ·rw [aI hl]; exact h.used o ho
end
end Go.Ab
