/- Rules. No conditions. -/
import Derived.RangeFuncLeaves
import Derived.Below
import Derived.Laws.AppendOwn
import Derived.Laws.IdiomCopy
import Derived.Laws.MakeOwn
import Derived.Laws.OwnMore
import Derived.Laws.Append
import Derived.Laws.Entries
import Derived.LaidEql
set_option linter.all false
namespace Go.Ab
def Qfn:Nat → Option (List Value):=fun _=>none
end Go.Ab
namespace Go.Ab
def BIG:Nat := 1152921504606846976
def fid (k i:Nat):Nat := BIG+((k+i)*(k+i)+i)
inductive AV where
 | undef
 | bool (b:Bool)
 | int (k:IntKind) (n:Int)
 | str (s:ByteArray)
 | nilp | nils | nilf | nilm | nili
 | emp
 | emn
 | fz (cs:List AV)
 | lst (fl:Bool) (xs:List AV)
 | ref (o i n:Nat)
 | ptr (o i c:Nat)
 | mp (o:Nat)
 | fn (f:Fn) (first caps:List AV)
 | yld (o:Nat)
 | ifc (t:TypeId) (v:AV)
 | agg (cs:List AV)
 | tup (vs:List AV)
 | lin (o i n:Nat)
 deriving Inhabited
def AV.flat : AV→List AV
 | .agg cs=>cs
 | v=>[v]
def AV.cell:AV→Bool
 | .agg _ | .tup _=>false
 | _=>true
def AV.sc:AV→Bool
 | .undef | .bool _ | .int _ _ | .str _ | .nilp | .nils | .nilf | .nilm | .nili | .emp | .emn=>true
 | .fn _ first caps=>first.isEmpty && caps.isEmpty
 | .lst _ xs=>xs.isEmpty
 | _=>false
def AV.scs (v:AV):Bool:=v.flat.all AV.sc
structure AV.shaped (x:AV) (w:Nat):Prop where
 form:x=.agg x.flat ∨ x.cell=true
 len:x.flat.length=w
 cells:∀y∈x.flat,AV.cell y=true
def Q1i (f:Nat → Nat → Option Value):Prop:=∀g xs,Qfn g=some xs→∀(i:Nat) (v:Value),xs[i]?=some v→f g i=some v
structure CM where
 f:Nat → Nat → Option Value
 ok:Q1i f
 blk:Nat → Option Obj
 kc:Nat → Nat → Option Value
instance instCM:CoeFun CM fun _=>Nat → Nat → Option Value:=⟨CM.f⟩
def M0:CM:=⟨fun g i=>(Qfn g).bind fun xs=>xs[i]?,fun g xs h i v hv=>by simp [h,hv],fun _=>none,fun _ _=>none⟩
structure K9 (M:CM) (W:World):Prop where
 cell:∀b o v,M b o=some v→W.cell? ⟨b,o,none⟩=some v
 keep:∀b x,M.blk b=some x→W.heap[b]?=some x∧(∀c e f,x≠.cells c e f)∧∀d,x≠.deferred d
 keepC:∀b o v,M.kc b o=some v→W.cell? ⟨b,o,none⟩=some v∧∀j,W.frozen? ⟨b,j,none⟩=false
instance instAgree {M:CM} {W:World}:CoeFun (K9 M W) fun _=>∀b o v,M b o=some v→W.cell? ⟨b,o,none⟩=some v:=⟨K9.cell⟩
def Qid (w:World):Prop:=∀g xs,Qfn g=some xs→∀(i:Nat) (v:Value),xs[i]?=some v→w.cell? ⟨g,i,none⟩=some v
structure Place where
 blk:Nat
 base:Nat
 w:Nat
 cap:Nat
abbrev Inj:=Nat → Option Place
def noInj:Inj:=fun _=>none
inductive Qa (M:CM):Inj→Value→AV→Prop
 | undef {ι:Inj} {v:Value} (h:v.oneCell'=true):Qa M ι v .undef
 | bool {ι:Inj} (b:Bool):Qa M ι (.bool b) (.bool b)
 | int {ι:Inj} (k:IntKind) (n:Int):Qa M ι (.int k n) (.int k n)
 | str {ι:Inj} (s:ByteArray):Qa M ι (.string s) (.str s)
 | nilp {ι:Inj}:Qa M ι (.pointer none) .nilp
 | nils {ι:Inj}:Qa M ι (.slice none 0 0) .nils
 | nilf {ι:Inj}:Qa M ι .nilFunc .nilf
 | nilm {ι:Inj}:Qa M ι (.map none) .nilm
 | nili {ι:Inj}:Qa M ι .nilIface .nili
 | emp {ι:Inj} (a:Option Addr):Qa M ι (.slice a 0 0) .emp
 | emn {ι:Inj} (a:Addr) (cap:Nat):Qa M ι (.slice (some a) 0 cap) .emn
 | lst0 {ι:Inj} (a:Option Addr) (fl:Bool):Qa M ι (.slice a 0 0) (.lst fl [])
 | ref0 {ι:Inj} (a:Option Addr) (o:Nat) (p:Place) (hp:ι o=some p) (hc:p.cap=0):Qa M ι (.slice a 0 0) (.ref o 0 0)
 | fz {ι:Inj} (b off:Nat) (cs:List AV) (f:Nat → Value) (hcs:∀y∈cs,AV.cell y=true)
   (hM:∀(j:Nat) (y:AV),cs[j]?=some y→M b (off+j)=some (f j)) (hr:∀(j:Nat) (y:AV),cs[j]?=some y→Qa M noInj (f j) y) :
   Qa M ι (.pointer (some ⟨b,off,none⟩)) (.fz cs)
 | lst {ι:Inj} (b off cap w:Nat) (fl:Bool) (xs:List AV) (f:Nat → Nat → Value) (hcap:xs.length≤cap) (hfl:fl=true→∀x∈xs,AV.scs x=true)
   (hc:∀x∈xs,x.shaped w)
   (hM:∀(i j:Nat) (x y:AV),xs[i]?=some x→x.flat[j]?=some y→M b (off+i*w+j)=some (f i j))
   (hr:∀(i j:Nat) (x y:AV),xs[i]?=some x→x.flat[j]?=some y→Qa M noInj (f i j) y) :
   Qa M ι (.slice (some ⟨b,off,none⟩) xs.length cap) (.lst fl xs)
 | ref {ι:Inj} (o i n:Nat) (p:Place) (off cap:Nat) (hp:ι o=some p) (hi:i+n≤p.cap) (hcap:cap=p.cap - i) (hoff:off=p.base+i*p.w∨cap=0) :
   Qa M ι (.slice (some ⟨p.blk,off,none⟩) n cap) (.ref o i n)
 | ptr {ι:Inj} (o i c:Nat) (p:Place) (hp:ι o=some p):Qa M ι (.pointer (some ⟨p.blk,p.base+i*p.w+c,none⟩)) (.ptr o i c)
 | mp {ι:Inj} (o:Nat) (p:Place) (hp:ι o=some p):Qa M ι (.map (some p.blk)) (.mp o)
 | fn {ι:Inj} (f:Fn) (first' caps':Array Value) (first caps:List AV) (hy:∀l,f≠.yield l) (hm:∀s,f≠.method s) (h1:first'.size=first.length) (h2:caps'.size=caps.length)
   (hr1:∀(j:Nat) (v:Value) (y:AV),first'[j]?=some v→first[j]?=some y→Qa M ι v y) (hr2:∀(j:Nat) (v:Value) (y:AV),caps'[j]?=some v→caps[j]?=some y→Qa M ι v y) :
   Qa M ι (.func f first' caps') (.fn f first caps)
 | yld {ι:Inj} (o:Nat) (p:Place) (hp:ι o=some p):Qa M ι (.func (.yield p.blk) #[] #[]) (.yld o)
 | ifc {ι:Inj} (t:TypeId) (v':Value) (v:AV) (hr:Qa M ι v' v):Qa M ι (.iface t v') (.ifc t v)
 | agg {ι:Inj} (cs':Array Value) (cs:List AV) (h:cs'.size=cs.length) (hc:∀y∈cs,AV.cell y=true)
   (hr:∀(j:Nat) (v:Value) (y:AV),cs'[j]?=some v→cs[j]?=some y→Qa M ι v y):Qa M ι (.agg cs') (.agg cs)
 | lin {ι:Inj} {v:Value} (o i n:Nat) (h:Qa M ι v (.ref (fid o i) 0 n)):Qa M ι v (.lin o i n)
 | tup {ι:Inj} (vs':Array Value) (vs:List AV) (h:vs'.size=vs.length)
   (hr:∀(j:Nat) (v:Value) (y:AV),vs'[j]?=some v→vs[j]?=some y→Qa M ι v y):Qa M ι (.tuple vs') (.tup vs)
def CM.le (M M':CM):Prop:=∀b o v,M b o=some v→M' b o=some v
def Inj.le (ι ι':Inj):Prop:=∀o p,ι o=some p→ι' o=some p
theorem CM.le_refl (M:CM):M.le M:=fun _ _ _ h=>h
theorem Inj.le_refl (ι:Inj):ι.le ι:=fun _ _ h=>h
theorem CM.le_trans {A B C:CM} (h:A.le B) (k:B.le C):A.le C:=fun _ _ _ x=>k _ _ _ (h _ _ _ x)
theorem Inj.le_trans {A B C:Inj} (h:A.le B) (k:B.le C):A.le C:=fun _ _ x=>k _ _ (h _ _ x)
theorem Qa.mono {M M':CM} {ι ι':Inj} (hM:M.le M') (hι:ι.le ι') {v:Value} {a:AV} (h:Qa M ι v a):Qa M' ι' v a:=by
 induction h generalizing ι' with
 | undef h=>exact .undef h
 | bool b=>exact .bool b
 | int k n=>exact .int k n
 | str s=>exact .str s
 | nilp=>exact .nilp
 | nils=>exact .nils
 | nilf=>exact .nilf
 | nilm=>exact .nilm
 | nili=>exact .nili
 | emp a=>exact .emp a
 | emn a c=>exact .emn a c
 | lst0 a fl=>exact .lst0 a fl
 | ref0 a o p hp hc=>exact .ref0 a o p (hι _ _ hp) hc
 | fz b off cs f hcs hm hr ih=>exact .fz b off cs f hcs (fun j y hj=>hM _ _ _ (hm j y hj)) (fun j y hj=>ih j y hj (Inj.le_refl _))
 | lst b off cap w fl xs f hcap hfl hc hm hr ih=>exact .lst b off cap w fl xs f hcap hfl hc (fun i j x y hi hj=>hM _ _ _ (hm i j x y hi hj)) (fun i j x y hi hj=>ih i j x y hi hj (Inj.le_refl _))
 | ref o i n p off cap hp hi hcap hoff=>exact .ref o i n p off cap (hι _ _ hp) hi hcap hoff
 | ptr o i c p hp=>exact .ptr o i c p (hι _ _ hp)
 | mp o p hp=>exact .mp o p (hι _ _ hp)
 | fn f first' caps' first caps hy hm h1 h2 hr1 hr2 ih1 ih2=>exact .fn f first' caps' first caps hy hm h1 h2 (fun j v y a b=>ih1 j v y a b hι) (fun j v y a b=>ih2 j v y a b hι)
 | yld o p hp=>exact .yld o p (hι _ _ hp)
 | ifc t v' v hr ih=>exact .ifc t v' v (ih hι)
 | agg cs' cs h hc hr ih=>exact .agg cs' cs h hc (fun j v y a b=>ih j v y a b hι)
 | tup vs' vs h hr ih=>exact .tup vs' vs h (fun j v y a b=>ih j v y a b hι)
 | lin o i n h ih=>exact .lin o i n (ih hι)
theorem Qa.of_sc {M M':CM} {ι ι':Inj} {v:Value} {a:AV} (hs:a.sc=true) (h:Qa M ι v a):Qa M' ι' v a:=by
 cases h with
 | undef h=>exact .undef h
 | bool b=>exact .bool b
 | int k n=>exact .int k n
 | str s=>exact .str s
 | nilp=>exact .nilp
 | nils=>exact .nils
 | nilf=>exact .nilf
 | nilm=>exact .nilm
 | nili=>exact .nili
 | emp a=>exact .emp a
 | emn a c=>exact .emn a c
 | lst0 a fl=>exact .lst0 a fl
 | lst b off cap w fl xs f hcap hfl hc hm hr =>
  have:xs=[]:=by simpa [AV.sc] using hs
  subst this
  exact .lst b off cap w fl [] f hcap hfl hc (fun i j x y hi=>by simp at hi) (fun i j x y hi=>by simp at hi)
 | fn f first' caps' first caps hy hm h1 h2 hr1 hr2 =>
  simp only [AV.sc,Bool.and_eq_true,List.isEmpty_iff] at hs
  obtain ⟨rfl,rfl⟩:=hs
  exact .fn f first' caps' [] [] hy hm h1 h2 (fun j v y _ hy=>by simp at hy) (fun j v y _ hy=>by simp at hy)
 | _=>simp [AV.sc] at hs
theorem Qa.oneCell {M:CM} {ι:Inj} {v:Value} {a:AV} (hc:a.cell=true) (h:Qa M ι v a):v.oneCell'=true:=by
 cases h <;> first | assumption | rfl | (simp [AV.cell] at hc; done) | (rename_i h; cases h <;> rfl)
theorem Qa.cells {M:CM} {ι:Inj} {v:Value} {a:AV} (h:Qa M ι v a) (hs:a=.agg a.flat ∨ a.cell=true) :
  v.cells.size=a.flat.length∧(∀(j:Nat) (u:Value) (y:AV),v.cells[j]?=some u→a.flat[j]?=some y→Qa M ι u y∧u.oneCell'=true)∧∀y∈a.flat,AV.cell y=true:=by
 rcases hs with hs | hs
 ·generalize hf:a.flat = cs at hs
  subst hs
  cases h with
  | agg cs' cs h hc hr =>
   refine ⟨by simpa [Value.cells,AV.flat] using h,fun j u y h1 h2=>?_,by simpa [AV.flat] using hc⟩
   have h1':cs'[j]?=some u:=h1
   exact ⟨hr j u y h1' h2,(hr j u y h1' h2).oneCell (hc y (List.mem_of_getElem? h2))⟩
 ·have hv:v.cells=#[v]:=by
   have:=h.oneCell hs
   cases v <;> simp_all [Value.cells,Value.oneCell']
  have hf:a.flat = [a]:=by cases a <;> simp_all [AV.flat,AV.cell]
  rw [hv,hf]
  refine ⟨rfl,fun j u y h1 h2=>?_,by simpa using hs⟩
  cases j with
  | zero=>simp at h1 h2; subst h1; subst h2; exact ⟨h,h.oneCell hs⟩
  | succ j=>simp at h2
end Go.Ab
namespace Go.Ab
inductive AObj where
 | row (bx ro nr fl:Bool) (w:Nat) (xs:List AV)
 | loop (nt:Nat) (slots:List (Nat × AV)) (params:List Tmp) (assign body:Code) (st:LoopState) (pending:Option Code)
 | fam (w:Nat) (fl:Bool) (xs:List (List AV))
 | refs (j:Nat) (xs:List (List AV))
 | dead
 deriving Inhabited
def Zi (k:Nat):Nat → List (List AV)→List AV
 | _,[]=>[]
 | i,l::r=>.ref (fid k i) 0 l.length::Zi k (i+1) r
def AObj.plain:AObj→AObj
 | .fam _ _ _=>.dead
 | .refs j xs=>.row false false false false 1 (Zi j 0 xs)
 | x=>x
def lk:List (Nat × AV)→Nat → Option AV
 | [],_=>none
 | (k,v)::r,t=>if Nat.beq k t then some v else lk r t
abbrev Sto:=Nat → Option AObj
abbrev Slots:=Nat → Option AV
inductive SK where
 | int | bool | str
inductive Qyh where
 | int (k:IntKind) | bool | str | ptr | func | iface
 | slice (e:TypeId)
 | array (n:Nat) (e:TypeId)
 | struct (fs:List (Nat × TypeId))
 | map (k e:TypeId)
 | other
structure TI where
 kind:Qyh
 size:Nat
 bytes:Nat
 agg:Bool
 zero:Option AV
 fok:Bool
 eqok:Option (List SK)
def Qdi:Value→Option AV
 | .bool b=>some (.bool b)
 | .int k n=>some (.int k n)
 | .string s=>some (.str s)
 | .pointer none=>some .nilp
 | .slice none 0 0=>some .nils
 | .nilFunc=>some .nilf
 | .map none=>some .nilm
 | .nilIface=>some .nili
 | .func (.func f) ⟨[]⟩ ⟨[]⟩=>some (.fn (.func f) [] [])
 | .agg _=>none
 | .tuple _=>none
 | _=>some .undef
def Qai:List Value→Option (List AV)
 | []=>some []
 | v::vs=>match Qdi v,Qai vs with
  | some a,some as=>some (a::as)
  | _,_=>none
def Qhv:Value→Option AV
 | .agg cs=>(Qai cs.toList).map .agg
 | v=>Qdi v
def Jf (P:Program) (t:TypeId):Option SK :=
 match P.underlying t with
 | some .bool=>some .bool
 | some (.int _)=>some .int
 | some .string=>some .str
 | _=>none
def J6 (P:Program):Nat → List Field→Option (List SK)
 | _,[]=>some []
 | i,f::r=>if f.name != "_" && f.offset==i then match Jf P f.type,J6 P (i+1) r with
   | some k,some ks=>some (k::ks)
   | _,_=>none
  else none
def eqT (P:Program) (t:TypeId):Option (List SK) :=
 if P.eqGuardType P.depth t then none else
 match P.underlying t with
 | some (.struct fs)=>if P.stoodInHeld t then none else J6 P 0 fs.toList
 | some (.array n e)=>if P.cellsOf e==1 then (Jf P e).map fun k=>List.replicate n k else none
 | _=>none
def Qas (P:Program):Nat → List Field→Option (List SK)
 | _,[]=>some []
 | i,f::r=>if f.name != "_" && f.offset==i then match Jf P f.type with
   | some k=>match Qas P (i+1) r with
    | some ks=>some (k::ks)
    | none=>none
   | none=>match P.underlying f.type with
    | some (.array n e)=>if P.cellsOf e==1 && P.cellsOf f.type==n && 0 < n then match Jf P e,Qas P (i+n) r with
      | some k,some ks=>some (List.replicate n k++ks)
      | _,_=>none
     else none
    | _=>none
  else none
def eqDeep (P:Program) (t:TypeId):Option (List SK):=match eqT P t with
 | some ks=>some ks
 | none=>if P.eqGuardType P.depth t then none else match P.underlying t with
  | some (.struct fs)=>if P.stoodInHeld t then none else Qas P 0 fs.toList
  | _=>none
def Ym:TypeDesc→Qyh
 | .int k=>.int k
 | .bool=>.bool
 | .string=>.str
 | .pointer _=>.ptr
 | .func ..=>.func
 | .interface _=>.iface
 | .slice e=>.slice e
 | .array n e=>.array n e
 | .struct fs=>.struct (fs.toList.map fun f=>(f.offset,f.type))
 | .map k e=>.map k e
 | _=>.other
def Qrs:TypeDesc→Bool
 | .struct _ | .array _ _=>true
 | _=>false
def ti (P:Program) (t:TypeId):Option TI :=
 match P.underlying t,P.info? t with
 | some d,some i=>some { kind:=Ym d,size:=i.size,bytes:=i.bytes,agg:=Qrs d,zero:=i.zero.bind Qhv,fok:=(match d with | .struct fs=>fs.toList.all fun f=>(P.info? f.type).isSome | _=>true),eqok:=eqDeep P t }
 | _,_=>none
def K6 (T:TI) (cs:List AV):Option AV :=
 if T.agg then (if T.size≤cs.length then some (.agg (cs.take T.size)) else none) else cs.head?
def Qca (x:AV) (c:Nat) (v:AV):Option AV :=
 match x with
 | .agg cs=>if c+v.flat.length≤cs.length then some (.agg (cs.take c++v.flat ++ cs.drop (c+v.flat.length))) else none
 | _=>if c=0 && v.cell && x.cell then some v else none
def AV.okv:AV→Bool
 | .tup _=>false
 | _=>true
mutual
def AV.nr:AV→Bool
 | .ref .. | .ptr .. | .mp _ | .yld _ | .lin ..=>false
 | .agg cs=>AV.nrL cs
 | .tup vs=>AV.nrL vs
 | .fn _ a b=>AV.nrL a && AV.nrL b
 | .ifc _ v=>v.nr
 | _=>true
def AV.nrL:List AV→Bool
 | []=>true
 | x::xs=>x.nr && AV.nrL xs
end
mutual
def AV.ids:AV→List Nat
 | .ref o _ _ | .ptr o _ _ | .mp o | .yld o=>[o]
 | .lin o i _=>[fid o i]
 | .agg cs=>AV.idsL cs
 | .tup vs=>AV.idsL vs
 | .fn _ a b=>AV.idsL a++AV.idsL b
 | .ifc _ v=>v.ids
 | _=>[]
def AV.idsL:List AV→List Nat
 | []=>[]
 | x::xs=>x.ids++AV.idsL xs
end
mutual
def AV.shift (k:Nat):AV→AV
 | .ref o i n=>.ref (k+o) i n
 | .ptr o i c=>.ptr (k+o) i c
 | .mp o=>.mp (k+o)
 | .yld o=>.yld (k+o)
 | .lin o i n=>.ref (k+fid o i) 0 n
 | .agg cs=>.agg (AV.shiftL k cs)
 | .tup vs=>.tup (AV.shiftL k vs)
 | .fn f a b=>.fn f (AV.shiftL k a) (AV.shiftL k b)
 | .ifc t v=>.ifc t (v.shift k)
 | v=>v
def AV.shiftL (k:Nat):List AV→List AV
 | []=>[]
 | x::xs=>x.shift k::AV.shiftL k xs
end
mutual
def AV.cls:AV→Bool
 | .lst _ _=>false
 | .fz _=>false
 | .agg cs=>AV.clsL cs
 | .tup vs=>AV.clsL vs
 | .fn _ a b=>AV.clsL a && AV.clsL b
 | .ifc _ v=>v.cls
 | _=>true
def AV.clsL:List AV→Bool
 | []=>true
 | x::xs=>x.cls && AV.clsL xs
end
def Q4 (f:AV→Option (AV × List Nat)):List AV→Option (List AV × List Nat)
 | []=>some ([],[])
 | x::xs=>match f x,Q4 f xs with
  | some (y,a),some (ys,b)=>some (y::ys,a++b)
  | _,_=>none
def Qt (σ:Sto):Nat → AV→Option (AV × List Nat)
 | 0,_=>none
 | d+1,a=>match a with
  | .ref o i n=>match σ o with
   | some (.row _ _ nr fl _ xs) =>
    if i+n≤xs.length then
     if nr then some (.lst fl ((xs.drop i).take n),[o])
     else match Q4 (Qt σ d) xs with
      | some (ys,ids)=>some (.lst false ((ys.drop i).take n),o::ids)
      | none=>none
    else none
   | _=>none
  | .ptr o i c=>match σ o with
   | some (.row _ _ _ _ _ xs) =>
    match Q4 (Qt σ d) xs with
    | some (ys,ids)=>match ys[i]? with
     | some y=>some (.fz (y.flat.drop c),o::ids)
     | none=>none
    | none=>none
   | _=>none
  | .agg cs=>match Q4 (Qt σ d) cs with | some (ys,ids)=>some (.agg ys,ids) | none=>none
  | .tup cs=>match Q4 (Qt σ d) cs with | some (ys,ids)=>some (.tup ys,ids) | none=>none
  | .fn f a b=>match Q4 (Qt σ d) a,Q4 (Qt σ d) b with | some (x,i),some (y,j)=>some (.fn f x y,i++j) | _,_=>none
  | .ifc t v=>match Qt σ d v with | some (y,i)=>some (.ifc t y,i) | none=>none
  | .mp _ | .yld _ | .lin ..=>none
  | a=>some (a,[])
def Qn:Nat := 8
def Qay (σ:Sto) (all:List Nat):List Nat → Option (List (Nat × AObj))
 | []=>some []
 | o::os=>match σ o,Qay σ all os with
  | some (.row bx _ nr fl w xs),some es =>
   if nr then some ((o,.row bx true true fl w xs)::es)
   else match Q4 (Qt σ Qn) xs with
    | some (ys,ids)=>if ids.all fun k=>all.contains k then some ((o,.row bx true true false w ys)::es) else none
    | none=>none
  | _,_=>none
def frz (σ:Sto) (ids:List Nat):Option (List (Nat × AObj)):=Qay σ ids ids
inductive Z2 where
 | ret (v:AV) (objs:List AObj)
 | pan (v:AV)
structure Res where
 v:Option AV
 eff:List (Nat × AObj)
 fr:Nat
 rd:List Nat
inductive Vy where
 | val (r:Res)
 | pan (v:AV)
def evo (s:Slots):Operand→Option AV
 | .tmp t=>s t
 | .const v=>Qhv v
 | .global g=>match Qfn g with
  | some xs=>(Qai xs).map .fz
  | none=>none
 | .func f=>some (.fn (.func f) [] [])
def Ja (s:Slots):List Operand→Option (List AV)
 | []=>some []
 | x::xs=>match evo s x,Ja s xs with
  | some a,some as=>some (a::as)
  | _,_=>none
def Qj4:SK→AV→AV→Option Bool
 | .int,.int k a,.int k' b=>if k=k' then some (a==b) else none
 | .bool,.bool a,.bool b=>some (a==b)
 | .str,.str a,.str b=>some (a.toList==b.toList)
 | _,_,_=>none
def scEqL:List SK→List AV→List AV→Option Bool
 | [],[],[]=>some true
 | k::ks,a::as,b::bs=>match Qj4 k a b,scEqL ks as bs with
  | some x,some y=>some (x && y)
  | _,_=>none
 | _,_,_=>none
def absEq (T:TI) (x y:AV):Option Bool :=
 match x,y with
 | .agg a,.agg b=>match T.eqok with | some ks=>scEqL ks a b | none=>none
 | .nilp,.nilp=>match T.kind with | .ptr=>some true | _=>none
 | .nilp,.ptr .. | .nilp,.fz _ | .ptr ..,.nilp | .fz _,.nilp=>match T.kind with | .ptr=>some false | _=>none
 | .nils,.nils=>match T.kind with | .slice _=>some true | _=>none
 | .nils,.ref _ _ (_+1) | .nils,.lst _ (_::_) | .ref _ _ (_+1),.nils | .lst _ (_::_),.nils=>match T.kind with | .slice _=>some false | _=>none
 | .nils,.emn | .emn,.nils=>match T.kind with | .slice _=>some false | _=>none
 | .nilf,.nilf=>match T.kind with | .func=>some true | _=>none
 | .nilf,.fn .. | .fn ..,.nilf=>match T.kind with | .func=>some false | _=>none
 | .bool a,.bool b=>match T.kind with | .bool=>some (a==b) | _=>none
 | _,_=>none
def Qh6 (op:BinOp) (k:IntKind) (a b:Int):Option AV :=
 match op with
 | .add=>some (.int k (k.wrap (a+b)))
 | .sub=>some (.int k (k.wrap (a - b)))
 | .mul=>some (.int k (k.wrap (a*b)))
 | .quo=>if b=0 then none else some (.int k (k.wrap (a.tdiv b)))
 | .rem=>if b=0 then none else some (.int k (a.tmod b))
 | .and=>some (.int k (k.wrap (BitVec.ofInt k.bits a &&& BitVec.ofInt k.bits b).toNat))
 | .or=>some (.int k (k.wrap (BitVec.ofInt k.bits a ||| BitVec.ofInt k.bits b).toNat))
 | .xor=>some (.int k (k.wrap (BitVec.ofInt k.bits a ^^^ BitVec.ofInt k.bits b).toNat))
 | .andNot=>some (.int k (k.wrap (BitVec.ofInt k.bits a &&& ~~~ BitVec.ofInt k.bits b).toNat))
 | .eql=>some (.bool (a==b))
 | .neq=>some (.bool (a != b))
 | .lss=>some (.bool (decide (a < b)))
 | .leq=>some (.bool (decide (a≤b)))
 | .gtr=>some (.bool (decide (a > b)))
 | .geq=>some (.bool (decide (a≥b)))
 | _=>none
def Qfw (P:Program) (op:BinOp) (t:TypeId) (x y:AV):Option AV :=
 match op,x,y with
 | .shl,.int k a,.int _ b=>if b < 0 then none else some (.int k (k.wrap (a*2^min b.toNat k.bits)))
 | .shr,.int k a,.int _ b=>if b < 0 then none else some (.int k (a.fdiv (2^min b.toNat k.bits)))
 | _,.int k a,.int k' b=>if k=k' then Qh6 op k a b else none
 | .eql,x,y=>match ti P t with | some T=>(absEq T x y).map .bool | none=>none
 | .neq,x,y=>match ti P t with | some T=>(absEq T x y).map fun b=>.bool (!b) | none=>none
 | _,_,_=>none
def Qyn (op:UnOp) (x:AV):Option AV :=
 match op,x with
 | .neg,.int k n=>some (.int k (k.wrap (0 - n)))
 | .xor,.int k n=>some (.int k (k.wrap (BitVec.ofInt k.bits (if k.signed then -1 else k.max) ^^^ BitVec.ofInt k.bits n).toNat))
 | .not,.bool b=>some (.bool !b)
 | _,_=>none
def Qcs:AV→List AV→Option AV
 | a,[]=>some a
 | .int k x,.int k' y::r=>if k=k' then Qcs (.int k (if y < x then y else x)) r else none
 | _,_=>none
def Qcg:AV→List AV→Option AV
 | a,[]=>some a
 | .int k x,.int k' y::r=>if k=k' then Qcg (.int k (if y > x then y else x)) r else none
 | _,_=>none
def Qgq (w:Nat):List AV→Bool
 | []=>true
 | x::_=>Nat.beq x.flat.length w
def Y5 (σ:Sto) (w:Nat):AV→Option (List AV × Bool × Bool × List Nat)
 | .nils | .emp | .emn=>some ([],true,true,[])
 | .lst fl xs=>if Qgq w xs then some (xs,true,fl,[]) else none
 | .ref o i n=>match σ o with
  | some (.row false _ nr fl w' xs)=>if w'=w && Nat.ble (i+n) xs.length then some ((xs.drop i).take n,nr,fl,[o]) else none
  | _=>none
 | _=>none
def Js (xs:List AV) (i:Nat):List AV→List AV
 | []=>xs
 | y::ys=>Js (xs.set i y) (i+1) ys
def Yr (bytes n:Nat):Bool:=Nat.blt 0 bytes && Nat.ble (n*bytes) 140737488355328
def TI.zok (T:TI):Bool :=
 match T.zero with
 | some z=>Nat.beq z.flat.length T.size
 | none=>false
def absAppend (σ:Sto) (fr:Nat) (T:TI) (s:AV) (ys:List AV) (nr fl:Bool):Option Res :=
 match s with
 | .nils | .emp=>if T.zok && Yr T.bytes ys.length && Nat.blt 0 T.size then some ⟨some (.ref fr 0 ys.length),[(fr,.row false false nr fl T.size ys)],fr+1,[]⟩ else none
 | .lst ..=>if ys.isEmpty then some ⟨some s,[],fr,[]⟩ else none
 | .ref o i n=>match σ o with
  | some (.row false false nr' fl' w xs) =>
   if Nat.beq w T.size && Nat.ble (i+n) xs.length then
    if Nat.beq (i+n) xs.length then
     if T.zok && Yr T.bytes (n+ys.length) then some ⟨some (.ref fr 0 (n+ys.length)),[(o,.dead),(fr,.row false false (nr' && nr) (fl' && fl) w (xs.drop i++ys))],fr+1,[o]⟩ else none
    else if ys.isEmpty then some ⟨some s,[],fr,[o]⟩ else
    if Nat.ble (i+n+ys.length) xs.length then some ⟨some (.ref o i (n+ys.length)),[(o,.row false false (nr' && nr) (fl' && fl) w (Js xs (i+n) ys))],fr,[o]⟩
    else if T.zok && Yr T.bytes (n+ys.length) then
     some ⟨some (.ref fr 0 (n+ys.length)),[(o,.dead),(fr,.row false false (nr' && nr) (fl' && fl) w ((xs.drop i).take n++ys))],fr+1,[o]⟩
    else none
   else none
  | _=>none
 | _=>none
def asN:AV→Option Nat
 | .int _ n=>if n < 0 then none else some n.toNat
 | _=>none
def Yf:Option AV→Nat → Option Nat
 | none,d=>some d
 | some a,_=>asN a
def Jd (s:Slots):Option Operand→Option (Option AV)
 | none=>some none
 | some x=>(evo s x).map some
def Jc (σ:Sto) (w:Nat) (x:AV) (lo hi mx:Option AV):Option (AV × List Nat) :=
 match x with
 | .nils=>match Yf lo 0,Yf hi 0,Yf mx 0 with
  | some 0,some 0,some 0=>some (.nils,[])
  | _,_,_=>none
 | .emp=>match Yf lo 0,Yf hi 0,Yf mx 0 with
  | some 0,some 0,some 0=>some (.emp,[])
  | _,_,_=>none
 | .lst fl xs=>match Yf lo 0,Yf hi xs.length,Yf mx xs.length with
  | some l,some h,some m=>if Nat.ble l h && Nat.ble h m && Nat.ble m xs.length && Qgq w xs then (if mx.isSome && Nat.beq m l then some (.emp,[]) else some (.lst fl ((xs.drop l).take (h - l)),[])) else none
  | _,_,_=>none
 | .ref o i n=>match σ o with
  | some (.row false _ _ _ w' xs)=>match Yf lo 0,Yf hi n,mx with
   | some l,some h,none=>if Nat.ble l h && Nat.ble (i+h) xs.length && Nat.beq w' w then some (.ref o (i+l) (h - l),[o]) else none
   | some l,some h,some m=>match asN m with
    | some m=>if Nat.ble l h && Nat.ble h m && Nat.ble (i+m) xs.length && Nat.beq m l then some (.emp,[o]) else none
    | none=>none
   | _,_,_=>none
  | _=>none
 | _=>none
def Qap (place:Nat → Option (Nat × Nat)) (cells:List AV):List (Nat × AV)→Option (List AV)
 | []=>some cells
 | (i,v)::rest=>match place i with
  | some (off,size)=>if v.okv && Nat.beq v.flat.length size && Nat.ble (off+size) cells.length then Qap place (cells.take off++v.flat ++ cells.drop (off+size)) rest else none
  | none=>none
def Qat (w:Nat) (xs:List AV):List (Nat × AV)→Option (List AV)
 | []=>some xs
 | (i,v)::rest=>if v.okv && Nat.beq v.flat.length w && Nat.blt i xs.length then Qat w (xs.set i v) rest else none
def Jq (s:Slots):List (Nat × Operand)→Option (List (Nat × AV))
 | []=>some []
 | (i,x)::r=>match evo s x,Jq s r with
  | some a,some as=>some ((i,a)::as)
  | _,_=>none
def Zp (σ:Sto):List (Nat × AV)→Option (List (Nat × AV) × List Nat)
 | []=>some ([],[])
 | (i,x)::r=>match (if x.nr then some (x,[]) else Qt σ Qn x),Zp σ r with
  | some (y,a),some (ys,b)=>some ((i,y)::ys,a++b)
  | _,_=>none
def Qdy (k:Nat):AObj→AObj
 | .row bx ro nr fl w xs=>.row bx ro nr fl w (if nr then xs else AV.shiftL k xs)
 | o=>o
def Yg (k:Nat):Nat → List AObj→List (Nat × AObj)
 | _,[]=>[]
 | i,o::os=>(i,Qdy k o)::Yg k (i+1) os
def AObj.flat : AObj→Bool
 | .row _ _ _ fl _ _=>fl
 | _=>false
def AObj.okRow:AObj→Bool
 | .row false false true _ _ _=>true
 | _=>false
def Zt (fr:Nat) (v:Option AV):Option Vy:=v.map fun v=>.val ⟨some v,[],fr,[]⟩
def Qdn (C:FuncId→List AV→Option Z2) (σ:Sto) (fr:Nat) (f:FuncId) (args:List AV):Option Vy :=
 match Q4 (Qt σ Qn) args with
 | some (as,ids)=>match C f as with
  | some (.ret r objs) =>
   if objs.all AObj.okRow then
    if ids.isEmpty || (r.cls && objs.all AObj.flat) then some (.val ⟨some (r.shift fr),Yg fr fr objs,fr+objs.length,ids⟩)
    else match frz σ ids with
     | some es=>some (.val ⟨some (r.shift fr),es++Yg fr fr objs,fr+objs.length,ids⟩)
     | none=>none
   else none
  | some (.pan v)=>some (.pan v)
  | none=>none
 | none=>none
def Qe1 (P:Program) (fs:List (Nat × TypeId)) (i:Nat):Option (Nat × Nat) :=
 match fs[i]? with
 | some (off,u)=>(ti P u).map fun U=>(off,U.size)
 | none=>none
def Qof (P:Program) (fr:Nat) (s:Slots) (args:List Operand) (ts:List TypeId):Option Vy :=
 match args,ts with
 | [x],t::_=>match ti P t,evo s x with
  | some T,some a=>match T.kind,a with
   | .slice _,.nils=>Zt fr (some (.int .i64 0))
   | .slice _,.emp=>Zt fr (some (.int .i64 0))
   | .slice _,.emn=>Zt fr (some (.int .i64 0))
   | .slice _,.lst _ xs=>Zt fr (some (.int .i64 xs.length))
   | .slice _,.ref _ _ n=>Zt fr (some (.int .i64 n))
   | .array n _,_=>Zt fr (some (.int .i64 n))
   | _,_=>none
  | _,_=>none
 | _,_=>none
def Qtg (P:Program) (fr:Nat) (s:Slots) (args:List Operand) (ts:List TypeId):Option Vy :=
 match args,ts with
 | [x],t::_=>match ti P t,evo s x with
  | some T,some a=>match T.kind,a with
   | .slice _,.nils=>Zt fr (some (.int .i64 0))
   | .slice _,.emp=>Zt fr (some (.int .i64 0))
   | _,_=>none
  | _,_=>none
 | _,_=>none
def Qae (P:Program) (nf:Bool) (σ:Sto) (fr:Nat) (s:Slots) (args:List Operand) (ts:List TypeId):Option Vy :=
 match args,ts with
 | [x,y],t::u::_=>match ti P t,ti P u,evo s x,evo s y with
  | some T,some _,some a,some b=>if !Nat.beq t u then none else match T.kind with
   | .slice e=>match ti P e with
    | some E=>match Y5 σ E.size b with
     | some (ys,nr,fl,rd) =>
      if nr || nf then (absAppend σ fr E a ys nr fl).map fun r=>.val { r with rd:=rd++r.rd }
      else match Q4 (Qt σ Qn) ys with
       | some (ys',ids)=>match frz σ ids,absAppend σ fr E a ys' true false with
        | some es,some r=>if ids.any fun i=>r.eff.any fun e=>Nat.beq e.1 i then none else some (.val { r with eff:=es++r.eff,rd:=rd++ids++r.rd })
        | _,_=>none
       | none=>none
     | none=>none
    | none=>none
   | _=>none
  | _,_,_,_=>none
 | _,_=>none
def Qft (P:Program) (nf:Bool) (σ:Sto) (fr:Nat) (s:Slots) (args:List Operand) (ts:List TypeId):Option Vy :=
 match args,ts with
 | [x,y],t::_=>match ti P t,evo s x,evo s y with
  | some T,some a,some b=>match T.kind with
   | .slice e=>match ti P e with
    | some E=>match Y5 σ E.size b with
     | some (ys,nr,fl,rd)=>match a with
      | .nils | .emp=>some (.val ⟨some (.int .i64 0),[],fr,rd⟩)
      | .ref o i n=>match σ o with
       | some (.row false false nr' fl' w xs) =>
        if Nat.beq w E.size && Nat.ble (i+n) xs.length && (nr || nf) then
         some (.val ⟨some (.int .i64 (min ys.length n:Nat)),[(o,.row false false (nr' && nr) (fl' && fl) w (Js xs i (ys.take n)))],fr,o::rd⟩)
        else none
       | _=>none
      | _=>none
     | none=>none
    | none=>none
   | _=>none
  | _,_,_=>none
 | _,_=>none
def Qsm (fr:Nat) (s:Slots) (args:List Operand):Option Vy :=
 match args with
 | x::xs=>match evo s x,Ja s xs with
  | some a,some as=>Zt fr (Qcs a as)
  | _,_=>none
 | []=>none
def Qtl (fr:Nat) (s:Slots) (args:List Operand):Option Vy :=
 match args with
 | x::xs=>match evo s x,Ja s xs with
  | some a,some as=>Zt fr (Qcg a as)
  | _,_=>none
 | []=>none
def Xg:Nat → List (AV × AV)→List (Nat × AV)
 | _,[]=>[]
 | i,(k,v)::r=>(i,k)::(i+1,v)::Xg (i+2) r
def mapO (es:List (AV × AV)):AObj:=.loop (2*es.length) (Xg 0 es) [] .skip .skip .exhausted none
def Qb3:Nat → List (Nat × AV)→Option (List (AV × AV))
 | _,[]=>some []
 | i,(a,k)::(b,v)::r=>if Nat.beq a i && Nat.beq b (i+1) then (Qb3 (i+2) r).map ((k,v)::·) else none
 | _,_::[]=>none
def Qa6:AObj→Option (List (AV × AV))
 | .loop nt sl [] .skip .skip .exhausted none=>match Qb3 0 sl with
  | some es=>if Nat.beq nt (2*es.length) then some es else none
  | none=>none
 | _=>none
def SK.key:SK→Bool
 | .int=>true
 | .bool=>true
 | .str=>false
def Qyy (P:Program) (kt:TypeId):Option (List SK):=match eqT P kt with
 | some ks=>if ks.all SK.key then some ks else none
 | none=>none
def Xj (P:Program) (kt:TypeId) (a b:AV):Option Bool:=match Jf P kt with
 | some .int=>Qj4 .int a b
 | some _=>none
 | none=>match a,b with
  | .agg x,.agg y=>match Qyy P kt with
   | some ks=>scEqL ks x y
   | none=>none
  | _,_=>none
def Yz (eq:AV→AV→Option Bool) (k:AV):List (AV × AV)→Nat → Option (Option (Nat × AV))
 | [],_=>some none
 | (a,v)::r,i=>match eq k a with
  | some true=>some (some (i,v))
  | some false=>Yz eq k r (i+1)
  | none=>none
def Qdu (P:Program) (σ:Sto) (fr:Nat) (s:Slots) (t:TypeId) (x ix:Operand) (c:Bool):Option Vy :=
 match ti P t,evo s x,evo s ix with
 | some T,some (.mp o),some k=>match T.kind,(σ o).bind Qa6 with
  | .map kt et,some es=>match Xj P kt k k,Yz (Xj P kt) k es 0,(ti P et).bind (·.zero) with
   | some _,some (some (_,v)),_=>if v.okv then some (.val ⟨some (if c then .tup [v,.bool true] else v),[],fr,[o]⟩) else none
   | some _,some none,some z=>if z.okv then some (.val ⟨some (if c then .tup [z,.bool false] else z),[],fr,[o]⟩) else none
   | _,_,_=>none
  | _,_=>none
 | _,_,_=>none
def Qes (P:Program) (σ:Sto) (fr:Nat) (s:Slots) (t:TypeId) (m x y:Operand):Option Vy :=
 match ti P t,evo s m,evo s x,evo s y with
 | some T,some (.mp o),some k,some v=>match T.kind,(σ o).bind Qa6 with
  | .map kt _,some es=>match Xj P kt k k,Yz (Xj P kt) k es 0 with
   | some _,some (some (i,_))=>some (.val ⟨none,[(o,mapO (es.set i (k,v)))],fr,[o]⟩)
   | some _,some none=>some (.val ⟨none,[(o,mapO (es++[(k,v)]))],fr,[o]⟩)
   | _,_=>none
  | _,_=>none
 | _,_,_,_=>none
def Qfs (P:Program) (σ:Sto) (fr:Nat) (s:Slots) (t:TypeId) (m x:Operand):Option Vy :=
 match ti P t,evo s m,evo s x with
 | some T,some (.mp o),some k=>match T.kind,(σ o).bind Qa6 with
  | .map kt et,some es=>match Xj P kt k k,Yz (Xj P kt) k es 0,(ti P et).bind (·.zero) with
   | some _,some (some (i,v)),_=>if v.okv then some (.val ⟨some (.tup [v,.int .i64 (i:Int)]),[(o,mapO (es.set i (k,v)))],fr,[o]⟩) else none
   | some _,some none,some z=>if z.okv then some (.val ⟨some (.tup [z,.int .i64 (es.length:Int)]),[(o,mapO (es++[(k,z)]))],fr,[o]⟩) else none
   | _,_,_=>none
  | _,_=>none
 | _,_,_=>none
def Qee (σ:Sto) (fr:Nat) (s:Slots) (m x y:Operand):Option Vy :=
 match evo s m,evo s x,evo s y with
 | some (.mp o),some (.int .i64 (.ofNat i)),some v=>match (σ o).bind Qa6 with
  | some es=>match es[i]? with
   | some (k,_)=>some (.val ⟨none,[(o,mapO (es.set i (k,v)))],fr,[o]⟩)
   | none=>none
  | none=>none
 | _,_,_=>none
def evalOp (P:Program) (nf:Bool) (C:FuncId→List AV→Option Z2) (σ:Sto) (fr:Nat) (s:Slots) (o:Oper):Option Vy :=
 match o.op with
 | .move x | .assign x=>Zt fr (evo s x)
 | .pick c a b=>match evo s c with
  | some (.bool true)=>Zt fr (evo s a)
  | some (.bool false)=>Zt fr (evo s b)
  | _=>none
 | .alloc t=>match ti P t with
  | some T=>match T.zero with
   | some z=>if Nat.beq z.flat.length T.size && Nat.blt 0 T.size then some (.val ⟨some (.ptr fr 0 0),[(fr,.row true false z.nr z.scs T.size [z])],fr+1,[]⟩) else none
   | none=>none
  | none=>none
 | .box t x=>match ti P t,evo s x with
  | some T,some a=>if a.okv && Nat.beq a.flat.length T.size && Nat.blt 0 T.size then some (.val ⟨some (.ptr fr 0 0),[(fr,.row true false a.nr a.scs T.size [a])],fr+1,[]⟩) else none
  | _,_=>none
 | .build t ps=>match ti P t,Jq s ps.toList with
  | some T,some parts=>if !T.fok then none else match T.kind,T.zero with
   | .struct fs,some z=>match Qap (Qe1 P fs) z.flat parts with
    | some cs=>some (.val ⟨some (.agg cs),[],fr,[]⟩)
    | none=>none
   | .array _ e,some z=>match ti P e with
    | some E=>match Qap (fun i=>some (i*E.size,E.size)) z.flat parts with
     | some cs=>some (.val ⟨some (.agg cs),[],fr,[]⟩)
     | none=>none
    | none=>none
   | _,_=>none
  | _,_=>none
 | .buildSlice t n ps=>match ti P t with
  | some T=>match T.kind with
   | .slice e=>match ti P e,Jq s ps.toList with
    | some E,some parts0 =>
     if n=0 then (if parts0.isEmpty then some (.val ⟨some .emp,[],fr,[]⟩) else none) else
     match E.zero,(if nf then some (parts0,[]) else Zp σ parts0) with
     | some z,some (parts,ids) =>
      if Nat.beq z.flat.length E.size && Nat.blt 0 E.size && Nat.ble (n*E.size) 16777216 then
       match Qat E.size (List.replicate n z) parts,frz σ ids with
       | some xs,some es=>some (.val ⟨some (.ref fr 0 n),es++[(fr,.row false false (AV.nrL xs) (xs.all AV.scs) E.size xs)],fr+1,ids⟩)
       | _,_=>none
      else none
     | _,_=>none
    | _,_=>none
   | _=>none
  | none=>none
 | .load t x=>match ti P t,evo s x with
  | some T,some (.fz cs)=>Zt fr (K6 T cs)
  | some T,some (.ptr o i c)=>match σ o with
   | some (.row _ _ _ _ _ xs)=>match xs[i]? with
    | some x=>(K6 T (x.flat.drop c)).map fun v=>.val ⟨some v,[],fr,[o]⟩
    | none=>none
   | _=>none
  | _,_=>none
 | .store t x y=>match ti P t,evo s x,evo s y with
  | some T,some (.ptr o i c),some v0=>match σ o with
   | some (.row bx false nr fl w xs)=>match xs[i]? with
    | some x =>
     if v0.okv && Nat.beq v0.flat.length T.size then
      match (if bx || nf || v0.nr then some (v0,[]) else Qt σ Qn v0) with
      | some (v,ids)=>match Qca x c v,frz σ ids with
       | some x',some es=>if ids.contains o then none else some (.val ⟨none,es++[(o,.row bx false (nr && v.nr) (fl && v.scs) w (xs.set i x'))],fr,o::ids⟩)
       | _,_=>none
      | none=>none
     else none
    | none=>none
   | _=>none
  | _,_,_=>none
 | .nilCheck x=>match evo s x with
  | some (.fz cs)=>Zt fr (some (.fz cs))
  | some (.ptr o i c)=>Zt fr (some (.ptr o i c))
  | some (.fn f a b)=>Zt fr (some (.fn f a b))
  | _=>none
 | .binOp op t x y _=>match evo s x,evo s y with
  | some a,some b=>Zt fr (Qfw P op t a b)
  | _,_=>none
 | .unOp op _ x=>match evo s x with
  | some a=>Zt fr (Qyn op a)
  | none=>none
 | .convert u t x=>match ti P u,ti P t,evo s x with
  | some _,some T,some (.int _ n)=>match T.kind with
   | .int k=>Zt fr (some (.int k (k.wrap n)))
   | _=>none
  | _,_,_=>none
 | .makeFunc f a b=>match Ja s a.toList,Ja s b.toList with
  | some x,some y=>match f with
   | .func g=>Zt fr (some (.fn (.func g) x y))
   | .via t p g q=>Zt fr (some (.fn (.via t p g q) x y))
   | _=>none
  | _,_=>none
 | .makeSlice t l c=>match ti P t,evo s l,evo s c with
  | some T,some a,some b=>match T.kind,asN a,asN b with
   | .slice e,some n,some m=>match ti P e with
    | some E=>match E.zero with
     | some z=>if Nat.ble n m && Yr E.bytes m && Nat.ble m 9223372036854775807 && Nat.beq z.flat.length E.size && Nat.blt 0 E.size then
       some (.val ⟨some (.ref fr 0 n),[(fr,.row false false z.nr z.scs E.size (List.replicate n z))],fr+1,[]⟩)
      else none
     | none=>none
    | none=>none
   | _,_,_=>none
  | _,_,_=>none
 | .slice t x lo hi mx=>if mx.isSome && hi.isNone then none else match ti P t,evo s x,Jd s lo,Jd s hi,Jd s mx with
  | some T,some a,some l,some h,some m=>match T.kind with
   | .slice e=>match ti P e with
    | some E=>(Jc σ E.size a l h m).map fun x=>.val ⟨some x.1,[],fr,x.2⟩
    | none=>none
   | _=>none
  | _,_,_,_,_=>none
 | .fieldAddr t x f=>match ti P t,evo s x with
  | some T,some a=>match T.kind with
   | .struct fs=>match fs[f]? with
    | some (off,u)=>match ti P u with
     | some U=>if U.size=0 then none else match a with
      | .fz cs=>Zt fr (some (.fz (cs.drop off)))
      | .ptr o i c=>Zt fr (some (.ptr o i (c+off)))
      | _=>none
     | none=>none
    | none=>none
   | _=>none
  | _,_=>none
 | .field t x f=>match ti P t,evo s x with
  | some T,some (.agg cs)=>match T.kind with
   | .struct fs=>match fs[f]? with
    | some (off,u)=>match ti P u with
     | some U=>Zt fr (K6 U (cs.drop off))
     | none=>none
    | none=>none
   | _=>none
  | _,_=>none
 | .indexAddr t x ix=>match ti P t,evo s x,evo s ix with
  | some T,some a,some b=>match T.kind,asN b with
   | .slice e,some j=>match ti P e with
    | some E=>match a with
     | .lst _ xs=>match xs[j]? with
      | some y=>if y.flat.length=E.size then Zt fr (some (.fz y.flat)) else none
      | none=>none
     | .ref o i n=>match σ o with
      | some (.row false _ _ _ w _)=>if Nat.blt j n && w=E.size then some (.val ⟨some (.ptr o (i+j) 0),[],fr,[o]⟩) else none
      | _=>none
     | _=>none
    | none=>none
   | .array n e,some j=>match ti P e with
    | some E=>if Nat.blt j n then match a with
      | .fz cs=>Zt fr (some (.fz (cs.drop (j*E.size))))
      | .ptr o i c=>Zt fr (some (.ptr o i (c+j*E.size)))
      | _=>none
     else none
    | none=>none
   | _,_=>none
  | _,_,_=>none
 | .index t x ix=>match ti P t,evo s x,evo s ix with
  | some T,some (.agg cs),some b=>match T.kind,asN b with
   | .array n e,some j=>match ti P e with
    | some E=>if Nat.blt j n then Zt fr (K6 E (cs.drop (j*E.size))) else none
    | none=>none
   | _,_=>none
  | _,_,_=>none
 | .extract x i=>match evo s x with
  | some (.tup vs)=>Zt fr vs[i]?
  | _=>none
 | .call { callee:=.builtin b,args,argTypes }=>match b with
  | .len=>Qof P fr s args.toList argTypes.toList
  | .cap=>Qtg P fr s args.toList argTypes.toList
  | .append=>Qae P nf σ fr s args.toList argTypes.toList
  | .copy=>Qft P nf σ fr s args.toList argTypes.toList
  | .min=>Qsm fr s args.toList
  | .max=>Qtl fr s args.toList
  | _=>none
 | .call { callee:=.value g,args,.. }=>match evo s g,Ja s args.toList with
  | some (.fn (.func f) first caps),some as=>Qdn C σ fr f (first++as++caps)
  | _,_=>none
 | .panic x=>match evo s x with
  | some (.ifc t v)=>match Qt σ Qn (.ifc t v) with
   | some (w,[])=>some (.pan w)
   | _=>none
  | _=>none
 | .makeMap _ none=>some (.val ⟨some (.mp fr),[(fr,mapO [])],fr+1,[]⟩)
 | .lookup t x ix c=>Qdu P σ fr s t x ix c
 | .mapUpdate t m k x=>Qes P σ fr s t m k x
 | .insert t m k x=>Qes P σ fr s t m k x
 | .mapEntry t m k=>Qfs P σ fr s t m k
 | .entryStore _ m k x=>Qee σ fr s m k x
 | _=>none
end Go.Ab
namespace Go.Ab
open Go.RowKit
theorem Q1 {xs:List AV}:AV.nrL xs=true↔∀x∈xs,AV.nr x=true:=by
 induction xs with
 | nil=>simp [AV.nrL]
 | cons x xs ih=>simp [AV.nrL,ih]
theorem Qsj (a b:List AV):AV.nrL (a++b)=(AV.nrL a && AV.nrL b):=by
 induction a with
 | nil=>simp [AV.nrL]
 | cons x xs ih=>simp [AV.nrL,ih,Bool.and_assoc]
theorem Qa.of_nr {M:CM} {ι ι':Inj} {v:Value} {a:AV} (h:Qa M ι v a) (hn:a.nr=true):Qa M ι' v a:=by
 induction h generalizing ι' with
 | undef h=>exact .undef h
 | bool b=>exact .bool b
 | int k n=>exact .int k n
 | str s=>exact .str s
 | nilp=>exact .nilp
 | nils=>exact .nils
 | nilf=>exact .nilf
 | nilm=>exact .nilm
 | nili=>exact .nili
 | emp a=>exact .emp a
 | emn a c=>exact .emn a c
 | lst0 a fl=>exact .lst0 a fl
 | fz b off cs f hcs hm hr ih=>exact .fz b off cs f hcs hm hr
 | lst b off cap w fl xs f hcap hfl hc hm hr ih=>exact .lst b off cap w fl xs f hcap hfl hc hm hr
 | fn f first' caps' first caps hy hm h1 h2 hr1 hr2 ih1 ih2 =>
  simp only [AV.nr,Bool.and_eq_true,Q1] at hn
  exact .fn f first' caps' first caps hy hm h1 h2 (fun j v y a b=>ih1 j v y a b (hn.1 y (List.mem_of_getElem? b))) (fun j v y a b=>ih2 j v y a b (hn.2 y (List.mem_of_getElem? b)))
 | ifc t v' v hr ih=>exact .ifc t v' v (ih (by simpa [AV.nr] using hn))
 | agg cs' cs h hc hr ih =>
  simp only [AV.nr,Q1] at hn
  exact .agg cs' cs h hc (fun j v y a b=>ih j v y a b (hn y (List.mem_of_getElem? b)))
 | tup vs' vs h hr ih =>
  simp only [AV.nr,Q1] at hn
  exact .tup vs' vs h (fun j v y a b=>ih j v y a b (hn y (List.mem_of_getElem? b)))
 | _=>simp [AV.nr] at hn
theorem AV.nr_flat {x:AV} (h:x.nr=true):∀y∈x.flat,AV.nr y=true:=by
 cases x <;> simp_all [AV.flat,AV.nr,Q1]
def Sto.put (σ:Sto) (o:Nat) (x:AObj):Sto:=fun k=>if k=o then some x else σ k
def Sto.puts (σ:Sto):List (Nat × AObj)→Sto
 | []=>σ
 | (o,x)::es=>(σ.put o x).puts es
def Inj.put (ι:Inj) (o:Nat) (p:Place):Inj:=fun k=>if k=o then some p else ι k
theorem Sto.put_same (σ:Sto) (o:Nat) (x:AObj):σ.put o x o=some x:=by simp [Sto.put]
theorem Sto.put_ne (σ:Sto) {o k:Nat} (x:AObj) (h:k≠o):σ.put o x k=σ k:=by simp [Sto.put,h]
theorem Inj.put_same (ι:Inj) (o:Nat) (p:Place):ι.put o p o=some p:=by simp [Inj.put]
theorem Inj.put_ne (ι:Inj) {o k:Nat} (p:Place) (h:k≠o):ι.put o p k=ι k:=by simp [Inj.put,h]
theorem Inj.le_put {ι:Inj} {o:Nat} (p:Place) (h:ι o=none):ι.le (ι.put o p):=fun k q hk=>by
 by_cases e:k=o
 ·subst e; rw [h] at hk; cases hk
 ·rw [Inj.put_ne _ _ e]; exact hk
structure Q7 (B:Nat) (w w':World):Prop extends Below B w w' where
 drawn:w.drawn≤w'.drawn
theorem Q7.refl (B:Nat) (w:World):Q7 B w w:=⟨Below.refl B w,Nat.le_refl _⟩
theorem Q7.trans {B:Nat} {a b c:World} (h:Q7 B a b) (k:Q7 B b c):Q7 B a c:=⟨h.toBelow.trans k.toBelow,Nat.le_trans h.drawn k.drawn⟩
theorem Q7.mono {B B':Nat} {w w':World} (h:Q7 B w w') (hB:B'≤B):Q7 B' w w':=⟨h.toBelow.mono hB,h.drawn⟩
theorem Q7.drew {B:Nat} {a w:World} (h:Q7 B a w):Q7 B a w.drew:=⟨h.toBelow.drew,Nat.le_succ_of_le h.drawn⟩
theorem Q7.alloc {B:Nat} {a w:World} (h:Q7 B a w) (hB:B≤w.heap.size) (o:Obj):Q7 B a (w.alloc o):=⟨h.toBelow.alloc hB o,h.drawn⟩
theorem Q7.setCell {B:Nat} {a w:World} (h:Q7 B a w) {p:Addr} (hp:B≤p.block) (u:Value):Q7 B a (w.setCell p u):=⟨h.toBelow.setCell hp u,h.drawn⟩
structure Qeu (B:Nat) (M:CM) (ι:Inj) (W:World) (ro nr fl:Bool) (w:Nat) (xs:List AV) (p:Place):Prop where
 pw:p.w=w
 pos:0 < w
 cpos:0 < p.cap∨p.base=0
 len:xs.length≤p.cap
 shaped:∀x∈xs,AV.shaped x w
 nr:nr=true→AV.nrL xs=true
 fl:fl=true→∀x∈xs,AV.scs x=true
 cells:∀(i j:Nat) (x y:AV),xs[i]?=some x→x.flat[j]?=some y→∃v,W.cell? ⟨p.blk,p.base+i*w+j,none⟩=some v∧Qa M ι v y
 own:ro=false→B≤p.blk∧∀k,k < p.cap*w→(W.cell? ⟨p.blk,p.base+k,none⟩).isSome=true∧M p.blk (p.base+k)=none
 imm:ro=true→∀(i j:Nat) (x y:AV),xs[i]?=some x→x.flat[j]?=some y→∃v,M p.blk (p.base+i*w+j)=some v∧Qa M noInj v y
def pairsOf:List Value→Nat → List MapEntry
 | k::v::r,i=>{ key:=k,val:=v,born:=i }::pairsOf r (i+1)
 | _,_=>[]
def Qag (l:Loop):Obj:=match l.state with
 | .exhausted=>.map (pairsOf l.tmps.toList 0).toArray (l.tmps.size / 2)
 | _=>.loop l
theorem Qaq {l:Loop} (h:l.state≠.exhausted):Qag l=.loop l:=by
 unfold Qag; split
 ·rename_i e; exact absurd e h
 ·rfl
theorem Qoa {l:Loop} (c:Array Value) (e:TypeId) (f:Nat × Nat):Qag l≠Obj.cells c e f:=by unfold Qag; split <;> simp
theorem Qj0 {l:Loop} {x:Option (List Deferred)} (h:some (Qag l)=some (Obj.deferred x)):False:=by
 unfold Qag at h; split at h <;> cases h
structure Q08 (B:Nat) (M:CM) (ι:Inj) (W:World) (nt:Nat) (slots:List (Nat × AV)) (params:List Tmp) (assign body:Code) (st:LoopState) (pending:Option Code) (fn:FuncId) (p:Place):Prop where
 blk:B≤p.blk
 rec':∃(tmps:Array Value),tmps.size=nt ∧
  W.heap[p.blk]?=some (Qag { state:=st,pending,fn,tmps,params:=params.toArray,assign,body,defers:=p.base }) ∧
  ∀t a,lk slots t=some a→Qa M ι (tmps.getD t undef) a
structure Rel (P:Program) (B:Nat) (W0:World) (D:List Nat) (M:CM) (ι:Inj) (σ:Sto) (W:World):Prop where
 size:B≤W.heap.size
 below:Q7 B W0 W
 defs:∀r∈D,W.heap[r]?=some (.deferred (some []))
 agree:K9 M W
 cool:∀o bx nr fl w xs p k,σ o=some (.row bx false nr fl w xs)→ι o=some p→k < p.cap*w→(∀j,W.frozen? ⟨p.blk,j,none⟩=false)∧M.kc p.blk (p.base+k)=none
 row:∀o bx ro nr fl w xs,σ o=some (.row bx ro nr fl w xs)→∃p,ι o=some p∧Qeu B M ι W ro nr fl w xs p
 loop:∀o fn sl ps as bd st pe,σ o=some (.loop fn sl ps as bd st pe)→∃p nt,ι o=some p∧M.blk p.blk=none∧Q08 B M ι W fn sl ps as bd st pe nt p
 apart:∀o o' bx nr fl w xs bx' nr' fl' w' xs' p p',o≠o'→σ o=some (.row bx false nr fl w xs)→σ o'=some (.row bx' false nr' fl' w' xs')→ι o=some p→ι o'=some p' →
  p.blk≠p'.blk∨p.base+p.cap*p.w≤p'.base∨p'.base+p'.cap*p'.w≤p.base
 loops:∀o o' fn sl ps as bd st pe fn' sl' ps' as' bd' st' pe' p p',o≠o'→σ o=some (.loop fn sl ps as bd st pe)→σ o'=some (.loop fn' sl' ps' as' bd' st' pe')→ι o=some p→ι o'=some p'→p.blk≠p'.blk
 used:∀o,ι o=none→σ o=none∨σ o=some .dead
section
variable {P:Program} {B:Nat} {W0 W W':World} {D:List Nat} {M:CM} {ι:Inj} {σ:Sto}
theorem Rel.lt (h:Rel P B W0 D M ι σ W) {b o:Nat} {v:Value} (hm:M b o=some v):b < W.heap.size :=
 World.block_lt_of_cell? W _ (h.agree b o v hm)
theorem Qbo {slots:List (Nat × AV)} {tmps:Array Value} {M':CM} {ι':Inj} (hM:M.le M') (hι:ι.le ι')
  (h:∀t a,lk slots t=some a→Qa M ι (tmps.getD t undef) a):∀t a,lk slots t=some a→Qa M' ι' (tmps.getD t undef) a :=
 fun t a ha=>(h t a ha).mono hM hι
theorem Rel.old (h:Rel P B W0 D M ι σ W) (hw:Q7 W.heap.size W W'):Rel P B W0 D M ι σ W':=by
 have hcell:∀b o v,W.cell? ⟨b,o,none⟩=some v→W'.cell? ⟨b,o,none⟩=some v:=fun b o v hv=>by
  rw [hw.cell (p:=⟨b,o,none⟩) (World.block_lt_of_cell? W _ hv)]; exact hv
 refine ⟨Nat.le_trans h.size hw.size,h.below.trans (hw.mono h.size),fun r hr=>(by have:=h.defs r hr; rw [hw.block r (Array.getElem?_eq_some_iff.1 this).1]; exact this),⟨fun b o v hv=>hcell b o v (h.agree b o v hv),fun b x hm=>by
  obtain ⟨k1,k2,k3⟩:=h.agree.keep b x hm
  exact ⟨by rw [hw.block b (Array.getElem?_eq_some_iff.1 k1).1]; exact k1,k2,k3⟩,fun b o v hm=>by
  obtain ⟨k1,k2⟩:=h.agree.keepC b o v hm
  exact ⟨hcell _ _ _ k1,fun j=>by rw [hw.toBelow.frozen (p:=⟨b,j,none⟩) (World.block_lt_of_cell? W ⟨b,o,none⟩ k1)]; exact k2 j⟩⟩,fun o bx nr fl w xs p k ho hp hk=>?_,?_,?_,h.apart,h.loops,h.used⟩
 ·obtain ⟨q,hq,hr⟩:=h.row o bx false nr fl w xs ho
  rw [hp] at hq; cases hq
  obtain ⟨v,hv⟩:=Option.isSome_iff_exists.1 ((hr.own rfl).2 k hk).1
  have c:=h.cool o bx nr fl w xs p k ho hp hk
  exact ⟨fun j=>by rw [hw.toBelow.frozen (p:=⟨p.blk,j,none⟩) (World.block_lt_of_cell? W ⟨p.blk,p.base+k,none⟩ hv)]; exact c.1 j,c.2⟩
 ·intro o bx ro nr fl w xs ho
  obtain ⟨p,hp,hr⟩:=h.row o bx ro nr fl w xs ho
  refine ⟨p,hp,⟨hr.pw,hr.pos,hr.cpos,hr.len,hr.shaped,hr.nr,hr.fl,fun i j x y hi hj=>?_,fun hro=>⟨(hr.own hro).1,fun k hk=>?_⟩,hr.imm⟩⟩
  ·obtain ⟨v,hv,hrep⟩:=hr.cells i j x y hi hj
   exact ⟨v,hcell _ _ _ hv,hrep⟩
  ·obtain ⟨h1,h2⟩:=(hr.own hro).2 k hk
   obtain ⟨v,hv⟩:=Option.isSome_iff_exists.1 h1
   exact ⟨by rw [hcell _ _ _ hv]; rfl,h2⟩
 ·intro o fn sl ps as bd st pe ho
  obtain ⟨p,nt,hp,hnt,hl⟩:=h.loop o fn sl ps as bd st pe ho
  obtain ⟨hb,tmps,hsz,hrec,hsl⟩:=hl
  have hblk:∀k x,W.heap[k]?=some x→W'.heap[k]?=some x:=fun k x hk=>by rw [hw.block k (Array.getElem?_eq_some_iff.1 hk).1]; exact hk
  exact ⟨p,nt,hp,hnt,hb,tmps,hsz,hblk _ _ hrec,hsl⟩
theorem Rel.fresh (h:Rel P B W0 D M ι σ W):M.blk W.heap.size=none:=by
 cases e:M.blk W.heap.size with
 | none=>rfl
 | some x =>
  have:=(Array.getElem?_eq_some_iff.1 (h.agree.keep _ _ e).1).1
  exact absurd this (Nat.lt_irrefl _)
theorem Rel.kcFresh (h:Rel P B W0 D M ι σ W) {b o:Nat} (hb:W.heap.size≤b):M.kc b o=none:=by
 cases e:M.kc b o with
 | none=>rfl
 | some x=>have:=World.block_lt_of_cell? W _ (h.agree.keepC b o x e).1; exact absurd hb (Nat.not_le_of_lt this)
theorem Rel.drew (h:Rel P B W0 D M ι σ W):Rel P B W0 D M ι σ W.drew :=
 h.old (Q7.refl _ W).drew
theorem Rel.forget {σ':Sto} (h:Rel P B W0 D M ι σ W) (hs:∀o,σ' o=σ o∨σ' o=none∨σ' o=some .dead):Rel P B W0 D M ι σ' W:=by
 have hr:∀o x,σ' o=some x→x≠.dead→σ o=some x:=fun o x hx hne=>by
  rcases hs o with e | e | e
  ·rw [←e]; exact hx
  ·rw [e] at hx; cases hx
  ·rw [e] at hx; cases hx; exact absurd rfl hne
 refine ⟨h.size,h.below,h.defs,h.agree,fun o bx nr fl w xs p k ho=>h.cool o bx nr fl w xs p k (hr _ _ ho (by simp)),fun o bx ro nr fl w xs ho=>h.row o bx ro nr fl w xs (hr _ _ ho (by simp)),fun o fn sl ps as bd st pe ho=>h.loop o fn sl ps as bd st pe (hr _ _ ho (by simp)),
  fun o o' bx nr fl w xs bx' nr' fl' w' xs' p p' hne h1 h2=>h.apart o o' bx nr fl w xs bx' nr' fl' w' xs' p p' hne (hr _ _ h1 (by simp)) (hr _ _ h2 (by simp)),
  fun o o' fn sl ps as bd st pe fn' sl' ps' as' bd' st' pe' p p' hne h1 h2=>h.loops o o' fn sl ps as bd st pe fn' sl' ps' as' bd' st' pe' p p' hne (hr _ _ h1 (by simp)) (hr _ _ h2 (by simp)),fun o ho=>?_⟩
 rcases hs o with e | e | e
 ·rw [e]; exact h.used o ho
 ·exact .inl e
 ·exact .inr e
theorem Rel.kill (h:Rel P B W0 D M ι σ W) (o:Nat):Rel P B W0 D M ι (σ.put o .dead) W :=
 h.forget fun k=>by
  by_cases e:k=o
  ·subst e; exact .inr (.inr (Sto.put_same _ _ _))
  ·exact .inl (Sto.put_ne _ _ e)
theorem Qqv (W:World) (c:Array Value) (e:TypeId):Q7 W.heap.size W (W.alloc (.cells c e)):=(Q7.refl _ W).alloc (Nat.le_refl _) _
theorem Rel.alloc (h:Rel P B W0 D M ι σ W) (c:Array Value) (e:TypeId):Rel P B W0 D M ι σ (W.alloc (.cells c e)) :=
 h.old (Qqv W c e)
theorem Rel.addRow (h:Rel P B W0 D M ι σ W) {o:Nat} (ho:ι o=none) {p:Place} {bx nr fl:Bool} {w:Nat} {xs:List AV}
  (hp:Qeu B M (ι.put o p) W false nr fl w xs p) (hcool:∀k,k < p.cap*w→(∀j,W.frozen? ⟨p.blk,j,none⟩=false)∧M.kc p.blk (p.base+k)=none)
  (hap:∀o' bx' nr' fl' w' xs' p',σ o'=some (.row bx' false nr' fl' w' xs')→ι o'=some p'→p.blk≠p'.blk∨p.base+p.cap*p.w≤p'.base∨p'.base+p'.cap*p'.w≤p.base) :
  Rel P B W0 D M (ι.put o p) (σ.put o (.row bx false nr fl w xs)) W:=by
 have hle:=Inj.le_put p ho
 have hne:∀k q,ι k=some q→k≠o:=fun k q hk e=>by subst e; rw [ho] at hk; cases hk
 refine ⟨h.size,h.below,h.defs,h.agree,fun k bx1 nr1 fl1 w1 xs1 q j hk hq hj=>?_,?_,?_,?_,?_,?_⟩
 ·by_cases e:k=o
  ·subst e; rw [Sto.put_same] at hk; rw [Inj.put_same] at hq; cases hk; cases hq; exact hcool j hj
  ·rw [Sto.put_ne _ _ e] at hk; rw [Inj.put_ne _ _ e] at hq; exact h.cool _ _ _ _ _ _ _ _ hk hq hj
 ·intro k bx' ro' nr' fl' w' xs' hk
  by_cases e:k=o
  ·subst e; rw [Sto.put_same] at hk; cases hk; exact ⟨p,Inj.put_same _ _ _,hp⟩
  ·rw [Sto.put_ne _ _ e] at hk
   obtain ⟨q,hq,hr⟩:=h.row k bx' ro' nr' fl' w' xs' hk
   refine ⟨q,by rw [Inj.put_ne _ _ e]; exact hq,⟨hr.pw,hr.pos,hr.cpos,hr.len,hr.shaped,hr.nr,hr.fl,fun i j x y hi hj=>?_,hr.own,hr.imm⟩⟩
   obtain ⟨v,hv,hrep⟩:=hr.cells i j x y hi hj
   exact ⟨v,hv,hrep.mono (CM.le_refl _) hle⟩
 ·intro k fn sl ps as bd st pe hk
  have e:k≠o:=fun e=>by subst e; rw [Sto.put_same] at hk; cases hk
  rw [Sto.put_ne _ _ e] at hk
  obtain ⟨q,nt,hq,hnt,hb,tmps,hsz,hrec,hsl⟩:=h.loop k fn sl ps as bd st pe hk
  exact ⟨q,nt,by rw [Inj.put_ne _ _ e]; exact hq,hnt,hb,tmps,hsz,hrec,Qbo (CM.le_refl _) hle hsl⟩
 ·intro k k' bx1 nr1 fl1 w1 xs1 bx2 nr2 fl2 w2 xs2 q q' hkk h1 h2 hq hq'
  by_cases e:k=o
  ·subst e
   rw [Inj.put_same] at hq; cases hq
   rw [Sto.put_ne _ _ (Ne.symm hkk)] at h2; rw [Inj.put_ne _ _ (Ne.symm hkk)] at hq'
   exact hap _ _ _ _ _ _ _ h2 hq'
  ·by_cases e':k'=o
   ·subst e'
    rw [Inj.put_same] at hq'; cases hq'
    rw [Sto.put_ne _ _ e] at h1; rw [Inj.put_ne _ _ e] at hq
    rcases hap _ _ _ _ _ _ _ h1 hq with a | a | a
    ·exact .inl (Ne.symm a)
    ·exact .inr (.inr a)
    ·exact .inr (.inl a)
   ·rw [Sto.put_ne _ _ e] at h1; rw [Sto.put_ne _ _ e'] at h2; rw [Inj.put_ne _ _ e] at hq; rw [Inj.put_ne _ _ e'] at hq'
    exact h.apart _ _ _ _ _ _ _ _ _ _ _ _ _ _ hkk h1 h2 hq hq'
 ·intro k k' fn sl ps as bd st pe fn' sl' ps' as' bd' st' pe' q q' hkk h1 h2 hq hq'
  have e:k≠o:=fun e=>by subst e; rw [Sto.put_same] at h1; cases h1
  have e':k'≠o:=fun e=>by subst e; rw [Sto.put_same] at h2; cases h2
  rw [Sto.put_ne _ _ e] at h1; rw [Sto.put_ne _ _ e'] at h2; rw [Inj.put_ne _ _ e] at hq; rw [Inj.put_ne _ _ e'] at hq'
  exact h.loops _ _ _ _ _ _ _ _ _ _ _ _ _ _ _ _ _ _ hkk h1 h2 hq hq'
 ·intro k hk
  have e:k≠o:=fun e=>by subst e; rw [Inj.put_same] at hk; cases hk
  rw [Inj.put_ne _ _ e] at hk; rw [Sto.put_ne _ _ e]; exact h.used k hk
theorem Rel.allocRow (h:Rel P B W0 D M ι σ W) {o:Nat} (ho:ι o=none) (c:Array Value) (e:TypeId) {bx nr fl:Bool} {w cap:Nat} {xs:List AV}
  (pos:0 < w) (cpos:0 < cap) (hc:c.size=cap*w) (hl:xs.length≤cap) (hs:∀x∈xs,AV.shaped x w) (hnr:nr=true→AV.nrL xs=true) (hfl:fl=true→∀x∈xs,AV.scs x=true)
  (hcells:∀(i j:Nat) (x y:AV),xs[i]?=some x→x.flat[j]?=some y→∃v,c[i*w+j]?=some v∧Qa M ι v y) :
  Rel P B W0 D M (ι.put o ⟨W.heap.size,0,w,cap⟩) (σ.put o (.row bx false nr fl w xs)) (W.alloc (.cells c e)):=by
 have h':=h.alloc c e
 refine h'.addRow ho ⟨rfl,pos,.inl cpos,hl,hs,hnr,hfl,fun i j x y hi hj=>?_,fun _=>⟨h.size,fun k hk=>⟨?_,?_⟩⟩,fun hf=>by cases hf⟩ (fun k _=>⟨fun j=>World.frozen?_alloc_new W c e j,h.kcFresh (Nat.le_refl _)⟩) ?_
 ·obtain ⟨v,hv,hr⟩:=hcells i j x y hi hj
  refine ⟨v,?_,hr.mono (CM.le_refl _) (Inj.le_put _ ho)⟩
  simp only [Nat.zero_add]
  rw [World.cell?_alloc_new]; exact hv
 ·simp only [Nat.zero_add]
  rw [World.cell?_alloc_new,Array.getElem?_eq_getElem (by simpa [hc] using hk)]; rfl
 ·cases hm:M W.heap.size (0+k) with
  | none=>rfl
  | some v=>exact absurd (h.lt hm) (Nat.lt_irrefl _)
 ·intro o' bx' nr' fl' w' xs' p' h1 h2
  obtain ⟨p,hp,hr⟩:=h.row o' bx' false nr' fl' w' xs' h1
  rw [h2] at hp; cases hp
  rcases Nat.eq_zero_or_pos p'.cap with hz | hz
  ·right; right
   show p'.base+p'.cap*p'.w≤0
   rcases hr.cpos with h4 | h4
   ·omega
   ·rw [hz,h4]; simp
  left
  obtain ⟨h3,_⟩:=(hr.own rfl).2 0 (Nat.mul_pos hz hr.pos)
  obtain ⟨v,hv⟩:=Option.isSome_iff_exists.1 h3
  have:=World.block_lt_of_cell? W _ hv
  intro e
  simp at this e
  omega
theorem Rel.virt (h:Rel P B W0 D M ι σ W) {o:Nat} (ho:ι o=none) {bx nr fl:Bool} {w:Nat} (pos:0 < w) :
  Rel P B W0 D M (ι.put o ⟨B,0,w,0⟩) (σ.put o (.row bx false nr fl w [])) W:=by
 refine h.addRow ho ⟨rfl,pos,.inr rfl,Nat.le_refl _,by simp,by simp [AV.nrL],by simp,by simp,fun _=>⟨Nat.le_refl _,fun k hk=>?_⟩,fun hf=>by cases hf⟩ (fun k hk=>by simp at hk) ?_
 ·simp at hk
 ·intro o' bx' nr' fl' w' xs' p' h1 h2
  right; left
  simp
end
end Go.Ab
namespace Go.Ab
open Go.RowKit
theorem Qeb (b:Nat):∀(vs:List Value) (o:Nat) (w:World) (k:Nat),k≠b→(w.setCells b o vs).heap[k]?=w.heap[k]?
 | [],_,_,_,_=>rfl
 | v::r,o,w,k,h=>by
  rw [World.setCells,Qeb b r (o+1) _ k h]
  exact Below.heap_setCell w ⟨b,o,none⟩ v k h
theorem Qek {B b:Nat} {a:World} (hb:B≤b):∀(vs:List Value) (o:Nat) (w:World),Q7 B a w→Q7 B a (w.setCells b o vs)
 | [],_,_,h=>h
 | v::r,o,w,h=>Qek hb r (o+1) _ (h.setCell (p:=⟨b,o,none⟩) hb v)
theorem Qhh (b:Nat):∀(vs:List Value) (o:Nat) (w:World),(w.setCells b o vs).heap.size=w.heap.size
 | [],_,_=>rfl
 | v::r,o,w=>by rw [World.setCells,Qhh b r (o+1)]; exact World.size_setCell _ _ _
section
variable {P:Program} {B:Nat} {W0 W W':World} {D:List Nat} {M:CM} {ι:Inj} {σ:Sto}
theorem Qfk {W:World} {b o:Nat} {v:Value} (h:W.cell? ⟨b,o,none⟩=some v):∃c e f,W.heap[b]?=some (.cells c e f):=by
 unfold World.cell? at h
 simp only at h
 split at h
 ·exact ⟨_,_,_,by assumption⟩
 ·cases h
theorem Rel.write (h:Rel P B W0 D M ι σ W) {o:Nat} {p:Place} {bx nr fl bx' nr' fl':Bool} {w:Nat} {xs xs':List AV}
  (hσ:σ o=some (.row bx false nr fl w xs)) (hι:ι o=some p) (c0:Nat) (vs:List Value) (hlen:c0+vs.length≤p.cap*w)
  (hl:xs'.length≤p.cap) (hs:∀x∈xs',AV.shaped x w) (hnr:nr'=true→AV.nrL xs'=true) (hfl:fl'=true→∀x∈xs',AV.scs x=true)
  (hin:∀(i j:Nat) (x y:AV),xs'[i]?=some x→x.flat[j]?=some y→c0≤i*w+j→i*w+j < c0+vs.length→∃v,vs[i*w+j - c0]?=some v∧Qa M ι v y)
  (hout:∀(i j:Nat) (x y:AV),xs'[i]?=some x→x.flat[j]?=some y→(i*w+j < c0∨c0+vs.length≤i*w+j)→∃v,W.cell? ⟨p.blk,p.base+(i*w+j),none⟩=some v∧Qa M ι v y) :
  Rel P B W0 D M ι (σ.put o (.row bx' false nr' fl' w xs')) (W.setCells p.blk (p.base+c0) vs):=by
 obtain ⟨p0,hp0,hrow⟩:=h.row o bx false nr fl w xs hσ
 rw [hι] at hp0; cases hp0
 obtain ⟨hB,hown⟩:=hrow.own rfl
 have hisome:∀j,j < vs.length→(W.cell? ⟨p.blk,p.base+c0+j,none⟩).isSome=true:=fun j hj=>by
  have:=(hown (c0+j) (by omega)).1; rwa [←Nat.add_assoc] at this
 have hcellOut:∀b k,(b=p.blk→k < p.base+c0∨p.base+c0+vs.length≤k)→(W.setCells p.blk (p.base+c0) vs).cell? ⟨b,k,none⟩=W.cell? ⟨b,k,none⟩:=fun b k hk =>
  World.cell?_setCells_out _ _ _ _ ⟨b,k,none⟩ (fun hb _=>hk hb)
 have hMfree:∀k v,M p.blk k=some v→k < p.base+c0∨p.base+c0+vs.length≤k:=fun k v hm=>by
  rcases Nat.lt_or_ge k (p.base+c0) with h1 | h1
  ·exact .inl h1
  ·rcases Nat.lt_or_ge k (p.base+c0+vs.length) with h2 | h2
   ·have:=(hown (k - p.base) (by omega)).2
    rw [show p.base+(k - p.base)=k by omega,hm] at this; cases this
   ·exact .inr h2
 have hagree:∀b k v,M b k=some v→(W.setCells p.blk (p.base+c0) vs).cell? ⟨b,k,none⟩=some v:=fun b k v hm=>by
  rw [hcellOut b k (fun e=>by subst e; exact hMfree k v hm)]; exact h.agree b k v hm
 have hheap:∀k x,W.heap[k]?=some x→(∀(c:Array Value) (e:TypeId) (f:Nat × Nat),x≠Obj.cells c e f)→(W.setCells p.blk (p.base+c0) vs).heap[k]?=some x:=fun k x hk hx=>by
  rcases Nat.eq_zero_or_pos p.cap with hz | hz
  ·rw [hz] at hlen
   have:vs=[]:=List.eq_nil_of_length_eq_zero (by omega)
   subst this; exact hk
  rw [Qeb _ _ _ _ _ (fun e=>?_)]; exact hk
  subst e
  obtain ⟨v,hv⟩:=Option.isSome_iff_exists.1 (hown 0 (Nat.mul_pos hz hrow.pos)).1
  obtain ⟨c,e,f,hc⟩:=Qfk hv
  rw [hc] at hk; cases hk; exact hx _ _ _ rfl
 refine ⟨by rw [Qhh]; exact h.size,Qek hB _ _ _ h.below,fun r hr=>hheap _ _ (h.defs r hr) (by intros; simp),⟨hagree,fun b x hm=>by
  obtain ⟨k1,k2,k3⟩:=h.agree.keep b x hm
  exact ⟨hheap _ _ k1 k2,k2,k3⟩,fun b k v hm=>by
  obtain ⟨k1,k2⟩:=h.agree.keepC b k v hm
  refine ⟨?_,fun j=>by rw [World.frozen?_setCells]; exact k2 j⟩
  rw [hcellOut b k (fun e=>?_)]
  ·exact k1
  ·subst e
   rcases Nat.lt_or_ge k (p.base+c0) with h1 | h1
   ·exact .inl h1
   ·rcases Nat.lt_or_ge k (p.base+c0+vs.length) with h2 | h2
    ·have:=(h.cool _ _ _ _ _ _ _ (k - p.base) hσ hι (by omega)).2
     rw [show p.base+(k - p.base)=k by omega,hm] at this; cases this
    ·exact .inr h2⟩,fun k bx1 nr1 fl1 w1 xs1 q j hk hq hj=>?_,?_,?_,?_,?_,?_⟩
 ·simp only [World.frozen?_setCells]
  by_cases e:k=o
  ·subst e; rw [Sto.put_same] at hk; cases hk; exact h.cool _ _ _ _ _ _ _ _ hσ hq hj
  ·rw [Sto.put_ne _ _ e] at hk; exact h.cool _ _ _ _ _ _ _ _ hk hq hj
 ·intro k bx1 ro1 nr1 fl1 w1 xs1 hk
  by_cases e:k=o
  ·subst e
   rw [Sto.put_same] at hk
   cases hk
   refine ⟨p,hι,⟨hrow.pw,hrow.pos,hrow.cpos,hl,hs,hnr,hfl,fun i j x y hi hj=>?_,fun _=>⟨hB,fun k hk=>⟨?_,(hown k hk).2⟩⟩,fun hf=>by cases hf⟩⟩
   ·by_cases hlo:c0≤i*w+j
    ·by_cases hhi:i*w+j < c0+vs.length
     ·obtain ⟨v,hv,hr⟩:=hin i j x y hi hj hlo hhi
      refine ⟨v,?_,hr⟩
      have hlt:i*w+j - c0 < vs.length:=by omega
      have:=World.cell?_setCells_in p.blk vs (p.base+c0) W hisome (i*w+j - c0) hlt
      rw [show p.base+i*w+j=p.base+c0+(i*w+j - c0) by omega,this]
      rw [←hv,List.getElem?_eq_getElem hlt]
     ·obtain ⟨v,hv,hr⟩:=hout i j x y hi hj (.inr (by omega))
      exact ⟨v,by rw [Nat.add_assoc,hcellOut _ _ (fun _=>by omega)]; exact hv,hr⟩
    ·obtain ⟨v,hv,hr⟩:=hout i j x y hi hj (.inl (by omega))
     exact ⟨v,by rw [Nat.add_assoc,hcellOut _ _ (fun _=>by omega)]; exact hv,hr⟩
   ·by_cases hlo:c0≤k
    ·by_cases hhi:k < c0+vs.length
     ·have:=World.cell?_setCells_in p.blk vs (p.base+c0) W hisome (k - c0) (by omega)
      rw [show p.base+k=p.base+c0+(k - c0) by omega,this]; rfl
     ·rw [hcellOut _ _ (fun _=>by omega)]; exact (hown k hk).1
    ·rw [hcellOut _ _ (fun _=>by omega)]; exact (hown k hk).1
  ·rw [Sto.put_ne _ _ e] at hk
   obtain ⟨q,hq,hr⟩:=h.row k bx1 ro1 nr1 fl1 w1 xs1 hk
   have hsame:ro1=false→∀n,n < q.cap*q.w→(W.setCells p.blk (p.base+c0) vs).cell? ⟨q.blk,q.base+n,none⟩=W.cell? ⟨q.blk,q.base+n,none⟩:=fun hro n hn=>by
    subst hro
    refine hcellOut _ _ (fun hb=>?_)
    have:=h.apart k o _ _ _ _ _ _ _ _ _ _ q p e hk hσ hq hι
    rw [hrow.pw] at this
    rcases this with h1 | h1 | h1
    ·exact absurd hb h1
    ·left; omega
    ·right; omega
   refine ⟨q,hq,⟨hr.pw,hr.pos,hr.cpos,hr.len,hr.shaped,hr.nr,hr.fl,fun i j x y hi hj=>?_,fun hro=>⟨(hr.own hro).1,fun n hn=>⟨?_,((hr.own hro).2 n hn).2⟩⟩,hr.imm⟩⟩
   ·cases hro:ro1 with
    | true =>
     obtain ⟨v,hv,hrep⟩:=hr.imm hro i j x y hi hj
     obtain ⟨v',hv',hrep'⟩:=hr.cells i j x y hi hj
     have h1:=h.agree _ _ _ hv
     rw [hv'] at h1
     have h2:v'=v:=by simpa using h1
     exact ⟨v',by rw [h2]; exact hagree _ _ _ hv,hrep'⟩
    | false =>
     obtain ⟨v',hv',hrep'⟩:=hr.cells i j x y hi hj
     refine ⟨v',?_,hrep'⟩
     have hlt:i*w1+j < q.cap*q.w:=by
      have h1:=hr.len
      have h2:=(List.getElem?_eq_some_iff.1 hi).1
      have h3:=(hr.shaped x (List.mem_of_getElem? hi)).len
      have h4:=(List.getElem?_eq_some_iff.1 hj).1
      rw [hr.pw]
      calc i*w1+j < i*w1+w1:=by omega
        _=(i+1)*w1:=by rw [Nat.succ_mul]
        _≤q.cap*w1:=Nat.mul_le_mul_right _ (by omega)
     rw [Nat.add_assoc,hsame hro _ hlt,←Nat.add_assoc]; exact hv'
   ·rw [hsame hro n (by rw [hr.pw]; exact hn)]; exact ((hr.own hro).2 n hn).1
 ·intro k fn sl ps as bd st pe hk
  have e:k≠o:=fun e=>by subst e; rw [Sto.put_same] at hk; cases hk
  rw [Sto.put_ne _ _ e] at hk
  obtain ⟨q,nt,hq,hnt,hb,tmps,hsz,hrec,hsl⟩:=h.loop k fn sl ps as bd st pe hk
  exact ⟨q,nt,hq,hnt,hb,tmps,hsz,hheap _ _ hrec (fun c e f=>Qoa c e f),hsl⟩
 ·intro k k' bx1 nr1 fl1 w1 xs1 bx2 nr2 fl2 w2 xs2 q q' hkk h1 h2 hq hq'
  have g:∀k bx1 nr1 fl1 w1 xs1,σ.put o (.row bx' false nr' fl' w xs') k=some (.row bx1 false nr1 fl1 w1 xs1)→∃bx nr fl w xs,σ k=some (.row bx false nr fl w xs):=fun k _ _ _ _ _ hk=>by
   by_cases e:k=o
   ·subst e; exact ⟨_,_,_,_,_,hσ⟩
   ·rw [Sto.put_ne _ _ e] at hk; exact ⟨_,_,_,_,_,hk⟩
  obtain ⟨_,_,_,_,_,g1⟩:=g _ _ _ _ _ _ h1
  obtain ⟨_,_,_,_,_,g2⟩:=g _ _ _ _ _ _ h2
  exact h.apart _ _ _ _ _ _ _ _ _ _ _ _ _ _ hkk g1 g2 hq hq'
 ·intro k k' fn sl ps as bd st pe fn' sl' ps' as' bd' st' pe' q q' hkk h1 h2 hq hq'
  have e:k≠o:=fun e=>by subst e; rw [Sto.put_same] at h1; cases h1
  have e':k'≠o:=fun e=>by subst e; rw [Sto.put_same] at h2; cases h2
  rw [Sto.put_ne _ _ e] at h1; rw [Sto.put_ne _ _ e'] at h2
  exact h.loops _ _ _ _ _ _ _ _ _ _ _ _ _ _ _ _ _ _ hkk h1 h2 hq hq'
 ·intro k hk
  have e:k≠o:=fun e=>by subst e; rw [hι] at hk; cases hk
  rw [Sto.put_ne _ _ e]; exact h.used k hk
theorem Rel.move (h:Rel P B W0 D M ι σ W) {o o':Nat} {p:Place} {bx nr fl:Bool} {w:Nat} {xs:List AV}
  (hσ:σ o=some (.row bx false nr fl w xs)) (hι:ι o=some p) (ho':ι o'=none) (i:Nat) (hi:i < p.cap) :
  Rel P B W0 D M (ι.put o' ⟨p.blk,p.base+i*w,w,p.cap - i⟩) ((σ.put o .dead).put o' (.row bx false nr fl w (xs.drop i))) W:=by
 obtain ⟨p0,hp0,hrow⟩:=h.row o bx false nr fl w xs hσ
 rw [hι] at hp0; cases hp0
 obtain ⟨hB,hown⟩:=hrow.own rfl
 have hsub:(p.cap - i)*w+i*w≤p.cap*w:=by
  rw [←Nat.add_mul]; exact Nat.mul_le_mul_right _ (by omega)
 refine (h.kill o).addRow ho' ⟨rfl,hrow.pos,.inl (by show 0 < p.cap - i; omega),?_,fun x hx=>hrow.shaped x (List.mem_of_mem_drop hx),fun hn=>?_,fun hf x hx=>hrow.fl hf x (List.mem_of_mem_drop hx),fun a j x y ha hj=>?_,
  fun _=>⟨hB,fun k hk=>?_⟩,fun hf=>by cases hf⟩ (fun k hk=>by
   have hk':k < (p.cap - i)*w:=hk
   have:=h.cool _ _ _ _ _ _ _ (i*w+k) hσ hι (by omega)
   rw [←Nat.add_assoc] at this; exact this) ?_
 ·rw [List.length_drop]; show xs.length - i≤p.cap - i; have:=hrow.len; omega
 ·rw [Q1] at *
  exact fun x hx=>Q1.1 (hrow.nr hn) x (List.mem_of_mem_drop hx)
 ·rw [List.getElem?_drop] at ha
  obtain ⟨v,hv,hr⟩:=hrow.cells (i+a) j x y ha hj
  refine ⟨v,?_,hr.mono (CM.le_refl _) (Inj.le_put _ ho')⟩
  show W.cell? ⟨p.blk,p.base+i*w+a*w+j,none⟩=some v
  rw [show p.base+i*w+a*w+j=p.base+(i+a)*w+j by rw [Nat.add_mul]; omega]; exact hv
 ·have hk':k < (p.cap - i)*w:=hk
  have:=hown (i*w+k) (by omega)
  rw [←Nat.add_assoc] at this; exact this
 ·intro k bx' nr' fl' w' xs' q hk hq
  have e:k≠o:=fun e=>by subst e; rw [Sto.put_same] at hk; cases hk
  rw [Sto.put_ne _ _ e] at hk
  have:=h.apart o k _ _ _ _ _ _ _ _ _ _ p q (Ne.symm e) hσ hk hι hq
  rw [hrow.pw] at this
  rcases this with h1 | h1 | h1
  ·exact .inl h1
  ·right; left
   show p.base+i*w+(p.cap - i)*w≤q.base
   omega
  ·right; right
   show q.base+q.cap*q.w≤p.base+i*w
   omega
end
end Go.Ab
namespace Go.Ab
open Go.RowKit
noncomputable def Qen (M:CM) (W:World) (D:Nat → Nat → Prop):Nat → Nat → Option Value:=fun b k=>by
 classical exact if (M b k).isSome then M b k else if D b k then W.cell? ⟨b,k,none⟩ else none
noncomputable def Zg (M:CM) (W:World) (D:Nat → Nat → Prop):CM:=⟨Qen M W D,fun g xs h i v hv=>by
 have:=M.ok g xs h i v hv
 simp [Qen,this],M.blk,M.kc⟩
theorem Qfm {M:CM} {W:World} {D:Nat → Nat → Prop} {b k:Nat}:Zg M W D b k=Qen M W D b k:=rfl
def inC (σ:Sto) (ι:Inj) (ids:List Nat) (b k:Nat):Prop :=
 ∃o∈ids,∃p bx nr fl w xs,σ o=some (.row bx false nr fl w xs)∧ι o=some p∧b=p.blk∧p.base≤k∧k < p.base+xs.length*w
theorem addM_le (M:CM) (W:World) (D:Nat → Nat → Prop):M.le (Zg M W D):=fun b k v h=>by rw [Qfm]; simp [Qen,h]
theorem Qzw {M:CM} {W:World} {D:Nat → Nat → Prop} (ha:K9 M W) {b k:Nat} (h:D b k) {v:Value} (hv:W.cell? ⟨b,k,none⟩=some v):Zg M W D b k=some v:=by
 classical
 rw [Qfm]
 unfold Qen
 split
 ·rename_i hs
  obtain ⟨u,hu⟩:=Option.isSome_iff_exists.1 hs
  have:=ha _ _ _ hu
  rw [hv] at this; rw [hu]; exact this.symm
 ·first | exact hv | (rw [if_pos h]; exact hv)
theorem Qbh {M:CM} {W:World} {D:Nat → Nat → Prop} (ha:K9 M W):K9 (Zg M W D) W:=by
 classical
 refine ⟨?_,ha.keep,ha.keepC⟩
 intro b o v h
 rw [Qfm] at h
 unfold Qen at h
 split at h
 ·exact ha _ _ _ h
 ·split at h
  ·exact h
  ·cases h
theorem Qgk {M:CM} {W:World} {D:Nat → Nat → Prop} {b k:Nat} (hm:M b k=none) (h:¬ D b k):Zg M W D b k=none:=by
 classical
 rw [Qfm]; simp [Qen,hm,h]
theorem Qa.nr_of_noInj {M:CM} {v:Value} {a:AV} (h:Qa M noInj v a):a.nr=true:=by
 generalize hι:noInj=ι at h
 induction h with
 | ref o i n p off cap hp hi hcap hoff=>subst hι; cases hp
 | ref0 a o p hp hc=>subst hι; cases hp
 | ptr o i c p hp=>subst hι; cases hp
 | mp o p hp=>subst hι; cases hp
 | yld o p hp=>subst hι; cases hp
 | ifc t v' v hr ih=>simpa [AV.nr] using ih hι
 | fn f first' caps' first caps hy hm h1 h2 hr1 hr2 ih1 ih2 =>
  simp only [AV.nr,Bool.and_eq_true,Q1]
  refine ⟨fun x hx=>?_,fun x hx=>?_⟩
  ·obtain ⟨j,hj,rfl⟩:=List.mem_iff_getElem.1 hx
   exact ih1 j _ _ (Array.getElem?_eq_getElem (by omega)) (List.getElem?_eq_getElem hj) hι
  ·obtain ⟨j,hj,rfl⟩:=List.mem_iff_getElem.1 hx
   exact ih2 j _ _ (Array.getElem?_eq_getElem (by omega)) (List.getElem?_eq_getElem hj) hι
 | agg cs' cs h hc hr ih =>
  simp only [AV.nr,Q1]
  intro x hx
  obtain ⟨j,hj,rfl⟩:=List.mem_iff_getElem.1 hx
  exact ih j _ _ (Array.getElem?_eq_getElem (by omega)) (List.getElem?_eq_getElem hj) hι
 | tup vs' vs h hr ih =>
  simp only [AV.nr,Q1]
  intro x hx
  obtain ⟨j,hj,rfl⟩:=List.mem_iff_getElem.1 hx
  exact ih j _ _ (Array.getElem?_eq_getElem (by omega)) (List.getElem?_eq_getElem hj) hι
 | lin o i n h ih=>exact absurd (ih hι) (by simp [AV.nr])
 | _=>rfl
theorem Vl {f:AV→Option (AV × List Nat)}:∀{xs ys:List AV} {ids:List Nat},Q4 f xs=some (ys,ids) →
  ys.length=xs.length∧∀(i:Nat) (x:AV),xs[i]?=some x→∃y is,ys[i]?=some y∧f x=some (y,is)∧∀k∈is,k∈ids
 | [],ys,ids,h=>by simp [Q4] at h; obtain ⟨rfl,rfl⟩:=h; simp
 | x::xs,ys,ids,h=>by
  simp only [Q4] at h
  split at h
  ·rename_i y a zs b h1 h2
   simp only [Option.some.injEq,Prod.mk.injEq] at h
   obtain ⟨rfl,rfl⟩:=h
   obtain ⟨hl,hat⟩:=Vl h2
   refine ⟨by simp [hl],fun i u hu=>?_⟩
   cases i with
   | zero=>simp at hu; subst hu; exact ⟨y,a,rfl,h1,fun k hk=>List.mem_append_left _ hk⟩
   | succ i =>
    obtain ⟨y',is,e1,e2,e3⟩:=hat i u (by simpa using hu)
    exact ⟨y',is,by simpa using e1,e2,fun k hk=>List.mem_append_right _ (e3 k hk)⟩
  ·cases h
theorem Z7 {f:AV→Option (AV × List Nat)} {xs ys:List AV} {ids:List Nat} (h:Q4 f xs=some (ys,ids)) {i:Nat} {y:AV} (hy:ys[i]?=some y) :
  ∃x is,xs[i]?=some x∧f x=some (y,is)∧∀k∈is,k∈ids:=by
 obtain ⟨hl,hat⟩:=Vl h
 have hi:i < xs.length:=by rw [←hl]; exact (List.getElem?_eq_some_iff.1 hy).1
 obtain ⟨y',is,e1,e2,e3⟩:=hat i xs[i] (List.getElem?_eq_getElem hi)
 rw [hy] at e1; cases e1
 exact ⟨_,is,List.getElem?_eq_getElem hi,e2,e3⟩
theorem Qiy {σ:Sto} {d:Nat} {a a':AV} {ids:List Nat} (h:Qt σ d a=some (a',ids)) (hc:a.cell=true):a'.cell=true:=by
 cases d with
 | zero=>cases h
 | succ d =>
  cases a <;> simp only [Qt] at h <;> (try (simp [AV.cell] at hc; done))
  all_goals (try (simp only [Option.some.injEq,Prod.mk.injEq] at h; obtain ⟨rfl,rfl⟩:=h; rfl))
  all_goals (repeat' split at h)
  all_goals (first | (cases h; done) | (simp only [Option.some.injEq,Prod.mk.injEq] at h; obtain ⟨rfl,rfl⟩:=h; rfl))
theorem AV.flat_cell {x:AV} (h:x.cell=true):x.flat = [x]:=by cases x <;> simp_all [AV.flat,AV.cell]
theorem V8 {σ:Sto} {d:Nat} {x y:AV} {ids:List Nat} {w:Nat} (h:Qt σ d x=some (y,ids)) (hs:x.shaped w) :
  y.shaped w∧∀(j:Nat) (c':AV),y.flat[j]?=some c'→∃c d' is,x.flat[j]?=some c∧d'≤d∧Qt σ d' c=some (c',is)∧∀k∈is,k∈ids:=by
 rcases hs.form with hf | hf
 ·generalize hcs:x.flat = cs at hf
  subst hf
  cases d with
  | zero=>cases h
  | succ d =>
   simp only [Qt] at h
   split at h
   ·rename_i ys is hm
    simp only [Option.some.injEq,Prod.mk.injEq] at h
    obtain ⟨rfl,rfl⟩:=h
    obtain ⟨hl,hat⟩:=Vl hm
    refine ⟨⟨.inl rfl,by have:=hs.len; simp [AV.flat] at this ⊢; omega,fun z hz=>?_⟩,fun j c' hj=>?_⟩
    ·simp only [AV.flat] at hz
     obtain ⟨j,hj,rfl⟩:=List.mem_iff_getElem.1 hz
     obtain ⟨c,is',e1,e2,_⟩:=Z7 hm (List.getElem?_eq_getElem hj)
     exact Qiy e2 (hs.cells c (by simpa [AV.flat] using List.mem_of_getElem? e1))
    ·obtain ⟨c,is',e1,e2,e3⟩:=Z7 hm (by simpa [AV.flat] using hj)
     exact ⟨c,d,is',by simpa [AV.flat] using e1,Nat.le_succ d,e2,e3⟩
   ·cases h
 ·have hy:=Qiy h hf
  have hw:w=1:=by rw [←hs.len,AV.flat_cell hf]; rfl
  refine ⟨⟨.inr hy,by rw [AV.flat_cell hy,hw]; rfl,fun z hz=>by rw [AV.flat_cell hy] at hz; simp at hz; subst hz; exact hy⟩,fun j c' hj=>?_⟩
  rw [AV.flat_cell hy] at hj
  cases j with
  | zero=>simp at hj; subst hj; exact ⟨x,d,ids,by rw [AV.flat_cell hf]; rfl,Nat.le_refl _,h,fun k hk=>hk⟩
  | succ j=>simp at hj
section
variable {P:Program} {B:Nat} {W0 W W':World} {D:List Nat} {M:CM} {ι:Inj} {σ:Sto}
theorem Rel.content (h:Rel P B W0 D M ι σ W) {o:Nat} {bx ro nr fl:Bool} {w:Nat} {xs:List AV} {p:Place} (hσ:σ o=some (.row bx ro nr fl w xs)) (hι:ι o=some p)
  {ids:List Nat} (ho:o∈ids) {i j:Nat} {x y:AV} (hi:xs[i]?=some x) (hj:x.flat[j]?=some y) :
  ∃v,Zg M W (inC σ ι ids) p.blk (p.base+i*w+j)=some v∧W.cell? ⟨p.blk,p.base+i*w+j,none⟩=some v∧Qa M ι v y:=by
 obtain ⟨q,hq,hr⟩:=h.row o bx ro nr fl w xs hσ
 rw [hι] at hq; cases hq
 obtain ⟨v,hv,hrep⟩:=hr.cells i j x y hi hj
 refine ⟨v,?_,hv,hrep⟩
 cases ro with
 | true =>
  obtain ⟨u,hu,_⟩:=hr.imm rfl i j x y hi hj
  have h1:=h.agree _ _ _ hu
  rw [hv] at h1
  rw [addM_le M W _ _ _ _ hu]; exact h1.symm
 | false =>
  refine Qzw h.agree ⟨o,ho,p,bx,nr,fl,w,xs,hσ,hι,rfl,by omega,?_⟩ hv
  have h2:=(List.getElem?_eq_some_iff.1 hi).1
  have h3:=(hr.shaped x (List.mem_of_getElem? hi)).len
  have h4:=(List.getElem?_eq_some_iff.1 hj).1
  have:(i+1)*w≤xs.length*w:=Nat.mul_le_mul_right _ (by omega)
  rw [Nat.succ_mul] at this
  omega
theorem X4 (h:Rel P B W0 D M ι σ W) (ids:List Nat):∀(d:Nat) (a a':AV) (is:List Nat) (v:Value),Qt σ d a=some (a',is)→(∀k∈is,k∈ids)→Qa M ι v a→Qa (Zg M W (inC σ ι ids)) noInj v a':=by
 intro d
 induction d using Nat.strongRecOn with
 | _ d ih =>
 intro a a' is v hs hsub hr
 have hle:=addM_le M W (inC σ ι ids)
 cases d with
 | zero=>cases hs
 | succ d =>
  have hL:∀(cs ys:List AV) (js:List Nat),Q4 (Qt σ d) cs=some (ys,js)→(∀k∈js,k∈ids)→∀(vs:Array Value),vs.size=cs.length→(∀(j:Nat) (u:Value) (y:AV),vs[j]?=some u→cs[j]?=some y→Qa M ι u y) →
    ys.length=cs.length∧∀(j:Nat) (u:Value) (y:AV),vs[j]?=some u→ys[j]?=some y→Qa (Zg M W (inC σ ι ids)) noInj u y:=by
   intro cs ys js hm hj vs hsz hrep
   refine ⟨(Vl hm).1,fun j u y hu hy=>?_⟩
   obtain ⟨x,is',e1,e2,e3⟩:=Z7 hm hy
   exact ih d (Nat.lt_succ_self d) x y is' u e2 (fun k hk=>hj k (e3 k hk)) (hrep j u x hu e1)
  have hrow:∀(o:Nat) (bx ro nr fl:Bool) (w:Nat) (xs ys:List AV) (js:List Nat) (p:Place),σ o=some (.row bx ro nr fl w xs)→ι o=some p→o∈ids→Q4 (Qt σ d) xs=some (ys,js)→(∀k∈js,k∈ids) →
    (∀y∈ys,AV.shaped y w)∧∀(i j:Nat) (x y:AV),ys[i]?=some x→x.flat[j]?=some y→∃u,Zg M W (inC σ ι ids) p.blk (p.base+i*w+j)=some u∧Qa (Zg M W (inC σ ι ids)) noInj u y:=by
   intro o bx ro nr fl w xs ys js p hσ hι ho hm hj
   obtain ⟨q,hq,hrk⟩:=h.row o bx ro nr fl w xs hσ
   refine ⟨fun y hy=>?_,fun i j x y hx hy=>?_⟩
   ·obtain ⟨i,hi,rfl⟩:=List.mem_iff_getElem.1 hy
    obtain ⟨x,is',e1,e2,e3⟩:=Z7 hm (List.getElem?_eq_getElem hi)
    exact (V8 e2 (hrk.shaped x (List.mem_of_getElem? e1))).1
   ·obtain ⟨x0,is',e1,e2,e3⟩:=Z7 hm hx
    obtain ⟨c,d',is2,f1,f2,f3,f4⟩:=(V8 e2 (hrk.shaped x0 (List.mem_of_getElem? e1))).2 j y hy
    obtain ⟨u,hu,_,hrep⟩:=h.content hσ hι ho e1 f1
    exact ⟨u,hu,ih d' (by omega) c y is2 u f3 (fun k hk=>hj k (e3 k (f4 k hk))) hrep⟩
  cases hr with
  | undef hx=>simp only [Qt,Option.some.injEq,Prod.mk.injEq] at hs; obtain ⟨rfl,rfl⟩:=hs; exact .undef hx
  | bool b=>simp only [Qt,Option.some.injEq,Prod.mk.injEq] at hs; obtain ⟨rfl,rfl⟩:=hs; exact .bool b
  | int k n=>simp only [Qt,Option.some.injEq,Prod.mk.injEq] at hs; obtain ⟨rfl,rfl⟩:=hs; exact .int k n
  | str s=>simp only [Qt,Option.some.injEq,Prod.mk.injEq] at hs; obtain ⟨rfl,rfl⟩:=hs; exact .str s
  | nilp=>simp only [Qt,Option.some.injEq,Prod.mk.injEq] at hs; obtain ⟨rfl,rfl⟩:=hs; exact .nilp
  | nils=>simp only [Qt,Option.some.injEq,Prod.mk.injEq] at hs; obtain ⟨rfl,rfl⟩:=hs; exact .nils
  | nilf=>simp only [Qt,Option.some.injEq,Prod.mk.injEq] at hs; obtain ⟨rfl,rfl⟩:=hs; exact .nilf
  | nilm=>simp only [Qt,Option.some.injEq,Prod.mk.injEq] at hs; obtain ⟨rfl,rfl⟩:=hs; exact .nilm
  | nili=>simp only [Qt,Option.some.injEq,Prod.mk.injEq] at hs; obtain ⟨rfl,rfl⟩:=hs; exact .nili
  | emp a=>simp only [Qt,Option.some.injEq,Prod.mk.injEq] at hs; obtain ⟨rfl,rfl⟩:=hs; exact .emp a
  | lin o i n h=>simp only [Qt] at hs; cases hs
  | emn a c=>simp only [Qt,Option.some.injEq,Prod.mk.injEq] at hs; obtain ⟨rfl,rfl⟩:=hs; exact .emn a c
  | lst0 a fl=>simp only [Qt,Option.some.injEq,Prod.mk.injEq] at hs; obtain ⟨rfl,rfl⟩:=hs; exact .lst0 a fl
  | ref0 a o p hp hz =>
   simp only [Qt] at hs
   split at hs
   ·rename_i bx ro nr fl w xs hσ
    split at hs
    ·split at hs
     ·simp only [Option.some.injEq,Prod.mk.injEq,List.take_zero] at hs
      obtain ⟨rfl,rfl⟩:=hs
      exact .lst0 a _
     ·split at hs
      ·simp only [Option.some.injEq,Prod.mk.injEq,List.take_zero] at hs
       obtain ⟨rfl,rfl⟩:=hs
       exact .lst0 a _
      ·cases hs
    ·cases hs
   ·cases hs
  | fz b off cs f hcs hm hr=>simp only [Qt,Option.some.injEq,Prod.mk.injEq] at hs; obtain ⟨rfl,rfl⟩:=hs; exact (Qa.fz (ι:=noInj) b off cs f hcs hm hr).mono hle (Inj.le_refl _)
  | lst b off cap w fl xs f hcap hfl hc hm hr=>simp only [Qt,Option.some.injEq,Prod.mk.injEq] at hs; obtain ⟨rfl,rfl⟩:=hs; exact (Qa.lst (ι:=noInj) b off cap w fl xs f hcap hfl hc hm hr).mono hle (Inj.le_refl _)
  | mp o p hp=>simp [Qt] at hs
  | yld o p hp=>simp [Qt] at hs
  | ref o i n p off cap hp hi hcap hoff =>
   simp only [Qt] at hs
   split at hs
   ·rename_i bx ro nr fl w xs hσ
    obtain ⟨q,hq,hrk⟩:=h.row o bx ro nr fl w xs hσ
    rw [hp] at hq; cases hq
    split at hs
    ·rename_i hlen
     have fin:∀(fl':Bool) (ys:List AV),ys.length=xs.length→o∈ids→(fl'=true→∀x∈ys,AV.scs x=true)→(∀y∈ys,AV.shaped y w) →
       (∀(i j:Nat) (x y:AV),ys[i]?=some x→x.flat[j]?=some y→∃u,Zg M W (inC σ ι ids) p.blk (p.base+i*w+j)=some u∧Qa (Zg M W (inC σ ι ids)) noInj u y) →
       Qa (Zg M W (inC σ ι ids)) noInj (.slice (some ⟨p.blk,off,none⟩) n cap) (.lst fl' ((ys.drop i).take n)):=by
      intro fl' ys hyl ho hfl hsh hcell
      have hn:((ys.drop i).take n).length=n:=by rw [List.length_take,List.length_drop]; omega
      have key:=Qa.lst (M:=Zg M W (inC σ ι ids)) (ι:=noInj) p.blk off cap w fl' ((ys.drop i).take n) (fun a j=>(Zg M W (inC σ ι ids) p.blk (off+a*w+j)).getD undef) (by rw [hn]; omega)
       (fun hf x hx=>hfl hf x (List.mem_of_mem_drop (List.mem_of_mem_take hx))) (fun x hx=>hsh x (List.mem_of_mem_drop (List.mem_of_mem_take hx)))
      have hat : ∀(a:Nat) (x:AV),((ys.drop i).take n)[a]?=some x→ys[i+a]?=some x∧off=p.base+i*w:=by
       intro a x hx
       have hlt:a < n:=by rw [←hn]; exact (List.getElem?_eq_some_iff.1 hx).1
       rw [List.getElem?_take,if_pos hlt,List.getElem?_drop] at hx
       refine ⟨hx,?_⟩
       rcases hoff with e | e
       ·rw [e,hrk.pw]
       ·omega
      have hcell':∀(a j:Nat) (x y:AV),((ys.drop i).take n)[a]?=some x→x.flat[j]?=some y→∃u,Zg M W (inC σ ι ids) p.blk (off+a*w+j)=some u∧Qa (Zg M W (inC σ ι ids)) noInj u y:=by
       intro a j x y hx hy
       obtain ⟨e1,e2⟩:=hat a x hx
       obtain ⟨u,hu,hr⟩:=hcell (i+a) j x y e1 hy
       refine ⟨u,?_,hr⟩
       rw [e2,show p.base+i*w+a*w+j=p.base+(i+a)*w+j by rw [Nat.add_mul]; omega]; exact hu
      rw [hn] at key
      exact key (fun a j x y hx hy=>by obtain ⟨u,hu,_⟩:=hcell' a j x y hx hy; rw [hu]; rfl) (fun a j x y hx hy=>by obtain ⟨u,hu,hr⟩:=hcell' a j x y hx hy; rw [hu]; exact hr)
     split at hs
     ·rename_i hnr
      simp only [Option.some.injEq,Prod.mk.injEq] at hs
      obtain ⟨rfl,rfl⟩:=hs
      have ho:o∈ids:=hsub o (by simp)
      refine fin fl xs rfl ho hrk.fl hrk.shaped (fun i j x y hx hy=>?_)
      obtain ⟨u,hu,_,hrep⟩:=h.content hσ hp ho hx hy
      exact ⟨u,hu,(hrep.of_nr (ι':=noInj) (AV.nr_flat (Q1.1 (hrk.nr hnr) x (List.mem_of_getElem? hx)) y (List.mem_of_getElem? hy))).mono hle (Inj.le_refl _)⟩
     ·split at hs
      ·rename_i ys js hm
       simp only [Option.some.injEq,Prod.mk.injEq] at hs
       obtain ⟨rfl,rfl⟩:=hs
       have ho:o∈ids:=hsub o (by simp)
       obtain ⟨h1,h2⟩:=hrow o bx ro nr fl w xs ys js p hσ hp ho hm (fun k hk=>hsub k (by simp [hk]))
       exact fin false ys (Vl hm).1 ho (by simp) h1 h2
      ·cases hs
    ·cases hs
   ·cases hs
  | ptr o i c p hp =>
   simp only [Qt] at hs
   split at hs
   ·rename_i bx ro nr fl w xs hσ
    obtain ⟨q,hq,hrk⟩:=h.row o bx ro nr fl w xs hσ
    rw [hp] at hq; cases hq
    split at hs
    ·rename_i ys js hm
     split at hs
     ·rename_i y hy
      simp only [Option.some.injEq,Prod.mk.injEq] at hs
      obtain ⟨rfl,rfl⟩:=hs
      have ho:o∈ids:=hsub o (by simp)
      obtain ⟨h1,h2⟩:=hrow o bx ro nr fl w xs ys js p hσ hp ho hm (fun k hk=>hsub k (by simp [hk]))
      have h2':∀(j:Nat) (z:AV),(y.flat.drop c)[j]?=some z→∃u,Zg M W (inC σ ι ids) p.blk (p.base+i*p.w+c+j)=some u∧Qa (Zg M W (inC σ ι ids)) noInj u z:=by
       intro j z hz
       rw [List.getElem?_drop] at hz
       obtain ⟨u,hu,hr⟩:=h2 i (c+j) y z hy hz
       exact ⟨u,by rw [hrk.pw,show p.base+i*w+c+j=p.base+i*w+(c+j) by omega]; exact hu,hr⟩
      exact .fz _ _ _ (fun j=>(Zg M W (inC σ ι ids) p.blk (p.base+i*p.w+c+j)).getD undef) (fun z hz=>(h1 y (List.mem_of_getElem? hy)).cells z (List.mem_of_mem_drop hz))
       (fun j z hz=>by obtain ⟨u,hu,_⟩:=h2' j z hz; rw [hu]; rfl) (fun j z hz=>by obtain ⟨u,hu,hr⟩:=h2' j z hz; rw [hu]; exact hr)
     ·cases hs
    ·cases hs
   ·cases hs
  | fn f first' caps' first caps hy hm h1 h2 hr1 hr2 =>
   simp only [Qt] at hs
   split at hs
   ·rename_i x i y j e1 e2
    simp only [Option.some.injEq,Prod.mk.injEq] at hs
    obtain ⟨rfl,rfl⟩:=hs
    obtain ⟨a1,b1⟩:=hL _ _ _ e1 (fun k hk=>hsub k (by simp [hk])) first' h1 hr1
    obtain ⟨a2,b2⟩:=hL _ _ _ e2 (fun k hk=>hsub k (by simp [hk])) caps' h2 hr2
    exact .fn f first' caps' x y hy hm (by omega) (by omega) b1 b2
   ·cases hs
  | ifc t v' v hr =>
   simp only [Qt] at hs
   split at hs
   ·rename_i y i e1
    simp only [Option.some.injEq,Prod.mk.injEq] at hs
    obtain ⟨rfl,rfl⟩:=hs
    exact .ifc t v' y (ih d (Nat.lt_succ_self d) v y i v' e1 hsub hr)
   ·cases hs
  | agg cs' cs hsz hc hr =>
   simp only [Qt] at hs
   split at hs
   ·rename_i ys js e1
    simp only [Option.some.injEq,Prod.mk.injEq] at hs
    obtain ⟨rfl,rfl⟩:=hs
    obtain ⟨a1,b1⟩:=hL _ _ _ e1 hsub cs' hsz hr
    refine .agg cs' ys (by omega) (fun z hz=>?_) b1
    obtain ⟨i,hi,rfl⟩:=List.mem_iff_getElem.1 hz
    obtain ⟨x,is',e1,e2,e3⟩:=Z7 e1 (List.getElem?_eq_getElem hi)
    exact Qiy e2 (hc x (List.mem_of_getElem? e1))
   ·cases hs
  | tup vs' vs hsz hr =>
   simp only [Qt] at hs
   split at hs
   ·rename_i ys js e1
    simp only [Option.some.injEq,Prod.mk.injEq] at hs
    obtain ⟨rfl,rfl⟩:=hs
    obtain ⟨a1,b1⟩:=hL _ _ _ e1 hsub vs' hsz hr
    exact .tup vs' ys (by omega) b1
   ·cases hs
end
end Go.Ab
