/- Rules. No conditions. -/
import Derived.Test.YtgogkahhifkocaaDoorEng8
set_option linter.all false
namespace Go.Ab
open Go.RowKit
def J7 {κ α:Type} (ke:κ->AV) (enc:α->AV) (p:κ × α):AV × AV:=(ke p.1,enc p.2)
def X4 {κ α:Type} (ke:κ->AV) (enc:α->AV) (l:List (κ × α)):AObj:=mapO (l.map (J7 ke enc))
def Y9 {κ α:Type} (e:κ->κ->Bool):List (κ × α)->κ->Option α
 | [],_=>none
 | p::r,n=>if e n p.1 then some p.2 else Y9 e r n
def kput {κ α:Type} (e:κ->κ->Bool):List (κ × α)->κ->α->List (κ × α)
 | [],n,v=>[(n,v)]
 | p::r,n,v=>if e n p.1 then (n,v)::r else p::kput e r n v
section
variable {P:Program} {κ α:Type} {ke:κ->AV} {enc:α->AV} {e:κ->κ->Bool} {kt:TypeId}
theorem Qjz (hk:∀a b,X1 P kt (ke a) (ke b)=some (e a b)) {n:κ}:∀(l:List (κ × α)) (i:Nat),Y9 e l n=none->Vk (X1 P kt) (ke n) (l.map (J7 ke enc)) i=some none
 | [],i,_=>rfl
 | p::r,i,h=>by
  unfold Y9 at h
  split at h
  ·cases h
  rename_i hc
  simp only [dG,J7,Vk,hk]
  rw [show e n p.1=false by simpa using hc]
  exact Qjz hk r (i+1) h
theorem Qki (hk:∀a b,X1 P kt (ke a) (ke b)=some (e a b)) {n:κ} {v:α}:∀(l:List (κ × α)) (i:Nat),Y9 e l n=some v->∃j,Vk (X1 P kt) (ke n) (l.map (J7 ke enc)) i=some (some (i+j,enc v))/\∀w,(l.map (J7 ke enc)).set j (J7 ke enc (n,w))=(kput e l n w).map (J7 ke enc)
 | [],i,h=>by cases h
 | p::r,i,h=>by
  unfold Y9 at h
  split at h
  ·rename_i hc
   cases h
   refine ⟨0,?_,fun w=>?_⟩
   ·simp only [dG,J7,Vk,hk,hc,eJ]
   simp only [kput,hc,eM,dG,List.set_cons_zero]
  rename_i hc
  have hc':e n p.1=false:=by simpa using hc
  obtain ⟨j,h1,h2⟩:=Qki hk r (i+1) h
  refine ⟨j+1,?_,fun w=>?_⟩
  ·simp only [dG,J7,Vk,hk,hc']
   rw [show i+(j+1)=i+1+j by omega]
   exact h1
  simp only [kput,hc',dG,List.set_cons_succ,h2 w]
  simp
theorem Qrm {n:κ} {w:α}:∀(l:List (κ × α)),Y9 e l n=none->l.map (J7 ke enc)++[J7 ke enc (n,w)]=(kput e l n w).map (J7 ke enc)
 | [],_=>rfl
 | p::r,h=>by
  unfold Y9 at h
  split at h
  ·cases h
  rename_i hc
  have hc':e n p.1=false:=by simpa using hc
  simp only [kput,hc',dG,dL,Qrm r h]
  simp
end
section
variable {P:Program} {rd:Option Nat} {base:Nat} {ops:Array Oper} {d:Option (List Sk)} {st S:St} {Φ:AOut->Prop} {i:Nat}
noncomputable def Qwg (P:Program) (ops:Array Oper) (i:Nat) (st:St):Option (Nat × TypeId × AV × Bool × AV) :=
 match Z5 ops i st with
 | some o=>match o.op with
  | .lookup t x ix c=>match ti P t,evo (lk st.slots) x,evo (lk st.slots) ix with
   | some T,some (.mp ob),some k=>match T.kind with
    | .map kt et=>match (ti P et).bind (·.zero) with
     | some z=>some (ob,kt,k,c,z)
     | _=>none
    | _=>none
   | _,_,_=>none
  | _=>none
 | none=>none
noncomputable def Qwj (P:Program) (ops:Array Oper) (i:Nat) (st:St):Option (Nat × TypeId × AV × AV) :=
 match Z5 ops i st with
 | some o=>match o.op with
  | .mapUpdate t m x y | .insert t m x y=>match ti P t,evo (lk st.slots) m,evo (lk st.slots) x,evo (lk st.slots) y with
   | some T,some (.mp ob),some k,some v=>match T.kind with
    | .map kt _=>some (ob,kt,k,v)
    | _=>none
   | _,_,_,_=>none
  | _=>none
 | none=>none
theorem Q67 {κ α:Type} {ke:κ->AV} {enc:α->AV} {e:κ->κ->Bool} {l:List (κ × α)} {n:κ} {z:α} {ob:Nat} {kt:TypeId} {c:Bool} (hi:Qwg P ops i st=some (ob,kt,ke n,c,enc z)) (hk:∀a b,X1 P kt (ke a) (ke b)=some (e a b)) (hrow:st.sto ob=some (X4 ke enc l)) (hok:∀v,(enc v).okv=true)
  (hS:Ze ops i st (some (if c then .tup [enc ((Y9 e l n).getD z),.bool (Y9 e l n).isSome] else enc ((Y9 e l n).getD z))) []=some S) (k:RW P rd base ops (Qt d [([],[ob])]) (i+1) S Φ):RW P rd base ops d i st Φ:=by
 unfold Qwg at hi
 split at hi
 ·rename_i o ho
  split at hi
  ·rename_i t x ix c' hop
   split at hi
   ·rename_i T ob' k' hT hx hix
    split at hi
    ·rename_i kt et hkind
     split at hi
     ·rename_i z' hz
      cases hi
      refine X8 (nf:=false) (v:=some (if c then .tup [enc ((Y9 e l n).getD z),.bool (Y9 e l n).isSome] else enc ((Y9 e l n).getD z))) (eff:=[]) (fr:=st.objs.length) (rds:=[ob]) ho ?_ hS (Z6 hS) k
      rw [Qg5]
      simp only [evalOp,hop]
      unfold Qea
      have hes:(st.sto ob).bind Qdq=some (l.map (J7 ke enc)):=by rw [hrow]; exact Qmu _
      simp only [hT,hx,hix,hkind,hes,hk,hz]
      cases hg:Y9 e l n with
      | none =>
       rw [Qjz hk l 0 hg]
       simp only [hok,eM,Option.getD_none,Option.isSome_none]
      | some v =>
       obtain ⟨j,h1,_⟩:=Qki (enc:=enc) hk l 0 hg
       rw [h1]
       simp only [hok,eM,cS,dJ]
     ·cases hi
    ·cases hi
   ·cases hi
  ·cases hi
 ·cases hi
theorem Q73 {κ α:Type} {ke:κ->AV} {enc:α->AV} {e:κ->κ->Bool} {l:List (κ × α)} {n:κ} {v:α} {ob:Nat} {kt:TypeId} (hi:Qwj P ops i st=some (ob,kt,ke n,enc v)) (hk:∀a b,X1 P kt (ke a) (ke b)=some (e a b)) (hrow:st.sto ob=some (X4 ke enc l))
  (hS:Ze ops i st none [(ob,X4 ke enc (kput e l n v))]=some S) (hl:Nat.beq S.objs.length st.objs.length=true) (k:RW P rd base ops (Qt d [([ob],[ob])]) (i+1) S Φ):RW P rd base ops d i st Φ:=by
 have main:∃o,Z5 ops i st=some o/\Zd P false noC st.sto st.objs.length (lk st.slots) o=some (.val ⟨none,[(ob,X4 ke enc (kput e l n v))],st.objs.length,[ob]⟩):=by
  unfold Qwj at hi
  split at hi
  rotate_left
  ·cases hi
  rename_i o ho
  have step:∀(t:TypeId) (m x y:Operand),(o.op=.mapUpdate t m x y\/o.op=.insert t m x y)->(match ti P t,evo (lk st.slots) m,evo (lk st.slots) x,evo (lk st.slots) y with
    | some T,some (.mp ob),some k,some v=>match T.kind with
     | .map kt _=>some (ob,kt,k,v)
     | _=>none
    | _,_,_,_=>none)=some (ob,kt,ke n,enc v)->Zd P false noC st.sto st.objs.length (lk st.slots) o=some (.val ⟨none,[(ob,X4 ke enc (kput e l n v))],st.objs.length,[ob]⟩):=fun t m x y hop hi=>by
   split at hi
   ·rename_i T ob' k' v' hT hm hx hy
    split at hi
    ·rename_i kt et hkind
     cases hi
     rw [Qg5]
     have hev:evalOp P false noC st.sto st.objs.length (lk st.slots) o=Qeq P st.sto st.objs.length (lk st.slots) t m x y:=by
      rcases hop with hop | hop <;> simp only [evalOp,hop]
     rw [hev]
     unfold Qeq
     have hes:(st.sto ob).bind Qdq=some (l.map (J7 ke enc)):=by rw [hrow]; exact Qmu _
     simp only [hT,hm,hx,hy,hkind,hes,hk]
     cases hg:Y9 e l n with
     | none =>
      rw [Qjz hk l 0 hg]
      simp only
      rw [show (ke n,enc v)=J7 ke enc (n,v) from rfl,Qrm l hg]
      rfl
     | some u =>
      obtain ⟨j,h1,h2⟩:=Qki (enc:=enc) hk l 0 hg
      rw [h1]
      simp only [dS]
      rw [show (ke n,enc v)=J7 ke enc (n,v) from rfl,h2]
      rfl
    ·cases hi
   ·cases hi
  refine ⟨o,ho,?_⟩
  split at hi
  ·rename_i t m x y hop; exact step t m x y (.inl hop) hi
  ·rename_i t m x y hop; exact step t m x y (.inr hop) hi
  cases hi
 obtain ⟨o,ho,he⟩:=main
 exact X8 ho he hS (aJ hl) k
end
section
variable {P:Program} {κ α:Type} {ke:κ->AV} {enc:α->AV} {e:κ->κ->Bool} {kt:TypeId}
end
section
variable {P:Program} {rd:Option Nat} {base:Nat} {ops:Array Oper} {d:Option (List Sk)} {st S:St} {Φ:AOut->Prop} {i:Nat}
end
theorem Qrv {κ α:Type} {ke:κ->AV} {enc:α->AV} {f:Nat -> Option Nat} (hk:∀v,(ke v).ren f=some (ke v)) (he:∀v,(enc v).ren f=some (enc v)):∀(l:List (κ × α)) (i:Nat),Qoh f (Z8 i (l.map (J7 ke enc)))=some (Z8 i (l.map (J7 ke enc)))
 | [],i=>rfl
 | x::l,i=>by
  simp only [dG,J7,Z8,Qoh,he]
  have h2:=Qrv hk he l (i+2)
  rw [hk]
  simp only [h2]
theorem Q1u {κ α:Type} {ke:κ->AV} {enc:α->AV} {f:Nat -> Option Nat} (hk:∀v,(ke v).ren f=some (ke v)) (he:∀v,(enc v).ren f=some (enc v)) (l:List (κ × α)):(X4 ke enc l).ren f=some (X4 ke enc l):=by
 show AObj.ren f (.loop _ _ _ _ _ _ _)=_
 simp only [AObj.ren,Qrv hk he l 0]
 rfl
theorem wk_gcK {P:Program} {base:Nat} {st st':St} {live keep:List Nat} (o:Nat) {κ α:Type} (ke:κ->AV) (enc:α->AV) (L:List (κ × α)) (hK:∀f a,(ke a).ren f=some (ke a)) (hE:∀f a,(enc a).ren f=some (enc a)) (ho:st.objs[o]?=some (X4 ke enc L))
  (h:Q26 base live keep o (X4 ke enc L) st=some st'):Wk P base st st':=by
 refine wk_gc (live:=live) (keep:=keep) ?_
 unfold Q26 at h
 have hself:st.objs.set o (X4 ke enc L)=st.objs:=by
  obtain ⟨h1,h2⟩:=aD.1 ho
  apply List.ext_getElem?
  intro i
  by_cases e:o=i
  ·subst e; rw [cD h1,ho]
  rw [cE e]
 cases hg:Qfo base live keep ⟨st.slots,st.objs.set o (mapO []),st.nt⟩ with
 | none=>rw [hg] at h; cases h
 | some s =>
  rw [hg] at h
  cases h
  unfold Qfo at hg ⊢
  simp only at hg ⊢
  split at hg
  ·rename_i hc
   rw [aH hc]
   split at hg
   ·rename_i os hos
    cases hg
    have:=Qkb (Q1u (ke:=ke) (fun a=>hK _ a) (fun a=>hE _ a) L) (aD.1 ho).1 _ _ hos
    rw [hself] at this
    rw [this]
   cases hg
  cases hg
theorem Qzl {N:Nat} {κ α:Type} {ke:κ->AV} {enc:α->AV} {l:List (κ × α)} (hk:∀v,(ke v).ids=[]) (he:∀v,(enc v).ids=[]):Qcq N (X4 ke enc l):=by
 show ∀p∈Z8 0 (l.map (J7 ke enc)),∀o∈p.2.ids,o < N
 have:∀(l:List (κ × α)) (i:Nat),∀p∈Z8 i (l.map (J7 ke enc)),p.2.ids=[]:=by
  intro l
  induction l with
  | nil=>intro i p hp; cases hp
  | cons x l ih =>
   intro i p hp
   simp only [dG,J7,Z8,cF] at hp
   rcases hp with rfl | rfl | hp
   ·exact hk _
   ·exact he _
   exact ih (i+2) p hp
 intro p hp o ho
 rw [this l 0 p hp] at ho
 cases ho
theorem Qav {N:Nat} {A:List AObj} (k:Nat) {κ α:Type} (ke:κ->AV) (enc:α->AV) (l:List (κ × α)) (hA:A[k]?=some (X4 ke enc l)) (hk:∀v,(ke v).ids=[]) (he:∀v,(enc v).ids=[]) (h:(A.set k .dead).all (Qsz N)=true):∀y∈A,Qcq N y:=fun y hy=>by
 obtain ⟨j,hj⟩:=bT.1 hy
 by_cases e:k=j
 ·subst e
  rw [hA] at hj
  cases hj
  exact Qzl hk he
 exact Q3w (bQ.1 h y (aF (by rw [cE e]; exact hj)))
end Go.Ab
namespace Go.Ab
open Go.RowKit
theorem Qts:∀(es:List (Nat × AObj)) (A A':List AObj),Z3 A es=some A'->(∀y∈es,y.1 < A.length)->∀k,Sto.puts (fun k=>A[k]?) es k=A'[k]?
 | [],A,A',h,_,k=>by cases h; rfl
 | (o,x)::es,A,A',h,hl,k=>by
  simp only [Z3] at h
  split at h
  rotate_left
  ·cases h
  have ho:=hl (o,x) (by simp)
  rw [aG ho] at h
  simp only at h
  split at h
  ·cases h
  have ih:=Qts es _ A' h (fun y hy=>by rw [cC]; exact hl y (cN _ hy)) k
  rw [<-ih]
  show Sto.puts _ es k=_
  congr 1
  funext j
  by_cases e:j=o
  ·subst e; simp [Sto.put,cD ho]
  simp [Sto.put,e,cE (fun h=>e h.symm)]
section
variable {P:Program} {rd:Option Nat} {base:Nat} {ops:Array Oper} {d:Option (List Sk)} {st:St} {Φ:AOut->Prop} {i:Nat}
theorem Q75 {σ ρ R:Type} {N:Nat} {c:Code} {I:σ->St} {E:ρ->St} {F:σ->Option ρ} {K:ρ->Option R} {r:R} {f:FuncId} {fn:Func} {as0:List AV} (s0:σ) (eff:ρ->List (Nat × AObj)) (S:ρ->St) (w:List Nat)
  (hi:Zv ops i st=some (f,as0)) (hf:P.funcs[f]?=some fn) (hb:fn.body=some c) (hn:(fn.name == "runtime.NumGoroutine")=false) (hle:Nat.ble as0.length fn.ntmps=true)
  (h0:(⟨V7 0 as0,st.objs.take N,fn.ntmps⟩:St)=I s0) (hN:Nat.ble N st.objs.length=true) (hbig:Nat.ble st.objs.length BIG=true) (hlive:(st.objs.take N).all Qsy=true) (hA:∀y∈st.objs.take N,Qcq N y) (hE:∀x,Nat.beq (E x).objs.length N=true) (hA':∀x,∀y∈(E x).objs,Qcq N y)
  (hsl:(as0.all fun a=>a.ids.all fun o=>Nat.blt o N)=true)
  (heff:∀x,Z3 (st.objs.take N) (eff x)=some (E x).objs) (hw:∀x,(eff x).map (·.1)=w) (hwl:(w.all fun o=>Nat.blt o N)=true)
  (IH:Qgc P N c I E F) (h:(F s0).bind K=some r) (hS:∀x,Qlc P fn ops i st (eff x) (E x)=some (S x))
  (k:∀x,K x=some r->RW P rd base ops (Qt d [(w,List.range N)]) (i+1) (S x) Φ):RW P rd base ops d i st Φ:=by
 have hNl:N<=st.objs.length:=bP hN
 have hlA:(st.objs.take N).length=N:=by rw [cT]; omega
 have hel:∀x,∀y∈eff x,y.1 < N:=fun x y hy=>by
  have:y.1∈(eff x).map (·.1):=List.mem_map_of_mem hy
  rw [hw x] at this
  exact Xc (bQ.1 hwl _ this)
 refine Q71 s0 (st.objs.take N) (st.objs.drop N) eff S hi hf hb hn hle (List.take_append_drop N st.objs).symm h0 hlA ?_ hlive hA (fun x=>aJ (hE x)) hA' hsl (fun x k _=>Qts _ _ _ (heff x) (fun y hy=>by rw [hlA]; exact hel x y hy) k) hel w hw hbig IH h hS k
 have:=bP hbig
 exact Nat.ble_eq_true_of_le (by omega)
end
end Go.Ab
namespace Go.Ab
open Go.RowKit
@[reducible] def nlE {α:Type} (fl:Bool) (enc:α->AV):List α->AV
 | []=>.nils
 | a::l=>.lst fl ((a::l).map enc)
section
variable {P:Program} {rd:Option Nat} {base:Nat} {ops:Array Oper} {d:Option (List Sk)} {Φ:AOut->Prop} {i:Nat}
variable {st:St} {ops:Array Oper}
theorem Q5s {α R:Type} {G:Option (List α)} {A:Option R} {B:α->List α->Option R} {f:FuncId} {as0 us:List AV} {ids:List Nat} {fl:Bool} {enc:α->AV} {S0:St} {S1:α->List α->St} {r:R} (hi:Zv ops i st=some (f,as0)) (hb:Qhy P f=true)
  (hsn:Qs (Qo st.sto Qk) as0=some (us,ids)) (hc:∀x,G=some x->Q3 P f us (.ret (nlE fl enc x) [])) (h0:Qdy ops i st ids .nils []=some S0) (h1:∀a t,Qdy ops i st ids (.lst fl ((a::t).map enc)) []=some (S1 a t))
  (h:(G.bind fun x=>Q2t x A B)=some r) (k0:A=some r->RW P rd base ops (Qt d [Qjd st ids .nils []]) (i+1) S0 Φ)
  (k1:∀a t,B a t=some r->RW P rd base ops (Qt d [Qjd st ids (.lst fl ((a::t).map enc)) []]) (i+1) (S1 a t) Φ):RW P rd base ops d i st Φ:=by
 cases hg:G with
 | none=>rw [hg] at h; cases h
 | some x =>
  rw [hg] at h
  cases x with
  | nil=>exact Qra hi hb hsn (hc [] hg) h0 (k0 h)
  | cons a t=>exact Qra hi hb hsn (hc (a::t) hg) (h1 a t) (k1 a t h)
end
end Go.Ab
namespace Go.Ab
open Go.RowKit
theorem Xb.trans {ops:Array Oper} {i m k:Nat} (h:Xb ops i m) (h2:Xb ops m k):Xb ops i k:=by
 induction h2 with
 | one hj he hb hon=>exact .more hj he hb (hon ▸ h)
 | more hj he hb _ ih=>exact .more hj he hb ih
def Qon (ops:Array Oper) (b i:Nat):Bool:=match ops[b]? with
 | some o=>o.after.any fun e=>Region.binds .any e && Nat.beq e.on i
 | none=>false
theorem Qev {ops:Array Oper} {b i:Nat} (h:Qon ops b i=true):Xb ops i b:=by
 unfold Qon at h
 split at h
 ·rename_i o ho
  obtain ⟨e,he,hb⟩:=Array.any_eq_true'.1 h
  simp only [aE] at hb
  exact .one ho he hb.1 (aJ hb.2)
 cases h
def Qs4 (ops:Array Oper):Nat -> List Nat -> Bool
 | 0,_=>true
 | i+1,B=>B.any (fun b=>Qon ops b i) && Qs4 ops i (i::B)
def upB (ops:Array Oper):Nat -> Nat -> List Nat -> Bool
 | 0,_,_=>true
 | m+1,k,B=>B.any (fun b=>Qon ops k b) && upB ops m (k+1) (k::B)
theorem Qow {ops:Array Oper} {j:Nat}:∀(i:Nat) (B:List Nat),(∀b∈B,b=j\/Xb ops b j)->Qs4 ops i B=true->∀k,k < i->Xb ops k j
 | 0,_,_,_,k,h=>by omega
 | i+1,B,hB,h,k,hk=>by
  simp only [Qs4,aE,bR] at h
  obtain ⟨⟨b,hb,he⟩,h2⟩:=h
  have hi:Xb ops i j:=by
   rcases hB b hb with rfl | h3
   ·exact Qev he
   exact (Qev he).trans h3
  by_cases e:k=i
  ·subst e; exact hi
  exact Qow i (i::B) (fun b hb=>(cF.1 hb).elim (fun e=>.inr (e ▸ hi)) (hB b)) h2 k (by omega)
theorem Qti {ops:Array Oper} {j:Nat}:∀(m k:Nat) (B:List Nat),(∀b∈B,b=j\/Xb ops j b)->upB ops m k B=true->∀q,k<=q->q < k+m->Xb ops j q
 | 0,_,_,_,_,q,h,h'=>by omega
 | m+1,k,B,hB,h,q,hq,hq'=>by
  simp only [upB,aE,bR] at h
  obtain ⟨⟨b,hb,he⟩,h2⟩:=h
  have hk:Xb ops j k:=by
   rcases hB b hb with rfl | h3
   ·exact Qev he
   exact h3.trans (Qev he)
  by_cases e:q=k
  ·subst e; exact hk
  exact Qti m (k+1) (k::B) (fun b hb=>(cF.1 hb).elim (fun e=>.inr (e ▸ hk)) (hB b)) h2 q (by omega) (by omega)
def Qwp (j:Nat) (l:List Oper):Bool:=l.all fun o=>match o.guard with | some (g,_)=>Nat.blt g j | none=>true
def cutB (ops:Array Oper) (j:Nat):Bool:=Nat.blt j ops.size && Qrb (ops.extract 0 j) && Qwp j (ops.extract 0 j).toList && Qs4 ops j [j] && upB ops (ops.size - (j+1)) (j+1) [j] && forced ops (ops.size - j) j (X6 ops.size j)
section
variable {F:Fence} {n:Nat} {P:Program} {ops:Array Oper} {Q Q':Exit->Act->World->Prop}
theorem Qx8 {o:Oper} {a:Act} {w:World} {K K':Act->World->Prop} (h:∀a w,K a w->K' a w) (hq:∀e a w,e≠.normal->Q e a w->Q' e a w) (hh:o.wpIn F n P a w K Q):o.wpIn F n P a w K' Q':=by
 have lo:LetsOut Q->LetsOut Q':=fun ⟨a,w,h⟩=>⟨a,w,hq _ _ _ (by simp) h⟩
 unfold Oper.wpIn at *
 refine ⟨hh.1,?_⟩
 have hh:=hh.2
 generalize (o.semAt F.round a.eval).run P w=r at *
 cases r with
 | ok x w' =>
  cases x <;> simp only [Oper.uponIn] at hh ⊢ <;>
   first
    | exact h _ _ hh
    | exact ⟨hh.1,CallsIn.mono hh.2 (fun e w'' he=>by cases e <;> first | exact h _ _ he | exact hq _ _ _ (by simp) he | exact lo he)⟩
    | exact ⟨hh.1,RowsIn.mono hh.2 (fun _ _ he=>h _ _ he)⟩
    | exact ⟨hh.1,RoundIn.mono hh.2 (fun e w'' he=>by cases e <;> first | exact h _ _ he | exact hq _ _ _ (by simp) he | exact lo he)⟩
 | halt x w'=>cases x <;> simp only [Oper.uponIn] at hh ⊢ <;> first | exact hq _ _ _ (by simp) hh | exact hh
theorem Qtp:∀(fuel:Nat) (L:Array Bool) (a:Act) (w:World),wpAnyIn F n P .any ops Q fuel L a w->wpAnyIn F n P .any ops Q (fuel+1) L a w
 | 0,L,a,w,h=>⟨fun _=>h.2,fun i hi=>by rw [h.1] at hi; cases hi⟩
 | fuel+1,L,a,w,h=>⟨h.1,fun i hi=>wpOpIn_mono (fun a w g=>Qtp fuel _ a w g) (h.2 i hi)⟩
theorem Qro (m:Nat):∀(k:Nat) {L:Array Bool} {a:Act} {w:World},wpAnyIn F n P .any ops Q m L a w->wpAnyIn F n P .any ops Q (k+m) L a w
 | 0,L,a,w,h=>by rw [dS]; exact h
 | k+1,L,a,w,h=>by rw [show k+1+m=(k+m)+1 by omega]; exact Qtp _ _ _ _ (Qro m k h)
theorem Qo6:∀(m k:Nat) (L:Array Bool) (a:Act) (w:World),forced ops m k L=true->wpOpsIn F n P ops Q (List.range' k m) a w->wpAnyIn F n P .any ops Q m L a w
 | 0,k,L,a,w,hf,h=>⟨by simpa [forced] using hf,by simpa [wpOpsIn] using h⟩
 | m+1,k,L,a,w,hf,h=>by
  simp only [forced,aE] at hf
  obtain ⟨h1,h2⟩:=hf
  have hr:Region.ready .any ops L=[k]:=by
   split at h1
   ·rename_i i hi; rw [hi,aJ h1]
   cases h1
  refine ⟨fun e=>(by rw [hr] at e; cases e),fun i hi=>?_⟩
  rw [hr] at hi
  simp only [bW] at hi
  subst hi
  rw [List.range'_succ,wpOpsIn_cons] at h
  exact wpOpIn_mono (fun a w g=>Qo6 m (i+1) _ a w h2 g) h
def Qb4 (n:Nat) (L:Array Bool):Array Bool:=L++Array.replicate (n - L.size) false
theorem Qgg {N:Nat} {L:Array Bool} (hN:L.size<=N) {i:Nat} {b:Bool}:(Qb4 N L).getD i b=if i < L.size then L.getD i b else if i < N then false else b:=by
 unfold Qb4
 simp only [bE]
 by_cases h:i < L.size
 ·rw [aH h,dX h]
 rw [aI h,Array.getElem?_append_right (by omega)]
 by_cases h2:i < N
 ·rw [aH h2,Array.getElem?_replicate,aH (by omega)]; rfl
 rw [aI h2,Array.getElem?_replicate,aI (by omega)]; rfl
theorem Qwb {N i:Nat} {L:Array Bool} (hi:i < L.size):(Qb4 N L).setIfInBounds i true=Qb4 N (L.setIfInBounds i true):=by
 unfold Qb4
 rw [Array.setIfInBounds_append_left (by omega),Array.size_setIfInBounds]
theorem Qgq {j i:Nat} (hj:j<=ops.size) (hi:i < j):(ops.extract 0 j)[i]?=ops[i]?:=by
 rw [Array.getElem?_extract]
 simp; omega
theorem Q3j {j m:Nat} (hj:j < ops.size) (hlex:Qkd 0 ((ops.extract 0 j).toList.map (Ka (ops.extract 0 j)))=true) (hg:Qwp j (ops.extract 0 j).toList=true)
  (hB:∀i k,i < j->j<=k->k < ops.size->Xb ops i k) (hn:∀a w,Q' .normal a w->wpAnyIn F n P .any ops Q m (X6 ops.size j) a w) (hq:∀e a w,e≠.normal->Q' e a w->Q e a w) :
  ∀(fuel:Nat) (L:Array Bool) (a:Act) (w:World),L.size=j->Qcd ops (Qb4 ops.size L)->wpAnyIn F n P .any (ops.extract 0 j) Q' fuel L a w->wpAnyIn F n P .any ops Q (fuel+m) (Qb4 ops.size L) a w:=by
 have hsz:(ops.extract 0 j).size=j:=by simp; omega
 have hedge:∀i o,i < j->ops[i]?=some o->∀e∈o.after,Region.binds .any e=true->e.on < i:=fun i o hi ho e he hb=>by
  have h1:=(Qn4 (ops:=ops.extract 0 j) _ 0 hlex i (Ka (ops.extract 0 j) o) (by
   rw [bF,dA,Qgq (by omega) hi,ho]; rfl)).1 e.on (by
   simp only [Ka,cG,cQ]
   exact ⟨e,⟨Array.mem_toList_iff.2 he,hb⟩,rfl⟩)
  omega
 have hall:∀L:Array Bool,L.size=j->Region.ready .any (ops.extract 0 j) L=[]->∀i,i < j->L.getD i true=true:=fun L hL hr=>by
  intro i
  induction i using Nat.strongRecOn with
  | _ i ih =>
   intro hi
   apply Classical.byContradiction
   intro hno
   have hi':i < ops.size:=by omega
   have:i∈Region.ready .any (ops.extract 0 j) L:=by
    rw [mem_ready]
    refine ⟨by simpa using hno,ops[i],by rw [Qgq (by omega) hi]; exact aL hi',fun e he hb=>?_⟩
    have hlt:=hedge i ops[i] hi (aL hi') e he hb
    have:=ih e.on hlt (by omega)
    simp only [bE] at this ⊢
    rw [aL (by omega)] at this ⊢
    simpa using this
   rw [hr] at this; cases this
 have hpad:∀L:Array Bool,L.size=j->(∀i,i < j->L.getD i true=true)->Qb4 ops.size L=X6 ops.size j:=fun L hL h=>by
  apply Array.ext_getElem?
  intro i
  have h1:∀b,(Qb4 ops.size L).getD i b=(X6 ops.size j).getD i b:=fun b=>by
   rw [Qgg (by omega),Qbb,hL]
   by_cases c:i < j
   ·rw [aH c,aH (by omega)]
    have:=h i c
    simp only [bE] at this ⊢
    rw [aL (by omega)] at this ⊢
    simpa [c] using this
   rw [aI c]
   by_cases c2:i < ops.size
   ·rw [aH c2,aH c2]; simp [c]
   rw [aI c2,aI c2]
  have a1:=h1 true
  have a2:=h1 false
  simp only [bE] at a1 a2
  cases e1:(Qb4 ops.size L)[i]? with
  | none =>
   cases e2:(X6 ops.size j)[i]? with
   | none=>rfl
   | some y=>rw [e1,e2] at a1 a2; cases y <;> simp at a1 a2
  | some x =>
   cases e2:(X6 ops.size j)[i]? with
   | none=>rw [e1,e2] at a1 a2; cases x <;> simp at a1 a2
   | some y=>rw [e1,e2] at a1; simpa using a1
 have hready:∀L:Array Bool,L.size=j->Qcd ops (Qb4 ops.size L)->(∃i,i < j/\L.getD i true=false)->∀k,k∈Region.ready .any ops (Qb4 ops.size L)↔k∈Region.ready .any (ops.extract 0 j) L:=fun L hL hcl ⟨i0,h0,hi0⟩ k=>by
  have hpi:(Qb4 ops.size L).getD i0 true=false:=by rw [Qgg (by omega),aH (by omega)]; exact hi0
  constructor
  ·intro hk
   have hkj:k < j:=by
    apply Nat.lt_of_not_le
    intro hle
    have hks:k < ops.size:=by
     obtain ⟨_,ok,hok,_⟩:=mem_ready.1 hk
     exact (aZ.1 hok).1
    exact Qp2 hcl hk hpi (hB i0 k h0 hle hks)
   obtain ⟨h1,ok,hok,h2⟩:=mem_ready.1 hk
   refine mem_ready.2 ⟨?_,ok,by rw [Qgq (by omega) hkj]; exact hok,fun e he hb=>?_⟩
   ·rw [Qgg (by omega),aH (by omega)] at h1; exact h1
   have:=h2 e he hb
   have hlt:=hedge k ok hkj hok e he hb
   rw [Qgg (by omega),aH (by omega)] at this; exact this
  intro hk
  obtain ⟨h1,ok,hok,h2⟩:=mem_ready.1 hk
  have hkj:k < j:=by have:=(aZ.1 hok).1; omega
  rw [Qgq (by omega) hkj] at hok
  refine mem_ready.2 ⟨?_,ok,hok,fun e he hb=>?_⟩
  ·rw [Qgg (by omega),aH (by omega)]; exact h1
  have hlt:=hedge k ok hkj hok e he hb
  rw [Qgg (by omega),aH (by omega)]; exact h2 e he hb
 intro fuel
 induction fuel with
 | zero =>
  intro L a w hL hcl h
  rw [dS,hpad L hL (hall L hL h.1)]
  exact hn a w h.2
 | succ fuel ih =>
  intro L a w hL hcl h
  by_cases hx:∃i,i < j/\L.getD i true=false
  ·have hr:=hready L hL hcl hx
   rw [show fuel+1+m=(fuel+m)+1 by omega]
   refine ⟨fun he=>?_,fun i hi=>?_⟩
   ·have hemp:Region.ready .any (ops.extract 0 j) L=[]:=List.eq_nil_iff_forall_not_mem.2 fun k hk=>by
     have:=(hr k).2 hk
     rw [he] at this; cases this
    obtain ⟨i,h1,h2⟩:=hx
    rw [hall L hL hemp i h1] at h2; cases h2
   have hi':=(hr i).1 hi
   have h1:=h.2 i hi'
   obtain ⟨_,oi,hoi,_⟩:=mem_ready.1 hi'
   have hij:i < j:=by have:=(aZ.1 hoi).1; omega
   have hoi':=hoi
   rw [Qgq (by omega) hij] at hoi'
   have hy:Region.wanted oi (yielded (ops.extract 0 j) a.tmps)=Region.wanted oi (yielded ops a.tmps):=by
    unfold Region.wanted
    cases hgd:oi.guard with
    | none=>rfl
    | some gw =>
     obtain ⟨g,want⟩:=gw
     have hmem:oi∈(ops.extract 0 j).toList:=Array.mem_toList_iff.2 (Array.mem_of_getElem? hoi)
     have:=bQ.1 hg oi hmem
     rw [hgd] at this
     have hgj:g < j:=by simpa [Nat.blt_eq] using this
     simp only [yielded]
     rw [Qgq (by omega) hgj]
   unfold wpOpIn at h1 ⊢
   simp only [hoi,hoi'] at h1 ⊢
   rw [hy] at h1
   have hnext:∀a w,wpAnyIn F n P .any (ops.extract 0 j) Q' fuel (L.setIfInBounds i true) a w->wpAnyIn F n P .any ops Q (fuel+m) ((Qb4 ops.size L).setIfInBounds i true) a w:=fun a w g=>by
    rw [Qwb (by omega)]
    refine ih _ a w (by simpa using hL) ?_ g
    rw [<-Qwb (by omega)]
    exact hcl.add hi
   split at h1
   ·rename_i hw; rw [aH hw]; exact Qx8 hnext hq h1
   rename_i hw; rw [aI hw]; exact ⟨h1.1,hnext _ _ h1.2⟩
  have hall':∀i,i < j->L.getD i true=true:=fun i hi=>by
   cases e:L.getD i true with
   | true=>rfl
   | false=>exact absurd ⟨i,hi,e⟩ hx
  have hemp:Region.ready .any (ops.extract 0 j) L=[]:=List.eq_nil_iff_forall_not_mem.2 fun k hk=>by
   obtain ⟨h1,ok,hok,_⟩:=mem_ready.1 hk
   have hkj:k < j:=by have:=(aZ.1 hok).1; omega
   rw [hall' k hkj] at h1; cases h1
  rw [hpad L hL hall']
  exact Qro m (fuel+1) (hn a w (h.1 hemp))
end
section
variable {P:Program} {rd:Option Nat} {base:Nat} {ops:Array Oper} {st st':St} {Φ:AOut->Prop}
theorem Q1d {fs:List Foot} {ss:List Sk} (hB:Region.lexB .any ops=true) (hrun:Qs8 P ops ops.toList st fs st') (hcov:Qqt fs ss) (hcomp:Qd9 ops.toList ss=true)
  {B:Nat} {W0:World} {D0 dl:List Nat} {M:CM} {ι:Inj} {a:Act} {W:World} {n:Nat} {Q:Exit->Act->World->Prop} {r:Option Nat} (hs:Sim P B W0 D0 dl M ι st a W)
  (hp:∀M' ι' a' W',CM.Grow B M M'->Inj.leB base ι ι'->Sim P B W0 D0 dl M' ι' st' a' W'->Q .normal a' W') :
  wpAnyIn (FW r) n P .any ops Q ops.size (Array.replicate ops.size false) a W:=by
 simp only [Qd9,aE] at hcomp
 have hcomp:=Qft (ops:=ops) 0 ops.toList _ _ hcov hcomp.1 hcomp.2 (fun q=>by simp)
 obtain ⟨r1,r2,r3,r4,rb,r5⟩:=Qlj _ _ _ _ hrun
 have hbig:=rb hs.big
 have hdef:∀i,i < ops.size->fs[i]?=some (fs.getD i ⟨none,[],st'.objs.length,st'.objs.length,[]⟩):=fun i hi=>by
  rw [List.getD_eq_getElem?_getD,aG (by simp [r1]; exact hi)]; rfl
 have hout:∀i,ops.size<=i->fs.getD i ⟨none,[],st'.objs.length,st'.objs.length,[]⟩=⟨none,[],st'.objs.length,st'.objs.length,[]⟩:=fun i hi=>by
  rw [List.getD_eq_getElem?_getD,dN (by simp [r1]; exact hi)]; rfl
 have hrunA:=r5 (fun i=>fs.getD i ⟨none,[],st'.objs.length,st'.objs.length,[]⟩) 0 (fun j hj=>by simpa using hdef j (by simpa using hj))
 simp only [Region.lexB,aE] at hB
 have hA:=Qjs (P:=P) (ops:=ops) (Ft:=fun i=>fs.getD i ⟨none,[],st'.objs.length,st'.objs.length,[]⟩) (Q:=fun s σ=>s=lk st'.slots/\σ=sto st'.objs) (fun i j oj hij hj hno=>?_) ops.toList 0 (Array.replicate ops.size false) (lk st.slots) (sto st.objs) (fun k ok hk hl=>by simp [Array.getD] at hl) (by simp) (fun _ _=>eE _) (by simpa using hB.2) hrunA
 ·have hsz:ops.toList.length=ops.size:=by simp
  rw [hsz] at hA
  refine Qld (B:=B) (W0:=W0) (D:=dl++D0) (nt:=st.nt) (lo:=st.objs.length) (hi:=st'.objs.length) (fun i o d hi hd=>r4 i o d (by simpa using hi) hd) hbig (fun i=>?_) (fun i j hij=>?_) ops.size _ _ _ M ι a _ hA hs.rel hs.slots hs.nt (fun i _ k hk=>?_) ?_
  ·rcases bB i ops.size with hi | hi
   ·exact r2.at i _ (hdef i hi)
   ·rw [hout i hi]; exact ⟨r2.le,bA _,bA _⟩
  ·rcases bB i ops.size with hi | hi
   ·rcases bB j ops.size with hj | hj
    ·rcases Nat.lt_or_gt_of_ne hij with e | e
     ·exact .inl (r2.lt i j _ _ e (hdef i hi) (hdef j hj))
     ·exact .inr (r2.lt j i _ _ e (hdef j hj) (hdef i hi))
    ·left; rw [hout j hj]; exact (r2.at i _ (hdef i hi)).2.2
   ·rcases bB j ops.size with hj | hj
    ·right; rw [hout i hi]; exact (r2.at j _ (hdef j hj)).2.2
    ·left; rw [hout i hi,hout j hj]; exact bA _
  ·have hup:(fs.getD i ⟨none,[],st'.objs.length,st'.objs.length,[]⟩).fr'<=st'.objs.length:=by
    rcases bB i ops.size with hi | hi
    ·exact (r2.at i _ (hdef i hi)).2.2
    ·rw [hout i hi]; exact bA _
   have hlo:st.objs.length<=(fs.getD i ⟨none,[],st'.objs.length,st'.objs.length,[]⟩).fr:=by
    rcases bB i ops.size with hi | hi
    ·exact (r2.at i _ (hdef i hi)).1
    ·rw [hout i hi]; exact r2.le
   exact hs.new k ((hk.mono hlo hup).notB hbig)
  ·intro s' σ' M' ι' a' W' hq g1 g2 g3 g4 g5 g6 g7
   obtain ⟨rfl,rfl⟩:=hq
   exact hp M' ι' a' W' g1 (g2.leB base) ⟨g4,g5,by rw [g6,r3],⟨by rw [g7]; exact hs.df.defs,hs.df.old,hs.df.nd⟩,fun k hk=>by rw [g3 k (fun c=>hk c.inB)]; exact hs.new k (fun c=>hk (c.mono r2.le)),hbig⟩
 ·have hj':j < ops.size:=(aZ.1 hj).1
  exact hcomp i j _ _ oj hij (hdef i (by omega)) (hdef j hj') (by simpa using hj) (by simpa using hno)
def Q6q (P:Program) (rd:Option Nat) (base:Nat) (ops:Array Oper) (j:Nat) (Φ:AOut->Prop):AOut->Prop
 | .go .normal st'=>RW P rd base ops none j st' Φ
 | _=>False
theorem Q30 {id j:Nat} (hm:P.follows .mixedOrders=true) (hc:cutB ops j=true) (h:RW P rd base (ops.extract 0 j) (some []) 0 st (Q6q P rd base ops j Φ)):WP P rd base (.region id ops true) st Φ:=by
 obtain ⟨fs,ss,st',h1,hcv,h2,h3⟩:=h
 obtain ⟨out,h3,h4⟩:=h3
 refine ⟨out,?_,h4⟩
 simp only [cutB,aE] at hc
 obtain ⟨⟨⟨⟨⟨c1,c2⟩,c3⟩,c4⟩,c5⟩,c6⟩:=hc
 have hj:j < ops.size:=Xc c1
 have hlexB:=Qwv c2
 simp only [Qrb,aE] at c2
 have hdown:=Qow (ops:=ops) (j:=j) j [j] (fun b hb=>.inl (by simpa using hb)) c4
 have hup:=Qti (ops:=ops) (j:=j) (ops.size - (j+1)) (j+1) [j] (fun b hb=>.inl (by simpa using hb)) c5
 have hsz:(ops.extract 0 j).size=j:=by simp; omega
 intro B W0 D0 dl M ι a W n Q r hs hr hp
 refine wpIn_region_draw (fun t=>?_)
 have hsch:Region.schedule (P.follows .mixedOrders) ops t=Region.linearise .any ops t:=by
  unfold Region.schedule; rw [aH (by simp [hm])]
 rw [hsch]
 refine wpAnyIn_sound ops.size t _ a _ ?_
 have hA:=Q1d (P:=P) (base:=base) (n:=n) (r:=r) (Q:=fun e a' w'=>e=.normal/\∃M' ι',CM.Grow B M M'/\Inj.leB base ι ι'/\Sim P B W0 D0 dl M' ι' st' a' w') hlexB (by simpa using h1) hcv (by simpa using h2)
  (B:=B) (W0:=W0) (D0:=D0) (dl:=dl) (M:=M) (ι:=ι) (a:=a) ⟨hs.rel.drew,hs.slots,hs.nt,hs.df,hs.new,hs.big⟩ (fun M' ι' a' W' g1 g2 g3=>⟨rfl,M',ι',g1,g2,g3⟩)
 have hpad:Qb4 ops.size (Array.replicate (ops.extract 0 j).size false)=Array.replicate ops.size false:=by
  unfold Qb4
  rw [hsz,Array.size_replicate,Array.replicate_append_replicate,show j+(ops.size - j)=ops.size by omega]
 have hfin:=Q3j (F:=FW r) (n:=n) (P:=P) (ops:=ops) (Q:=Q) (m:=ops.size - j) hj c2.2 c3 (fun i k hi hk hk2=>?_) (fun a' w' hq=>?_) (fun e a' w' he hq=>absurd hq.1 he) (ops.extract 0 j).size (Array.replicate (ops.extract 0 j).size false) _ _ (by simp; omega) (by rw [hpad]; exact fun k ok hk hl=>by simp [Array.getD] at hl) hA
 ·rw [hpad,hsz,show j+(ops.size - j)=ops.size by omega] at hfin
  exact hfin
 ·by_cases e:k=j
  ·subst e; exact hdown i hi
  exact (hdown i hi).trans (hup k (by omega) (by omega))
 obtain ⟨_,M',ι',g1,g2,g3⟩:=hq
 refine Qo6 _ j _ a' w' c6 ?_
 exact h3 B W0 D0 dl M' ι' a' w' n Q r g3 (hr.mono g2) (hp.step g1 g2 (List.suffix_refl _))
end
end Go.Ab
namespace Go.Ab
inductive Fr where
 | seq (y:Code)
 | blk (id:Nat)
 | inl (fn:Func) (ops:Array Oper) (i:Nat) (st:St) (rd:Option Nat) (base:Nat)
 | inN (fn:Func) (ops:Array Oper) (d:Option (List Sk)) (i:Nat) (st:St) (rd:Option Nat) (base:Nat)
 | rng (fn:Func) (st:St) (rd:Option Nat) (base:Nat)
 | yA (l nt:Nat) (body:Code) (ops:Array Oper) (i:Nat) (st:St) (rd:Option Nat) (base:Nat)
 | yB (l:Nat) (ops:Array Oper) (i:Nat) (st:St) (rd:Option Nat) (base:Nat)
 | lp (c:Code)
 | cut (o:Array Oper) (j:Nat)
 | scp (body:Code)
inductive Pos where
 | lw (c:Code)
 | code (c:Code)
 | ops (o:Array Oper) (d:Option (List Sk)) (i:Nat)
 | out (e:Xd)
structure Cf where
 pos:Pos
 fr:List Fr
 st:St
 rd:Option Nat
 base:Nat
def Phi (P:Program) (Ω:AOut->Prop):List Fr->Option Nat -> Nat -> AOut->Prop
 | [],_,_=>Ω
 | .seq y::r,rd,b=>Qsv (fun s=>WP P rd b y s (Phi P Ω r rd b)) (Phi P Ω r rd b)
 | .blk id::r,rd,b=>Qtn id (Phi P Ω r rd b)
 | .inl fn ops i st rd b::r,_,_=>fun out=>∃S,Qit P fn ops i st out=some S/\RW P rd b ops none (i+1) S (Phi P Ω r rd b)
 | .inN fn ops d i st rd b::r,_,_=>fun out=>∃S,Qzq P fn ops i st out=some S/\RW P rd b ops (Qt d (Q2v st S)) (i+1) S (Phi P Ω r rd b)
 | .rng fn st rd b::r,_,_=>fun out0=>∃out,Kt P fn st out0=some out/\Phi P Ω r rd b out
 | .yA l nt body ops i st rd b::r,_,_=>fun outA=>∃SA,Qo4 l nt outA=some SA/\WP P (some l) st.objs.length body SA (fun outB=>∃S,Qly ops i l st outB=some S/\RW P rd b ops none (i+1) S (Phi P Ω r rd b))
 | .yB l ops i st rd b::r,_,_=>fun outB=>∃S,Qly ops i l st outB=some S/\RW P rd b ops none (i+1) S (Phi P Ω r rd b)
 | .lp c::r,rd,b=>Qsv (fun s=>LWP P rd b c s (Phi P Ω r rd b)) (Phi P Ω r rd b)
 | .cut o j::r,rd,b=>Q6q P rd b o j (Phi P Ω r rd b)
 | .scp body::r,rd,b=>Qis P rd b body (Phi P Ω r rd b)
def Gl (P:Program) (Ω:AOut->Prop):Cf->Prop
 | ⟨.code x,fr,st,rd,b⟩=>WP P rd b x st (Phi P Ω fr rd b)
 | ⟨.ops o d i,fr,st,rd,b⟩=>RW P rd b o d i st (Phi P Ω fr rd b)
 | ⟨.out e,fr,st,rd,b⟩=>Phi P Ω fr rd b (.go e st)
 | ⟨.lw x,fr,st,rd,b⟩=>LWP P rd b x st (Phi P Ω fr rd b)
noncomputable def ctl (P:Program):Cf->Option Cf
 | ⟨.code x,fr,st,rd,b⟩=>match x with
  | .seq x y=>some ⟨.code x,.seq y::fr,st,rd,b⟩
  | .block id x=>some ⟨.code x,.blk id::fr,st,rd,b⟩
  | .scope x=>some ⟨.code x,.scp x::fr,st,rd,b⟩
  | .skip=>some ⟨.out .normal,fr,st,rd,b⟩
  | .label _=>some ⟨.out .normal,fr,st,rd,b⟩
  | .region _ o false=>some ⟨.ops o none 0,fr,st,rd,b⟩
  | _=>none
 | ⟨.ops o d i,fr,st,rd,b⟩=>if Nat.beq i o.size then match d with
   | none=>some ⟨.out .normal,fr,st,rd,b⟩
   | some acc=>if Qd9 o.toList acc then some ⟨.out .normal,fr,st,rd,b⟩ else none
  else none
 | ⟨.out e,fr,st,rd,b⟩=>match fr with
  | []=>none
  | .seq y::r=>match e with
   | .normal=>some ⟨.code y,r,st,rd,b⟩
   | e=>some ⟨.out e,r,st,rd,b⟩
  | .blk id::r=>match e with
   | .exit j=>if Nat.beq j id then some ⟨.out .normal,r,st,rd,b⟩ else some ⟨.out (.exit j),r,st,rd,b⟩
   | e=>some ⟨.out e,r,st,rd,b⟩
  | .inl fn ops i st0 rd0 b0::r=>match Qit P fn ops i st0 (.go e st) with
   | some S=>some ⟨.ops ops none (i+1),r,S,rd0,b0⟩
   | none=>none
  | .inN fn ops d i st0 rd0 b0::r=>match Qzq P fn ops i st0 (.go e st) with
   | some S=>some ⟨.ops ops (Qt d (Q2v st0 S)) (i+1),r,S,rd0,b0⟩
   | none=>none
  | .rng fn st0 rd0 b0::r=>match Kt P fn st0 (.go e st) with
   | some (.go e' S)=>some ⟨.out e',r,S,rd0,b0⟩
   | _=>none
  | .yA l nt body ops i st0 rd0 b0::r=>match Qo4 l nt (.go e st) with
   | some S=>some ⟨.code body,.yB l ops i st0 rd0 b0::r,S,some l,st0.objs.length⟩
   | none=>none
  | .yB l ops i st0 rd0 b0::r=>match Qly ops i l st0 (.go e st) with
   | some S=>some ⟨.ops ops none (i+1),r,S,rd0,b0⟩
   | none=>none
  | .lp c::r=>match e with
   | .normal=>some ⟨.lw c,r,st,rd,b⟩
   | e=>some ⟨.out e,r,st,rd,b⟩
  | .cut o j::r=>match e with
   | .normal=>some ⟨.ops o none j,r,st,rd,b⟩
   | _=>none
  | .scp body::r=>match e with
   | .goto l=>match findLabel body l with
    | some rest=>some ⟨.code rest,.scp body::r,st,rd,b⟩
    | none=>some ⟨.out (.goto l),r,st,rd,b⟩
   | e=>some ⟨.out e,r,st,rd,b⟩
 | ⟨.lw _,_,_,_,_⟩=>none
noncomputable def stp (P:Program):Cf->Option Cf
 | ⟨.code x,fr,st,rd,b⟩=>match x with
  | .cond op x y=>match evo (lk st.slots) op with
   | some (.bool v)=>match v with
    | true=>some ⟨.code x,fr,st,rd,b⟩
    | false=>some ⟨.code y,fr,st,rd,b⟩
   | _=>none
  | .region _ o true=>if P.follows .mixedOrders && Qrb o then some ⟨.ops o (some []) 0,fr,st,rd,b⟩ else none
  | .ret=>some ⟨.out .ret,fr,st,rd,b⟩
  | .exit j=>some ⟨.out (.exit j),fr,st,rd,b⟩
  | .goto l=>some ⟨.out (.goto l),fr,st,rd,b⟩
  | _=>none
 | ⟨.ops o d i,fr,st,rd,b⟩=>match Qs6 P false o 1 i st with
  | some S=>some ⟨.ops o (Qt d (Qxw P false o 1 i st)) (i+1),fr,S,rd,b⟩
  | none=>none
 | ⟨.out _,_,_,_,_⟩=>none
 | ⟨.lw _,_,_,_,_⟩=>none
noncomputable def settle (P:Program):Nat -> Cf->Cf
 | 0,c=>c
 | n+1,c=>match ctl P c with
  | some c'=>settle P n c'
  | none=>c
noncomputable def go (P:Program):Nat -> Cf->Option Cf
 | 0,c=>some (settle P 1000 c)
 | n+1,c=>match stp P (settle P 1000 c) with
  | some c'=>go P n c'
  | none=>none
def Cf.bad:Cf:=⟨.out .normal,[],⟨[],[],0⟩,none,0⟩
noncomputable def gg (P:Program) (n:Nat) (c:Cf):Cf:=match go P n c with | some c=>c | none=>.bad
section
variable {P:Program} {Ω:AOut->Prop} {c c':Cf}
theorem Q53 (h:ctl P c=some c') (g:Gl P Ω c'):Gl P Ω c:=by
 obtain ⟨pos,fr,st,rd,b⟩:=c
 cases pos with
 | code x =>
  simp only [ctl] at h
  split at h
  ·cases h; exact Q6b g
  ·cases h; exact Q02 g
  ·cases h; exact Q03 g
  ·cases h; exact wp_skip g
  ·cases h; exact Q1n g
  ·cases h; exact Q5f g
  cases h
 | ops o d i =>
  simp only [ctl] at h
  split at h
  ·rename_i hi
   have hi:=aJ hi
   cases d with
   | none=>cases h; exact Q3p hi g
   | some acc =>
    simp only at h
    split at h
    ·rename_i hc; cases h; exact Q2o (rd:=rd) (base:=b) hi hc g
    cases h
  cases h
 | out e =>
  simp only [ctl] at h
  split at h
  ·cases h
  ·split at h
   ·cases h; exact g
   rename_i hne
   cases h
   cases e with
   | normal=>exact absurd rfl hne
   | exit j=>exact g
   | ret=>exact g
   | goto l=>exact g
  ·split at h
   ·rename_i j
    split at h
    ·rename_i hj
     cases h
     show Phi P Ω _ _ _ (AOut.inBlock _ (.go (.exit j) st))
     simp only [AOut.inBlock,hj,eM]; exact g
    rename_i hj
    cases h
    show Phi P Ω _ _ _ (AOut.inBlock _ (.go (.exit j) st))
    simp only [AOut.inBlock,hj,eK]; exact g
   rename_i hne
   cases h
   cases e with
   | normal=>exact g
   | exit j=>exact absurd rfl (hne j)
   | ret=>exact g
   | goto l=>exact g
  ·split at h
   ·rename_i hS; cases h; exact ⟨_,hS,g⟩
   cases h
  ·split at h
   ·rename_i hS; cases h; exact ⟨_,hS,g⟩
   cases h
  ·split at h
   ·rename_i hS; cases h; exact ⟨_,hS,g⟩
   cases h
  ·split at h
   ·rename_i hS; cases h; exact ⟨_,hS,g⟩
   cases h
  ·split at h
   ·rename_i hS; cases h; exact ⟨_,hS,g⟩
   cases h
  ·split at h
   ·cases h; exact g
   rename_i hne
   cases h
   cases e with
   | normal=>exact absurd rfl hne
   | exit j=>exact g
   | ret=>exact g
   | goto l=>exact g
  ·split at h
   ·cases h; exact g
   cases h
  split at h
  ·split at h
   ·rename_i hf
    cases h
    unfold Gl Phi
    simp only [Qis,hf]
    exact Q0h g
   rename_i hf
   cases h
   unfold Gl Phi
   simp only [Qis,hf]
   exact g
  rename_i hne
  cases h
  cases e with
  | normal=>exact g
  | exit j=>exact g
  | ret=>exact g
  | goto l=>exact absurd rfl (hne l)
 | lw x=>cases h
theorem Q44 (h:stp P c=some c') (g:Gl P Ω c'):Gl P Ω c:=by
 obtain ⟨pos,fr,st,rd,b⟩:=c
 cases pos with
 | code x =>
  simp only [stp] at h
  split at h
  ·split at h
   ·rename_i v he
    cases v with
    | true=>cases h; exact Q1h he g
    | false=>cases h; exact Q1j he g
   cases h
  ·split at h
   ·rename_i hm
    simp only [aE] at hm
    cases h; exact rga hm.1 g hm.2
   cases h
  ·cases h; exact Q5w g
  ·cases h; exact Q4h g
  ·cases h; exact Q3y g
  cases h
 | ops o d i =>
  simp only [stp] at h
  split at h
  ·rename_i S hS; cases h; exact sg false 1 _ hS rfl g
  cases h
 | out e=>cases h
 | lw x=>cases h
theorem Qlk:∀(n:Nat) (c:Cf),Gl P Ω (settle P n c)->Gl P Ω c
 | 0,c,g=>g
 | n+1,c,g=>by
  unfold settle at g
  split at g
  ·rename_i c' hc; exact Q53 hc (Qlk n c' g)
  exact g
theorem Qf3:∀(n:Nat) (c c':Cf),go P n c=some c'->Gl P Ω c'->Gl P Ω c
 | 0,c,c',h,g=>by unfold go at h; cases h; exact Qlk _ _ g
 | n+1,c,c',h,g=>by
  unfold go at h
  split at h
  ·rename_i c1 hc; exact Qlk _ _ (Q44 hc (Qf3 n c1 c' h g))
  cases h
theorem Qf5 {n:Nat} (h:(go P n c).isSome=true) (g:Gl P Ω (gg P n c)):Gl P Ω c:=by
 unfold gg at g
 split at g
 ·rename_i c1 hc; exact Qf3 n c c1 hc g
 rename_i hn; rw [hn] at h; cases h
def Cf.o (c:Cf):Array Oper:=match c.pos with | .ops o _ _=>o | _=>#[]
def Cf.d (c:Cf):Option (List Sk):=match c.pos with | .ops _ d _=>d | _=>none
def Cf.i (c:Cf):Nat := match c.pos with | .ops _ _ i=>i | _=>0
def Cf.isO (c:Cf):Bool:=match c.pos with | .ops _ _ _=>true | _=>false
def Cf.x (c:Cf):Code:=match c.pos with | .code x=>x | _=>.skip
def Cf.isX (c:Cf):Bool:=match c.pos with | .code _=>true | _=>false
def Cf.free (c:Cf):Bool:=match c.pos with | .code _=>true | .ops _ none _=>true | .lw _=>true | _=>false
def Cf.nx (c:Cf) (s:List Sk) (S:St):Cf:=⟨.ops c.o (Qt c.d s) (c.i+1),c.fr,S,c.rd,c.base⟩
def Cf.nx2 (c:Cf) (s s':List Sk) (S:St):Cf:=⟨.ops c.o (Qt (Qt c.d s) s') (c.i+1+1),c.fr,S,c.rd,c.base⟩
def Cf.to (c:Cf) (S:St):Cf:=⟨c.pos,c.fr,S,c.rd,c.base⟩
noncomputable def goO (P:Program) (n:Nat) (c:Cf):Bool:=match go P n c with | some c=>c.isO | none=>false
noncomputable def goX (P:Program) (n:Nat) (c:Cf):Bool:=match go P n c with | some c=>c.isX | none=>false
noncomputable def goF (P:Program) (n:Nat) (c:Cf):Bool:=match go P n c with | some c=>c.free | none=>false
theorem Kg {n:Nat} (h:goO P n c=true) (g:(gg P n c).isO=true->Gl P Ω (gg P n c)):Gl P Ω c:=by
 unfold goO at h
 split at h
 ·rename_i c1 hc; exact Qf5 (by rw [hc]; rfl) (g (by unfold gg; rw [hc]; exact h))
 cases h
theorem Q5m {n:Nat} (h:goX P n c=true) (g:(gg P n c).isX=true->Gl P Ω (gg P n c)):Gl P Ω c:=by
 unfold goX at h
 split at h
 ·rename_i c1 hc; exact Qf5 (by rw [hc]; rfl) (g (by unfold gg; rw [hc]; exact h))
 cases h
theorem Q5b {n:Nat} (h:goF P n c=true) (g:(gg P n c).free=true->Gl P Ω (gg P n c)):Gl P Ω c:=by
 unfold goF at h
 split at h
 ·rename_i c1 hc; exact Qf5 (by rw [hc]; rfl) (g (by unfold gg; rw [hc]; exact h))
 cases h
theorem Kk (h:c.isO=true) (g:RW P c.rd c.base c.o c.d c.i c.st (Phi P Ω c.fr c.rd c.base)):Gl P Ω c:=by
 obtain ⟨pos,fr,st,rd,b⟩:=c
 cases pos with
 | ops o d i=>exact g
 | _=>cases h
theorem Q4f (h:c.isX=true) (g:WP P c.rd c.base c.x c.st (Phi P Ω c.fr c.rd c.base)):Gl P Ω c:=by
 obtain ⟨pos,fr,st,rd,b⟩:=c
 cases pos with
 | code x=>exact g
 | _=>cases h
theorem Q7a {S:St} (h:c.free=true) (hw:Wk P c.base c.st S) (g:Gl P Ω (c.to S)):Gl P Ω c:=by
 obtain ⟨pos,fr,st,rd,b⟩:=c
 cases pos with
 | code x=>exact Q7u hw g
 | ops o d i =>
  cases d with
  | none=>exact Q7m hw g
  | some _=>cases h
 | out _=>cases h
 | lw x=>exact Qi7 hw g
end
def Cf.cutOk (P:Program) (j:Nat) (c:Cf):Bool:=match c.pos with | .code (.region _ o true)=>P.follows .mixedOrders && cutB o j | _=>false
def Cf.cut (j:Nat) (c:Cf):Cf:=match c.pos with | .code (.region _ o true)=>⟨.ops (o.extract 0 j) (some []) 0,.cut o j::c.fr,c.st,c.rd,c.base⟩ | _=>c
noncomputable def goC (P:Program) (n j:Nat) (c:Cf):Bool:=match go P n c with | some c=>c.cutOk P j | none=>false
theorem Q4t {P:Program} {Ω:AOut->Prop} {c:Cf} {n j:Nat} (h:goC P n j c=true) (g:Gl P Ω ((gg P n c).cut j)):Gl P Ω c:=by
 unfold goC at h
 split at h
 ·rename_i c1 hc
  refine Qf5 (n:=n) (by rw [hc]; rfl) ?_
  rw [show gg P n c=c1 by unfold gg; rw [hc]] at g ⊢
  obtain ⟨pos,fr,st,rd,b⟩:=c1
  unfold Cf.cutOk at h
  simp only at h
  split at h
  ·simp only [aE] at h; exact Q30 h.1 h.2 g
  cases h
 cases h
def Hl {R:Type} (P:Program) (Ω:R->AOut->Prop) (c:Cf) (D:Option R):Prop:=∀r,D=some r->Gl P (Ω r) c
section
variable {P:Program} {R:Type} {Ω:R->AOut->Prop} {c:Cf} {D A B:Option R}
theorem hnn:Hl P Ω c none:=fun _ h=>by cases h
theorem hbd {α:Type} {o:Option α} {K:α->Option R} (k:∀a,o=some a->Hl P Ω c (K a)):Hl P Ω c (o.bind K):=fun r h=>Qza h fun a q h=>k a q r h
theorem hct (n j:Nat) (k:Hl P Ω ((gg P n c).cut j) D) (e:goC P n j c=true:=by kernel_rfl):Hl P Ω c D:=fun r h=>Q4t e (k r h)
theorem hop (n:Nat) {S:St} {s:List Sk} (rule:∀Φ:AOut->Prop,RW P (gg P n c).rd (gg P n c).base (gg P n c).o (Qt (gg P n c).d s) ((gg P n c).i+1) S Φ->RW P (gg P n c).rd (gg P n c).base (gg P n c).o (gg P n c).d (gg P n c).i (gg P n c).st Φ)
  (k:Hl P Ω ((gg P n c).nx s S) D) (e:goO P n c=true:=by kernel_rfl):Hl P Ω c D:=fun r h=>Kg e fun hO=>Kk hO (rule _ (k r h))
theorem Q7v (n:Nat) {S:St} {s s':List Sk} (rule:∀Φ:AOut->Prop,RW P (gg P n c).rd (gg P n c).base (gg P n c).o (Qt (Qt (gg P n c).d s) s') ((gg P n c).i+1+1) S Φ->RW P (gg P n c).rd (gg P n c).base (gg P n c).o (gg P n c).d (gg P n c).i (gg P n c).st Φ)
  (k:Hl P Ω ((gg P n c).nx2 s s' S) D) (e:goO P n c=true:=by kernel_rfl):Hl P Ω c D:=fun r h=>Kg e fun hO=>Kk hO (rule _ (k r h))
theorem hoh (n:Nat) {S:St} {s:List Sk} (rule:∀(Φ:AOut->Prop) (r:R),D=some r->(A=some r->RW P (gg P n c).rd (gg P n c).base (gg P n c).o (Qt (gg P n c).d s) ((gg P n c).i+1) S Φ)->RW P (gg P n c).rd (gg P n c).base (gg P n c).o (gg P n c).d (gg P n c).i (gg P n c).st Φ)
  (k:Hl P Ω ((gg P n c).nx s S) A) (e:goO P n c=true:=by kernel_rfl):Hl P Ω c D:=fun r h=>Kg e fun hO=>Kk hO (rule _ r h fun h=>k r h)
theorem hwk (n:Nat) {S:St} (w:Wk P (gg P n c).base (gg P n c).st S) (k:Hl P Ω ((gg P n c).to S) D) (e:goF P n c=true:=by kernel_rfl):Hl P Ω c D:=fun r h=>Q5b e fun hF=>Q7a hF w (k r h)
theorem hbq (n:Nat) (ts:List Nat) {b:Bool} (k:b=true->Hl P Ω ((gg P n c).to (pB ts true (gg P n c).st)) A) (k':b=false->Hl P Ω ((gg P n c).to (pB ts false (gg P n c).st)) B)
  (e:(go P n c).isSome=true:=by kernel_rfl) (hS:(gg P n c).st=pB ts b (gg P n c).st:=by kernel_rfl):Hl P Ω c (if b=true then A else B):=fun r h=>Qf5 e (by
 have ht:gg P n c=(gg P n c).to (pB ts b (gg P n c).st):=by rw [<-hS]; rfl
 rw [ht]
 cases b with
 | true=>exact k rfl r (by simpa using h)
 | false=>exact k' rfl r (by simpa using h))
theorem hbr (n:Nat) (ts:List Nat) {b:Bool} (k:Hl P Ω ((gg P n c).to (pB ts true (gg P n c).st)) A) (k':Hl P Ω ((gg P n c).to (pB ts false (gg P n c).st)) B)
  (e:(go P n c).isSome=true:=by kernel_rfl) (hS:(gg P n c).st=pB ts b (gg P n c).st:=by kernel_rfl):Hl P Ω c (if b=true then A else B):=hbq n ts (fun _=>k) (fun _=>k') e hS
theorem hbt (n:Nat) {b:Bool} (S:Bool->St) (k:b=true->Hl P Ω ((gg P n c).to (S true)) A) (k':b=false->Hl P Ω ((gg P n c).to (S false)) B) (e:(go P n c).isSome=true:=by kernel_rfl) (hS:(gg P n c).st=S b:=by kernel_rfl):Hl P Ω c (if b=true then A else B):=fun r h=>Qf5 e (by
 have ht:gg P n c=(gg P n c).to (S b):=by rw [<-hS]; rfl
 rw [ht]
 cases b with
 | true=>exact k rfl r (by simpa using h)
 | false=>exact k' rfl r (by simpa using h))
theorem hkb (n:Nat) (ts:List Nat) {b b':Bool} (hb:b=b') (k:Hl P Ω ((gg P n c).to (pB ts b' (gg P n c).st)) D) (e:(go P n c).isSome=true:=by kernel_rfl) (hS:(gg P n c).st=pB ts b (gg P n c).st:=by kernel_rfl):Hl P Ω c D:=fun r h=>Qf5 e (by
 have ht:gg P n c=(gg P n c).to (pB ts b (gg P n c).st):=by rw [<-hS]; rfl
 rw [ht,hb]; exact k r h)
theorem hkn (n:Nat) {α:Type} {x y:α} (S:α->St) (hb:x=y) (k:Hl P Ω ((gg P n c).to (S y)) D) (e:(go P n c).isSome=true:=by kernel_rfl) (hS:(gg P n c).st=S x:=by kernel_rfl):Hl P Ω c D:=fun r h=>Qf5 e (by
 have ht:gg P n c=(gg P n c).to (S x):=by rw [<-hS]; rfl
 rw [ht,hb]; exact k r h)
theorem hkl (n:Nat) (ts:List Nat) {x y:Nat} (hb:x=y) (k:Hl P Ω ((gg P n c).to (pL ts y (gg P n c).st)) D) (e:(go P n c).isSome=true:=by kernel_rfl) (hS:(gg P n c).st=pL ts x (gg P n c).st:=by kernel_rfl):Hl P Ω c D:=hkn n (fun x=>pL ts x (gg P n c).st) hb k e hS
theorem ls {α:Type} (l:List α) (i:Nat) (a:α):l.length=(l.set i a).length:=by simp
theorem hqi (n:Nat) {x m:Int} (S:Int->St) (k:x=m->Hl P Ω ((gg P n c).to (S m)) A) (k':x≠m->Hl P Ω (gg P n c) B) (e:(go P n c).isSome=true:=by kernel_rfl) (hS:(gg P n c).st=S x:=by kernel_rfl):Hl P Ω c (if x=m then A else B):=fun r h=>Qf5 e (by
 by_cases hx:x=m
 ·have ht:gg P n c=(gg P n c).to (S x):=by rw [<-hS]; rfl
  rw [ht,hx]; exact k hx r (by simpa [hx] using h)
 exact k' hx r (by simpa [hx] using h))
theorem hqe (n:Nat) {x m:Int} (S:Int->St) (k:Hl P Ω ((gg P n c).to (S m)) A) (e:(go P n c).isSome=true:=by kernel_rfl) (hS:(gg P n c).st=S x:=by kernel_rfl):Hl P Ω c (if x=m then A else none):=hqi n S (fun _=>k) (fun _=>hnn) e hS
structure Wt where
 i:Nat
 n:Nat
 xs:List AV
 ys:List AV
 h:i+n<=xs.length/\(xs.drop i).take n=ys
def F {α:Type} (enc:α->AV) (l:List α):Option Wt:=some ⟨0,l.length,l.map enc,l.map enc,by simp [List.take_of_length_le]⟩
def Fp {α:Type} (enc:α->AV) (l:List α) {a b:Int} (h:0<=a/\a<=b/\b<=l.length):Option Wt:=some ⟨a.toNat,b.toNat - a.toNat,l.map enc,(sub l a b).map enc,by
 refine ⟨by simp; omega,?_⟩
 simp [sub,List.map_take,List.map_drop]⟩
def Qh4 (f:AV->List (Option Wt)->Option (AV × List Nat × List ((Nat × Nat × List AV) × Wt) × List (Option Wt))):List AV->List (Option Wt)->Option (List AV × List Nat × List ((Nat × Nat × List AV) × Wt) × List (Option Wt))
 | [],ws=>some ([],[],[],ws)
 | x::xs,ws=>match f x ws with
  | some (y,a,e,ws1)=>match Qh4 f xs ws1 with
   | some (ys,b,e',ws2)=>some (y::ys,a++b,e++e',ws2)
   | none=>none
  | none=>none
def snW (σ:Sto):Nat -> AV->List (Option Wt)->Option (AV × List Nat × List ((Nat × Nat × List AV) × Wt) × List (Option Wt))
 | 0,_,_=>none
 | d+1,a,ws=>match a with
  | .ref o i n=>match ws with
   | some w::ws=>match σ o with
    | some (.row _ _ true fl _ xs)=>some (.lst fl w.ys,[o],[((i,n,xs),w)],ws)
    | _=>none
   | ws=>match Qo σ (d+1) (.ref o i n) with
    | some (y,ids)=>some (y,ids,[],ws.tail)
    | none=>none
  | .agg cs=>match Qh4 (snW σ d) cs ws with | some (ys,r)=>some (.agg ys,r) | none=>none
  | .tup cs=>match Qh4 (snW σ d) cs ws with | some (ys,r)=>some (.tup ys,r) | none=>none
  | .ptr o i c=>match ws with
   | some w::ws=>match σ o with
    | some (.row _ _ _ _ _ xs)=>match Qh4 (snW σ d) xs (some w::ws) with
     | some (ys,ids,e,ws')=>match ys[i]? with
      | some y=>some (.fz (y.flat.drop c),o::ids,e,ws')
      | none=>none
     | none=>none
    | _=>none
   | ws=>match Qo σ (d+1) (.ptr o i c) with
    | some (y,ids)=>some (y,ids,[],ws)
    | none=>none
  | .fn f a b=>match ws with
   | some w::ws=>match Qh4 (snW σ d) a (some w::ws) with
    | some (x,i,e,ws1)=>match Qh4 (snW σ d) b ws1 with
     | some (y,j,e',ws2)=>some (.fn f x y,i++j,e++e',ws2)
     | none=>none
    | none=>none
   | ws=>match Qo σ (d+1) (.fn f a b) with
    | some (y,ids)=>some (y,ids,[],ws)
    | none=>none
  | a=>match Qo σ (d+1) a with
   | some (y,ids)=>some (y,ids,[],ws)
   | none=>none
def eqW (e:List ((Nat × Nat × List AV) × Wt)):Prop:=e.map (·.1)=e.map fun p=>(p.2.i,p.2.n,p.2.xs)
theorem Qj1 {a b:List ((Nat × Nat × List AV) × Wt)} (h:eqW (a++b)):eqW a/\eqW b:=by
 unfold eqW at h ⊢
 rw [cY,cY] at h
 exact List.append_inj h (by simp)
theorem Qdg {f:AV->List (Option Wt)->Option (AV × List Nat × List ((Nat × Nat × List AV) × Wt) × List (Option Wt))} {g:AV->Option (AV × List Nat)}
  (hf:∀x ws y a e ws',f x ws=some (y,a,e,ws')->eqW e->g x=some (y,a)):∀(xs:List AV) (ws:List (Option Wt)) ys b e ws',Qh4 f xs ws=some (ys,b,e,ws')->eqW e->Qs g xs=some (ys,b)
 | [],ws,ys,b,e,ws',h,he=>by simp only [Qh4,aK,aW] at h; obtain ⟨rfl,rfl,rfl,rfl⟩:=h; rfl
 | x::xs,ws,ys,b,e,ws',h,he=>by
  simp only [Qh4] at h
  split at h
  ·rename_i y a e1 ws1 h1
   split at h
   ·rename_i ys2 b2 e2 ws2 h2
    simp only [aK,aW] at h
    obtain ⟨rfl,rfl,rfl,rfl⟩:=h
    obtain ⟨g1,g2⟩:=Qj1 he
    simp only [Qs,hf _ _ _ _ _ _ h1 g1,Qdg hf xs _ _ _ _ _ h2 g2]
   cases h
  cases h
theorem Qa8 {σ:Sto}:∀(d:Nat) (x:AV) (ws:List (Option Wt)) y a e ws',snW σ d x ws=some (y,a,e,ws')->eqW e->Qo σ d x=some (y,a)
 | 0,x,ws,y,a,e,ws',h,he=>by cases h
 | d+1,x,ws,y,a,e,ws',h,he=>by
  unfold snW at h
  split at h
  ·rename_i o i n
   split at h
   ·rename_i w ws0
    split at h
    ·rename_i xs hσ
     simp only [aK,aW] at h
     obtain ⟨rfl,rfl,rfl,rfl⟩:=h
     simp only [eqW,dG,dH,List.cons.injEq,aW,and_true] at he
     obtain ⟨e1,e2,e3⟩:=he
     subst e1 e2 e3
     simp [Qo,hσ,w.h.1,w.h.2]
    cases h
   split at h
   ·rename_i hs
    simp only [aK,aW] at h
    obtain ⟨rfl,rfl,rfl,rfl⟩:=h; exact hs
   cases h
  ·split at h
   ·rename_i ys r hm
    simp only [aK,aW] at h
    obtain ⟨rfl,rfl⟩:=h
    have:=Qdg (Qa8 d) _ _ _ _ _ _ hm he
    simp only [Qo,this]
   cases h
  ·split at h
   ·rename_i ys r hm
    simp only [aK,aW] at h
    obtain ⟨rfl,rfl⟩:=h
    have:=Qdg (Qa8 d) _ _ _ _ _ _ hm he
    simp only [Qo,this]
   cases h
  ·split at h
   ·split at h
    ·rename_i hσ
     split at h
     ·rename_i hm
      split at h
      ·rename_i y hy
       simp only [aK,aW] at h
       obtain ⟨rfl,rfl,rfl,rfl⟩:=h
       have:=Qdg (Qa8 d) _ _ _ _ _ _ hm he
       simp only [Qo,hσ,this,hy]
      cases h
     cases h
    cases h
   split at h
   ·rename_i hs
    simp only [aK,aW] at h
    obtain ⟨rfl,rfl,rfl,rfl⟩:=h; exact hs
   cases h
  ·split at h
   ·split at h
    ·rename_i hm
     split at h
     ·rename_i hm2
      simp only [aK,aW] at h
      obtain ⟨rfl,rfl,rfl,rfl⟩:=h
      obtain ⟨g1,g2⟩:=Qj1 he
      have h1:=Qdg (Qa8 d) _ _ _ _ _ _ hm g1
      have h2:=Qdg (Qa8 d) _ _ _ _ _ _ hm2 g2
      simp only [Qo,h1,h2]
     cases h
    cases h
   split at h
   ·rename_i hs
    simp only [aK,aW] at h
    obtain ⟨rfl,rfl,rfl,rfl⟩:=h; exact hs
   cases h
  split at h
  ·rename_i hs
   simp only [aK,aW] at h
   obtain ⟨rfl,rfl,rfl,rfl⟩:=h; exact hs
  cases h
noncomputable def Cf.sn (c:Cf) (ws:List (Option Wt)):Option (List AV × List Nat × List ((Nat × Nat × List AV) × Wt) × List (Option Wt)):=match Zv c.o c.i c.st with
 | some (_,as0)=>Qh4 (snW c.st.sto Qk) as0 ws
 | none=>none
noncomputable def Cf.ids (c:Cf) (ws:List (Option Wt)):List Nat := match c.sn ws with | some x=>x.2.1 | none=>[]
noncomputable def Cf.eqs (c:Cf) (ws:List (Option Wt)):List ((Nat × Nat × List AV) × Wt):=match c.sn ws with | some x=>x.2.2.1 | none=>[]
noncomputable def Cf.us (c:Cf) (ws:List (Option Wt)):Option (List AV):=(c.sn ws).map (·.1)
noncomputable def Cf.cl (c:Cf) (ws:List (Option Wt)) (r:AV) (objs:List AObj):Cf:=c.nx [Qjd c.st (c.ids ws) r objs] (gt0 (Qdy c.o c.i c.st (c.ids ws) r objs))
theorem hcl (n:Nat) (ws:List (Option Wt)) {α:Type} {G:Option α} {K:α->Option R} {f:FuncId} {us:List AV} {rv:α->AV} {ro:α->List AObj} (C:∀x,G=some x->Q3 P f us (.ret (rv x) (ro x)))
  (k:∀x,G=some x->Hl P Ω ((gg P n c).cl ws (rv x) (ro x)) (K x)) (e:goO P n c=true:=by kernel_rfl) (hb:Qhy P f=true:=by kernel_rfl)
  (hi:(Zv (gg P n c).o (gg P n c).i (gg P n c).st).map (·.1)=some f:=by kernel_rfl) (hu:(gg P n c).us ws=some us:=by kernel_rfl) (hw:((gg P n c).eqs ws).map (·.1)=((gg P n c).eqs ws).map (fun p=>(p.2.i,p.2.n,p.2.xs)):=by kernel_rfl)
  (hS:∀x,(Qdy (gg P n c).o (gg P n c).i (gg P n c).st ((gg P n c).ids ws) (rv x) (ro x)).isSome=true:=by (intro _; kernel_rfl)):Hl P Ω c (G.bind K):=fun r h=>Kg e fun hO=>Kk hO (by
 generalize gg P n c=c' at *
 have hsn:∃as0,Zv c'.o c'.i c'.st=some (f,as0)/\Qs (Qo c'.st.sto Qk) as0=some (us,c'.ids ws):=by
  cases hc:Zv c'.o c'.i c'.st with
  | none=>rw [hc] at hi; cases hi
  | some y =>
   obtain ⟨g,as0⟩:=y
   rw [hc] at hi
   simp only [bM,aK] at hi
   subst hi
   refine ⟨as0,rfl,?_⟩
   unfold Cf.us at hu
   unfold Cf.ids; unfold Cf.eqs at hw
   cases hs:c'.sn ws with
   | none=>rw [hs] at hu; cases hu
   | some z =>
    obtain ⟨ys,ids,es,ws'⟩:=z
    rw [hs] at hu hw
    simp only [bM,aK] at hu
    subst hu
    unfold Cf.sn at hs
    rw [hc] at hs
    exact Qdg (Qa8 Qk) _ _ _ _ _ _ hs hw
 obtain ⟨as0,h1,h2⟩:=hsn
 exact Qyl h1 hb h2 C (fun x=>gE (hS x)) h fun x q h=>k x q r h)
theorem hcn (n:Nat) (ws:List (Option Wt)) {α:Type} {G:Option (List α)} {B:α->List α->Option R} {f:FuncId} {us:List AV} {fl:Bool} {enc:α->AV} (C:∀x,G=some x->Q3 P f us (.ret (nlE fl enc x) []))
  (k:Hl P Ω ((gg P n c).cl ws .nils []) A) (k':∀a t,Hl P Ω ((gg P n c).cl ws (.lst fl ((a::t).map enc)) []) (B a t)) (e:goO P n c=true:=by kernel_rfl) (hb:Qhy P f=true:=by kernel_rfl)
  (hi:(Zv (gg P n c).o (gg P n c).i (gg P n c).st).map (·.1)=some f:=by kernel_rfl) (hu:(gg P n c).us ws=some us:=by kernel_rfl) (hw:((gg P n c).eqs ws).map (·.1)=((gg P n c).eqs ws).map (fun p=>(p.2.i,p.2.n,p.2.xs)):=by kernel_rfl)
  (h0:(Qdy (gg P n c).o (gg P n c).i (gg P n c).st ((gg P n c).ids ws) .nils []).isSome=true:=by kernel_rfl)
  (h1:∀a t,(Qdy (gg P n c).o (gg P n c).i (gg P n c).st ((gg P n c).ids ws) (.lst fl ((a::t).map enc)) []).isSome=true:=by (intro _ _; kernel_rfl)):Hl P Ω c (G.bind fun x=>Q2t x A B):=fun r h=>Kg e fun hO=>Kk hO (by
 generalize gg P n c=c' at *
 have hsn:∃as0,Zv c'.o c'.i c'.st=some (f,as0)/\Qs (Qo c'.st.sto Qk) as0=some (us,c'.ids ws):=by
  cases hc:Zv c'.o c'.i c'.st with
  | none=>rw [hc] at hi; cases hi
  | some y =>
   obtain ⟨g,as0⟩:=y
   rw [hc] at hi
   simp only [bM,aK] at hi
   subst hi
   refine ⟨as0,rfl,?_⟩
   unfold Cf.us at hu
   unfold Cf.ids; unfold Cf.eqs at hw
   cases hs:c'.sn ws with
   | none=>rw [hs] at hu; cases hu
   | some z =>
    obtain ⟨ys,ids,es,ws'⟩:=z
    rw [hs] at hu hw
    simp only [bM,aK] at hu
    subst hu
    unfold Cf.sn at hs
    rw [hc] at hs
    exact Qdg (Qa8 Qk) _ _ _ _ _ _ hs hw
 obtain ⟨as0,g1,g2⟩:=hsn
 exact Q5s g1 hb g2 C (gE h0) (fun a t=>gE (h1 a t)) h (fun h=>k r h) fun a t h=>k' a t r h)
theorem hoa (n:Nat) {α:Type} {G:Option α} {K:α->Option R} {S:α->St} {s:α->List Sk}
  (rule:∀(Φ:AOut->Prop) (r:R),G.bind K=some r->(∀x,G=some x->K x=some r->RW P (gg P n c).rd (gg P n c).base (gg P n c).o (Qt (gg P n c).d (s x)) ((gg P n c).i+1) (S x) Φ)->RW P (gg P n c).rd (gg P n c).base (gg P n c).o (gg P n c).d (gg P n c).i (gg P n c).st Φ)
  (k:∀x,G=some x->Hl P Ω ((gg P n c).nx (s x) (S x)) (K x)) (e:goO P n c=true:=by kernel_rfl):Hl P Ω c (G.bind K):=fun r h=>Kg e fun hO=>Kk hO (rule _ r h fun x q h=>k x q r h)
theorem hob (n:Nat) {α:Type} {G:Option α} {K:α->Option R} {S:α->St} {s:α->List Sk}
  (rule:∀(Φ:AOut->Prop) (r:R),G.bind K=some r->(∀x,K x=some r->RW P (gg P n c).rd (gg P n c).base (gg P n c).o (Qt (gg P n c).d (s x)) ((gg P n c).i+1) (S x) Φ)->RW P (gg P n c).rd (gg P n c).base (gg P n c).o (gg P n c).d (gg P n c).i (gg P n c).st Φ)
  (k:∀x,Hl P Ω ((gg P n c).nx (s x) (S x)) (K x)) (e:goO P n c=true:=by kernel_rfl):Hl P Ω c (G.bind K):=fun r h=>Kg e fun hO=>Kk hO (rule _ r h fun x h=>k x r h)
theorem hoq (n:Nat) {C:Prop} {S:St} {s:List Sk} (rule:∀(Φ:AOut->Prop) (r:R),D=some r->(C->A=some r->RW P (gg P n c).rd (gg P n c).base (gg P n c).o (Qt (gg P n c).d s) ((gg P n c).i+1) S Φ)->RW P (gg P n c).rd (gg P n c).base (gg P n c).o (gg P n c).d (gg P n c).i (gg P n c).st Φ)
  (k:C->Hl P Ω ((gg P n c).nx s S) A) (e:goO P n c=true:=by kernel_rfl):Hl P Ω c D:=fun r h=>Kg e fun hO=>Kk hO (rule _ r h fun q h=>k q r h)
def RdI {σ ρ:Type} (P:Program) (base:Nat) (I:σ->St) (E:ρ->Xd × St) (o:Qe σ ρ):AOut->Prop:=Qg0 P base I (fun v out=>out=.go (E v).1 (E v).2) o
def Cf.lb (c:Cf):Code:=match c.x with | .loop x=>x | _=>.skip
noncomputable def goL (P:Program) (n:Nat) (c:Cf):Bool:=match go P n c with | some c=>(match c.pos with | .code (.loop _)=>true | _=>false) | none=>false
def Cf.at' (c:Cf) (x:Code) (S:St):Cf:=⟨.code x,[],S,c.rd,c.base⟩
def Cf.ex (c:Cf) (y:Xd × St):Cf:=⟨.out y.1,c.fr,y.2,c.rd,c.base⟩
theorem Qzg {n:Nat} (h:goL P n c=true) {Ψ:AOut->Prop} (g:WP P (gg P n c).rd (gg P n c).base (.loop (gg P n c).lb) (gg P n c).st (Phi P Ψ (gg P n c).fr (gg P n c).rd (gg P n c).base)):Gl P Ψ c:=by
 unfold goL at h
 split at h
 ·rename_i c1 hc
  have hg:gg P n c=c1:=by unfold gg; rw [hc]
  rw [hg] at g
  refine Qf3 n c c1 hc ?_
  obtain ⟨pos,fr,st,rd,b⟩:=c1
  cases pos with
  | code x=>cases x <;> first | exact g | cases h
  | _=>cases h
 cases h
theorem hlp (n:Nat) {σ ρ:Type} {N:Nat} {body:σ->Option (Qe σ ρ)} {K:ρ->Option R} {s0:σ} (I:σ->St) (E:ρ->Xd × St) (w:Wk P (gg P n c).base (gg P n c).st (I s0))
  (b:∀s,Hl P (RdI P (gg P n c).base I E) ((gg P n c).at' (gg P n c).lb (I s)) (body s)) (k:∀x,Hl P Ω ((gg P n c).ex (E x)) (K x)) (e:goL P n c=true:=by kernel_rfl):Hl P Ω c ((Qb N body s0).bind K):=fun r h =>
 Qzg e (Q0w s0 w h (fun s o ho=>b s o ho) fun x hx out ho=>by subst ho; exact k x r hx)
theorem hsm {α β:Type} {D:α ⊕ β->Option R} {C:α ⊕ β->Cf} (k:∀x,Hl P Ω (C (.inl x)) (D (.inl x))) (k':∀x,Hl P Ω (C (.inr x)) (D (.inr x))):∀x,Hl P Ω (C x) (D x)
 | .inl x=>k x
 | .inr x=>k' x
theorem wkv {base:Nat} {st:St} {α:Type} {x y:α} (S:α->St) (hb:x=y) (hS:st=S x:=by kernel_rfl):Wk P base st (S y):=by rw [hS,hb]; exact Qwo
theorem wz {base:Nat} {st S:St} (keep:List Nat) (h:Qfo base (S.slots.map (·.1)) keep st=some S:=by kernel_rfl):Wk P base st S:=wk_gc h
theorem wl {base:Nat} {st:St} (live keep:List Nat) (h:(Qfo base live keep st).isSome=true:=by kernel_rfl):Wk P base st (gt0 (Qfo base live keep st)):=wk_gc (gE h)
noncomputable def goN (P:Program) (n:Nat) (c:Cf):Bool:=match go P n c with | some ⟨.out .normal,[],_,_,_⟩=>true | _=>false
noncomputable def goE (P:Program) (n:Nat) (c:Cf):Option AOut:=match go P n c with | some ⟨.out e,[],st,_,_⟩=>some (.go e st) | _=>none
theorem hnx (n:Nat) {σ ρ:Type} {b0:Nat} {I:σ->St} {E:ρ->Xd × St} {s':σ} (w:Wk P b0 (gg P n c).st (I s')) (e:goN P n c=true:=by kernel_rfl):Hl P (RdI P b0 I E) c (some (.next s')):=fun r h=>by
 cases h
 unfold goN at e
 split at e
 ·rename_i st rd b hc
  refine Qf3 n c _ hc ⟨_,rfl,?_⟩
  have:(gg P n c).st=st:=by unfold gg; rw [hc]
  rw [<-this]; exact w
 cases e
theorem hdn (n:Nat) {σ ρ:Type} {b0:Nat} {I:σ->St} {E:ρ->Xd × St} {v:ρ} (e:goE P n c=some (.go (E v).1 (E v).2):=by kernel_rfl) (hn:(AOut.go (E v).1 (E v).2).normal=false:=by kernel_rfl):Hl P (RdI P b0 I E) c (some (.done v)):=fun r h=>by
 cases h
 unfold goE at e
 split at e
 ·rename_i ex st rd b hc
  cases e
  exact Qf3 n c _ hc ⟨rfl,hn⟩
 cases e
theorem hdx (n:Nat) {σ ρ:Type} {b0:Nat} {I:σ->St} {E:ρ->Xd × St} {v:ρ} (w:Wk P (gg P n c).base (gg P n c).st (E v).2) (f:goF P n c=true:=by kernel_rfl) (e:goE P 1 ((gg P n c).to (E v).2)=some (.go (E v).1 (E v).2):=by kernel_rfl)
  (hn:(AOut.go (E v).1 (E v).2).normal=false:=by kernel_rfl):Hl P (RdI P b0 I E) c (some (.done v)):=hwk n w (hdn 1 e hn) f
theorem hrt (n:Nat) {fn:Func} {hss:List (List LK)} {rv:R->AV} {ro:R->List AObj} {v:R} (e:(goE P n c).bind (Qab P fn hss)=some (rv v,ro v):=by kernel_rfl):Hl P (fun x out=>Qab P fn hss out=some (rv x,ro x)) c (some v):=fun r h=>by
 cases h
 unfold goE at e
 split at e
 ·rename_i ex st rd b hc
  exact Qf3 n c _ hc e
 cases e
def Ct {R:Type} (P:Program) (f:FuncId) (args:List AV) (D:Option R) (rv:R->AV) (ro:R->List AObj):Prop:=∀x,D=some x->Q3 P f args (.ret (rv x) (ro x))
def Func.cd (fn:Func):Code:=fn.body.getD .skip
theorem hfn (hss:List (List LK)) {f:FuncId} {fn:Func} {args:List AV} (hf:P.funcs[f]?=some fn) {rv:R->AV} {ro:R->List AObj}
  (k:Hl P (fun x out=>Qab P fn hss out=some (rv x,ro x)) ⟨.code (Func.cd fn),[],st0 fn.ntmps args,none,0⟩ D) (hb:fn.body.isSome=true:=by kernel_rfl) (hn:(fn.name == "runtime.NumGoroutine")=false:=by decide +kernel) (hle:Nat.ble args.length fn.ntmps=true:=by kernel_rfl):Ct P f args D rv ro:=fun x h=>by
 cases hc:fn.body with
 | none=>rw [hc] at hb; cases hb
 | some cd=>have:=k x h; simp only [Func.cd,hc] at this; exact Q7o hss hf hc hn hle this
noncomputable def Cf.as (c:Cf):List AV:=match Zv c.o c.i c.st with | some (_,zs)=>zs | none=>[]
noncomputable def Cf.fid (c:Cf):Option FuncId:=(Zv c.o c.i c.st).map (·.1)
noncomputable def Cf.il (c:Cf) (fn:Func):Cf:=⟨.code (Func.cd fn),.inl fn c.o c.i c.st c.rd c.base::c.fr,⟨V7 0 c.as,c.st.objs,fn.ntmps⟩,none,c.st.objs.length⟩
theorem Qpw {f:FuncId} (h:c.fid=some f):Zv c.o c.i c.st=some (f,c.as):=by
 unfold Cf.fid at h
 unfold Cf.as
 cases hc:Zv c.o c.i c.st with
 | none=>rw [hc] at h; cases h
 | some y=>rw [hc] at h; simp only [bM,aK] at h; subst h; rfl
theorem Qpd {fn:Func} (h:fn.body.isSome=true):fn.body=some (Func.cd fn):=by
 unfold Func.cd
 cases hc:fn.body with
 | none=>rw [hc] at h; cases h
 | some x=>rfl
theorem hil (n:Nat) {f:FuncId} {fn:Func} (hf:P.funcs[f]?=some fn) (k:Hl P Ω ((gg P n c).il fn) D) (e:goO P n c=true:=by kernel_rfl) (hi:(gg P n c).fid=some f:=by kernel_rfl) (hd:(gg P n c).d=none:=by kernel_rfl)
  (hb:fn.body.isSome=true:=by kernel_rfl) (hn:(fn.name == "runtime.NumGoroutine")=false:=by decide +kernel) (hle:Nat.ble (gg P n c).as.length fn.ntmps=true:=by kernel_rfl):Hl P Ω c D:=fun r h=>Kg e fun hO=>Kk hO (by
 rw [hd]; exact Q55 (Qpw hi) hf (Qpd hb) hn hle (k r h))
noncomputable def Cf.rg (c:Cf):Option (FuncId × List AV × List AV × List Tmp × Code × Code):=match c.x with
 | .rangeFunc g ps a b=>match evo (lk c.st.slots) g with
  | some (.fn (.func f) first caps)=>some (f,first,caps,ps.toList,a,b)
  | _=>none
 | _=>none
noncomputable def Cf.rS (c:Cf) (fn:Func):Cf:=match c.rg with
 | some (_,first,caps,ps,a,b)=>⟨.code (Func.cd fn),.rng fn c.st c.rd c.base::c.fr,Qm5 c.st ps a b first caps fn.ntmps,none,c.st.objs.length+1⟩
 | none=>.bad
noncomputable def Cf.rL (c:Cf):Nat := match c.rg with
 | some (_,first,caps,_)=>(first++[AV.yld c.st.objs.length]++caps).length
 | none=>0
theorem hrg (n:Nat) {f:FuncId} {fn:Func} (hf:P.funcs[f]?=some fn) (k:Hl P Ω ((gg P n c).rS fn) D) (e:goX P n c=true:=by kernel_rfl) (hi:(gg P n c).rg.map (·.1)=some f:=by kernel_rfl)
  (hb:fn.body.isSome=true:=by kernel_rfl) (hn:(fn.name == "runtime.NumGoroutine")=false:=by decide +kernel) (hle:Nat.ble (gg P n c).rL fn.ntmps=true:=by kernel_rfl) (hr:Q04 (gg P n c).rd (gg P n c).st.objs=true:=by kernel_rfl):Hl P Ω c D:=fun r h=>Q5m e fun hX=>Q4f hX (by
 have k:=k r h
 generalize gg P n c=c' at *
 cases hc:c'.rg with
 | none=>rw [hc] at hi; cases hi
 | some y =>
  obtain ⟨g,first,caps,ps,a,b⟩:=y
  rw [hc] at hi
  simp only [bM,aK] at hi
  subst hi
  unfold Cf.rL at hle
  unfold Cf.rS at k
  rw [hc] at hle k
  unfold Cf.rg at hc
  split at hc
  ·rename_i g' ps' a' b' hx
   split at hc
   ·rename_i he
    cases hc
    rw [hx]
    exact Q1w he hf (Qpd hb) hn hle hr k
   cases hc
  cases hc)
noncomputable def Cf.yi (c:Cf):Option (Nat × Nat × List AV × List (Nat × AV) × List Tmp × Code × Code):=match Qqp c.o c.i c.st with
 | some (l,us)=>match c.st.objs[l]? with
  | some (.loop nt sl ps a b .ready _)=>some (l,nt,us,sl,ps,a,b)
  | _=>none
 | none=>none
noncomputable def Cf.yS (c:Cf):Cf:=match c.yi with
 | some (l,nt,us,sl,ps,a,b)=>⟨.code a,.yA l nt b c.o c.i c.st c.rd c.base::c.fr,⟨Qm3 sl ps us,c.st.objs,nt⟩,some l,c.st.objs.length⟩
 | none=>.bad
noncomputable def Cf.yb (c:Cf):Bool:=match c.yi with
 | some (l,nt,us,sl,ps,a,b)=>Nat.beq us.length ps.length && ps.all fun t=>Nat.blt t nt
 | none=>false
theorem hyl (n:Nat) (k:Hl P Ω (gg P n c).yS D) (e:goO P n c=true:=by kernel_rfl) (hd:(gg P n c).d=none:=by kernel_rfl) (hy:(gg P n c).yb=true:=by kernel_rfl):Hl P Ω c D:=fun r h=>Kg e fun hO=>Kk hO (by
 have k:=k r h
 generalize gg P n c=c' at *
 rw [hd]
 cases hc:c'.yi with
 | none=>unfold Cf.yb at hy; rw [hc] at hy; cases hy
 | some y =>
  obtain ⟨l,nt,us,sl,ps,a,b⟩:=y
  unfold Cf.yb at hy
  unfold Cf.yS at k
  rw [hc] at hy k
  unfold Cf.yi at hc
  split at hc
  ·rename_i hi
   split at hc
   ·rename_i hl
    cases hc
    exact Q70 hi hl hy k
   cases hc
  cases hc)
noncomputable def Qkh (t:Nat) (ws:List (Option Wt)) (st:St):Option (Option St × List ((Nat × Nat × List AV) × Wt)):=match lk st.slots t with
 | some x=>match snW st.sto Qk x ws with
  | some (y,ids,es,_)=>some (Qn0 t y ids st,es)
  | none=>none
 | none=>none
noncomputable def Qjt (o i:Nat) (ws:List (Option Wt)) (st:St):Option (Option St × List ((Nat × Nat × List AV) × Wt)):=match st.sto o with
 | some (.row _ _ _ _ _ xs)=>match xs[i]? with
  | some x=>match snW st.sto Qk x ws with
   | some (y,ids,es,_)=>if Qcv ids o then none else some (Qjh o i y ids st,es)
   | none=>none
  | none=>none
 | _=>none
noncomputable def sn1 (x:Option (Option St × List ((Nat × Nat × List AV) × Wt))):Option St:=match x with | some (s,_)=>s | none=>none
noncomputable def sn2 (x:Option (Option St × List ((Nat × Nat × List AV) × Wt))):List ((Nat × Nat × List AV) × Wt):=match x with | some (_,e)=>e | none=>[]
theorem wsk {base:Nat} {st S:St} (t:Nat) (ws:List (Option Wt)) (h:sn1 (Qkh t ws st)=some S:=by kernel_rfl) (he:(sn2 (Qkh t ws st)).map (·.1)=(sn2 (Qkh t ws st)).map (fun p=>(p.2.i,p.2.n,p.2.xs)):=by kernel_rfl):Wk P base st S:=by
 cases hs:Qkh t ws st with
 | none=>rw [hs] at h; cases h
 | some z =>
  obtain ⟨s,es⟩:=z
  rw [hs] at h he
  unfold Qkh at hs
  split at hs
  ·rename_i x hx
   split at hs
   ·rename_i y ids es' ws' hsn
    cases hs
    exact Q3q t hx (Qa8 Qk _ _ _ _ _ _ hsn he) h
   cases hs
  cases hs
theorem wsn {base:Nat} {st:St} (t:Nat) (ws:List (Option Wt)) (h:(sn1 (Qkh t ws st)).isSome=true:=by kernel_rfl) (he:(sn2 (Qkh t ws st)).map (·.1)=(sn2 (Qkh t ws st)).map (fun p=>(p.2.i,p.2.n,p.2.xs)):=by kernel_rfl):Wk P base st (gt0 (sn1 (Qkh t ws st))):=wsk t ws (gE h) he
theorem wok {base:Nat} {st S:St} (o i:Nat) (ws:List (Option Wt)) (h:sn1 (Qjt o i ws st)=some S:=by kernel_rfl) (he:(sn2 (Qjt o i ws st)).map (·.1)=(sn2 (Qjt o i ws st)).map (fun p=>(p.2.i,p.2.n,p.2.xs)):=by kernel_rfl):Wk P base st S:=by
 cases hs:Qjt o i ws st with
 | none=>rw [hs] at h; cases h
 | some z =>
  obtain ⟨s,es⟩:=z
  rw [hs] at h he
  unfold Qjt at hs
  split at hs
  ·rename_i ho
   split at hs
   ·rename_i x hx
    split at hs
    ·rename_i y ids es' ws' hsn
     split at hs
     ·cases hs
     rename_i hn
     cases hs
     exact Qtv o i ho hx (by simpa using hn) (Qa8 Qk _ _ _ _ _ _ hsn he) h
    cases hs
   cases hs
  cases hs
theorem won {base:Nat} {st:St} (o i:Nat) (ws:List (Option Wt)) (h:(sn1 (Qjt o i ws st)).isSome=true:=by kernel_rfl) (he:(sn2 (Qjt o i ws st)).map (·.1)=(sn2 (Qjt o i ws st)).map (fun p=>(p.2.i,p.2.n,p.2.xs)):=by kernel_rfl):Wk P base st (gt0 (sn1 (Qjt o i ws st))):=wok o i ws (gE h) he
noncomputable def Qn6 (o i:Nat) (A:AV) (ws:List (Option Wt)) (st:St):Option (Option St × List ((Nat × Nat × List AV) × Wt)):=match snW st.sto Qk A ws with
 | some (y,ids,es,_)=>if Qcv ids o then none else some (Qjh o i y ids st,es)
 | none=>none
theorem wcl {base:Nat} {st:St} (o:Nat) (ws:List (Option Wt)) {α:Type} {enc:α->AV} {L:List α} {n:Int} {a:α} {A:AV} {bx ro nr fl:Bool} {w:Nat} (ha:lkI L n=some a) (ho:st.sto o=some (.row bx ro nr fl w (hole enc L n A)):=by kernel_rfl)
  (h:(sn1 (Qn6 o n.toNat A ws st)).isSome=true:=by kernel_rfl) (he:(sn2 (Qn6 o n.toNat A ws st)).map (·.1)=(sn2 (Qn6 o n.toNat A ws st)).map (fun p=>(p.2.i,p.2.n,p.2.xs)):=by kernel_rfl):Wk P base st (gt0 (sn1 (Qn6 o n.toNat A ws st))):=by
 have h:=gE h
 revert h he
 generalize gt0 (sn1 (Qn6 o n.toNat A ws st))=S
 cases hs:Qn6 o n.toNat A ws st with
 | none=>intro _ h; cases h
 | some z =>
  obtain ⟨s,es⟩:=z
  intro he h
  unfold Qn6 at hs
  split at hs
  ·rename_i y ids es' ws' hsn
   split at hs
   ·cases hs
   rename_i hn
   cases hs
   exact Q1p o ha ho (by simpa using hn) (Qa8 Qk _ _ _ _ _ _ hsn he) h
  cases hs
def snP (σ:Sto):List (Nat × AV)->List (Option Wt)->Option (List (Nat × AV) × List Nat × List ((Nat × Nat × List AV) × Wt))
 | [],_=>some ([],[],[])
 | (i,x)::r,ws=>if x.nr then match snP σ r ws with
   | some (ys,b,e)=>some ((i,x)::ys,b,e)
   | none=>none
  else match snW σ Qk x ws with
   | some (y,a,e,ws)=>match snP σ r ws with
    | some (ys,b,e')=>some ((i,y)::ys,a++b,e++e')
    | none=>none
   | none=>none
theorem Qtu {σ:Sto}:∀(ps:List (Nat × AV)) (ws:List (Option Wt)) ys b e,snP σ ps ws=some (ys,b,e)->eqW e->Zz σ ps=some (ys,b)
 | [],ws,ys,b,e,h,he=>by cases h; rfl
 | (i,x)::r,ws,ys,b,e,h,he=>by
  unfold snP at h
  split at h
  ·rename_i hx
   split at h
   ·rename_i ys2 b2 e2 h2
    cases h
    exact Qv0 hx (Qtu r _ _ _ _ h2 he)
   cases h
  rename_i hx
  split at h
  ·rename_i y a e1 ws1 h1
   split at h
   ·rename_i ys2 b2 e2 h2
    cases h
    obtain ⟨g1,g2⟩:=Qj1 he
    exact Qv5 (by simpa using hx) (Qa8 _ _ _ _ _ _ _ h1 g1) (Qtu r _ _ _ _ h2 g2) rfl
   cases h
  cases h
noncomputable def Cf.bs (P:Program) (c:Cf) (he:List LK) (b:Bool) (ws:List (Option Wt)):Option (St × List (Nat × AObj) × List Nat × List ((Nat × Nat × List AV) × Wt)):=match Qus P c.o c.i c.st with
 | some ps=>match snP c.st.sto ps ws with
  | some (parts,ids,e)=>match Q11 P c.o c.i c.st he b parts ids with
   | some (S,es)=>some (S,es,ids,e)
   | none=>none
  | none=>none
 | none=>none
noncomputable def Cf.bS (P:Program) (c:Cf) (he:List LK) (b:Bool) (ws:List (Option Wt)):Cf:=match c.bs P he b ws with
 | some (S,es,ids,_)=>c.nx [(es.map (·.1),ids)] S
 | none=>.bad
noncomputable def Cf.be (P:Program) (c:Cf) (he:List LK) (b:Bool) (ws:List (Option Wt)):List ((Nat × Nat × List AV) × Wt):=match c.bs P he b ws with
 | some (_,_,_,e)=>e
 | none=>[]
theorem hbs (n:Nat) (he:List LK) (b:Bool) (ws:List (Option Wt)) (k:Hl P Ω ((gg P n c).bS P he b ws) D) (e:goO P n c=true:=by kernel_rfl) (h:((gg P n c).bs P he b ws).isSome=true:=by kernel_rfl)
  (hw:((gg P n c).be P he b ws).map (·.1)=((gg P n c).be P he b ws).map (fun p=>(p.2.i,p.2.n,p.2.xs)):=by kernel_rfl):Hl P Ω c D:=fun r hr=>Kg e fun hO=>by
 have k:=k r hr
 revert k h hw
 unfold Cf.bS Cf.be
 generalize gg P n c=c' at *
 cases hs:c'.bs P he b ws with
 | none=>intro h; cases h
 | some z =>
  obtain ⟨S,es,ids,eq⟩:=z
  intro h hw k
  refine Kk hO ?_
  unfold Cf.bs at hs
  split at hs
  ·rename_i ps hi
   split at hs
   ·rename_i parts ids' e' hp
    split at hs
    ·rename_i S' es' hS
     cases hs
     exact bsR he b hi (Qtu _ _ _ _ _ hp hw) hS k
    cases hs
   cases hs
  cases hs
def Qlg:Code->List Bool->List Fr->Code × List Fr
 | .seq a b,w::ws,fr=>if w then Qlg b ws fr else Qlg a ws (.seq b::fr)
 | .block id x,_::ws,fr=>Qlg x ws (.blk id::fr)
 | .scope x,_::ws,fr=>Qlg x ws fr
 | .cond _ x y,w::ws,fr=>if w then Qlg y ws fr else Qlg x ws fr
 | c,_,fr=>(c,fr)
noncomputable def atW (P:Program) (fn:Func) (way:List Bool) (S:St):Cf:=settle P 1000 ⟨.code (Qlg (Func.cd fn) way []).1,(Qlg (Func.cd fn) way []).2,S,none,0⟩
theorem hjn (n:Nat) {c':Cf} (h:Hl P Ω c' D) (w:Wk P (gg P n c).base (gg P n c).st c'.st) (f:goF P n c=true:=by kernel_rfl) (e:(gg P n c).to c'.st=c':=by kernel_rfl):Hl P Ω c D:=hwk n w (by rw [e]; exact h) f
def Cf.lc (c:Cf) (S:St):Cf:=⟨.code c.lb,.lp c.lb::c.fr,S,c.rd,c.base⟩
theorem hst (n:Nat) {σ ρ:Type} {N:Nat} {cnd:σ->Bool} {body:σ->Option (Qe σ ρ)} {K:σ ⊕ ρ->Option R} {s0:σ} (I:σ->St) (E:ρ->Xd × St) (w:Wk P (gg P n c).base (gg P n c).st (I s0))
  (b:∀s,Hl P (RdI P (gg P n c).base I E) ((gg P n c).at' (gg P n c).lb (I s)) (body s)) (k1:∀y,Hl P Ω ((gg P n c).lc (I y)) (K (.inl y))) (k2:∀x,Hl P Ω ((gg P n c).ex (E x)) (K (.inr x))) (e:goL P n c=true:=by kernel_rfl):Hl P Ω c ((Qb N (Qa7 cnd body) s0).bind K):=fun r h =>
 Qzg e (Qzt s0 w h (fun s o ho=>b s o ho) (fun y hy=>Qhj (k1 y r hy)) fun x hx out ho=>by subst ho; exact k2 x r hx)
def Cf.lw (c:Cf):Code:=match c.pos with | .lw x=>x | _=>.skip
noncomputable def Qx1 (P:Program) (n:Nat) (c:Cf):Bool:=match go P n c with | some c=>(match c.pos with | .lw _=>true | _=>false) | none=>false
theorem Q31 {n:Nat} (h:Qx1 P n c=true) {Ψ:AOut->Prop} (g:LWP P (gg P n c).rd (gg P n c).base (gg P n c).lw (gg P n c).st (Phi P Ψ (gg P n c).fr (gg P n c).rd (gg P n c).base)):Gl P Ψ c:=by
 unfold Qx1 at h
 split at h
 ·rename_i c1 hc
  have hg:gg P n c=c1:=by unfold gg; rw [hc]
  rw [hg] at g
  refine Qf3 n c c1 hc ?_
  obtain ⟨pos,fr,st,rd,b⟩:=c1
  cases pos with
  | lw x=>exact g
  | _=>cases h
 cases h
theorem hlq (n:Nat) {σ ρ:Type} {N:Nat} {body:σ->Option (Qe σ ρ)} {K:ρ->Option R} {s0:σ} (I:σ->St) (E:ρ->Xd × St) (w:Wk P (gg P n c).base (gg P n c).st (I s0))
  (b:∀s,Hl P (RdI P (gg P n c).base I E) ((gg P n c).at' (gg P n c).lw (I s)) (body s)) (k:∀x,Hl P Ω ((gg P n c).ex (E x)) (K x)) (e:Qx1 P n c=true:=by kernel_rfl):Hl P Ω c ((Qb N body s0).bind K):=fun r h =>
 Q31 e (Qxg s0 w h (fun s o ho=>b s o ho) fun x hx out ho=>by subst ho; exact k x r hx)
def Qt4 {ρ:Type} (P:Program) (N:Nat) (E:ρ->St) (x:ρ):AOut->Prop
 | .go e s=>(e=.ret\/e=.normal)/\Wk P N s (E x)
 | .pan _=>False
theorem Q4l {σ ρ:Type} {N:Nat} {cd:Code} {I:σ->St} {E:ρ->St} {G:σ->Option ρ} (h:∀s,Hl P (Qt4 P N E) ⟨.code cd,[],I s,none,N⟩ (G s)):∀s x,G s=some x->WP P none N cd (I s) (fun o=>o=.go .ret (E x)\/o=.go .normal (E x)):=fun s x hx=>by
 refine Q4k ((h s x hx:WP P none N cd (I s) (Qt4 P N E x)).mono fun out ho=>?_)
 cases out with
 | pan v=>exact ho.elim
 | go e s1 =>
  obtain ⟨he,hw⟩:=ho
  refine ⟨_,hw,?_⟩
  rcases he with rfl | rfl
  ·exact .inl rfl
  exact .inr rfl
noncomputable def goR (P:Program) (n:Nat) (c:Cf):Bool:=match go P n c with | some ⟨.out .ret,[],_,_,_⟩=>true | some ⟨.out .normal,[],_,_,_⟩=>true | _=>false
theorem hre (n:Nat) {ρ:Type} {N:Nat} {E:ρ->St} {v:ρ} (w:Wk P N (gg P n c).st (E v)) (e:goR P n c=true:=by kernel_rfl):Hl P (Qt4 P N E) c (some v):=fun r h=>by
 cases h
 unfold goR at e
 split at e
 ·rename_i st rd b hc
  refine Qf3 n c _ hc ⟨.inl rfl,?_⟩
  have:(gg P n c).st=st:=by unfold gg; rw [hc]
  rw [<-this]; exact w
 ·rename_i st rd b hc
  refine Qf3 n c _ hc ⟨.inr rfl,?_⟩
  have:(gg P n c).st=st:=by unfold gg; rw [hc]
  rw [<-this]; exact w
 cases e
noncomputable def Cf.rc (c:Cf) (fn:Func) (N:Nat) (S:St):Cf:=⟨.out .ret,.inl fn c.o c.i c.st c.rd c.base::c.fr,S,none,N⟩
def Cf.rb (fn:Func) (N:Nat) (S:St):Cf:=⟨.code (Func.cd fn),[],S,none,N⟩
theorem hrc (n N:Nat) {σ ρ:Type} {F:(σ->Option ρ)->σ->Option ρ} {K:ρ->Option R} {s0:σ} (I:σ->St) (E:ρ->St) {f:FuncId} {fn:Func} (hf:P.funcs[f]?=some fn)
  (step:∀d,Qgc P N (Func.cd fn) I E d->∀s,Hl P (Qt4 P N E) (Cf.rb fn N (I s)) (F d s)) (k:∀x,Hl P Ω ((gg P n c).rc fn N (E x)) (K x)) (e:goO P n c=true:=by kernel_rfl) (hi:(gg P n c).fid=some f:=by kernel_rfl) (hd:(gg P n c).d=none:=by kernel_rfl)
  (hb:fn.body.isSome=true:=by kernel_rfl) (hn:(fn.name == "runtime.NumGoroutine")=false:=by decide +kernel) (hle:Nat.ble (gg P n c).as.length fn.ntmps=true:=by kernel_rfl)
  (h0:(⟨V7 0 (gg P n c).as,(gg P n c).st.objs,fn.ntmps⟩:St)=I s0:=by kernel_rfl) (hN:(gg P n c).st.objs.length=N:=by kernel_rfl):Hl P Ω c ((Qfj F fuel s0).bind K):=fun r h=>Kg e fun hO=>Kk hO (by
 rw [hd]; exact Q76 s0 (Qpw hi) hf (Qpd hb) hn hle h0 hN h (fun d hd'=>Q4l (step d hd')) fun x hx=>k x r hx)
theorem hrJ (n N:Nat) {σ ρ:Type} {F:σ->Option ρ} {K:ρ->Option R} {s0:σ} {I:σ->St} {E:ρ->St} {f:FuncId} {fn:Func} (hf:P.funcs[f]?=some fn)
  (IH:Qgc P N (Func.cd fn) I E F) (k:∀x,Hl P Ω ((gg P n c).rc fn N (E x)) (K x)) (e:goO P n c=true:=by kernel_rfl) (hi:(gg P n c).fid=some f:=by kernel_rfl) (hd:(gg P n c).d=none:=by kernel_rfl)
  (hb:fn.body.isSome=true:=by kernel_rfl) (hn:(fn.name == "runtime.NumGoroutine")=false:=by decide +kernel) (hle:Nat.ble (gg P n c).as.length fn.ntmps=true:=by kernel_rfl)
  (h0:(⟨V7 0 (gg P n c).as,(gg P n c).st.objs,fn.ntmps⟩:St)=I s0:=by kernel_rfl) (hN:(gg P n c).st.objs.length=N:=by kernel_rfl):Hl P Ω c ((F s0).bind K):=fun r h=>Kg e fun hO=>Kk hO (by
 rw [hd]; exact Q5p s0 (Qpw hi) hf (Qpd hb) hn hle h0 hN IH h fun x hx=>k x r hx)
theorem hri (n N:Nat) {σ ρ:Type} {F:σ->Option ρ} {K:ρ->Option R} {s0:σ} {I:σ->St} {E:ρ->St} (eff:ρ->List (Nat × AObj)) (w:List Nat) {f:FuncId} {fn:Func} (hf:P.funcs[f]?=some fn)
  (hA:∀y∈(gg P n c).st.objs.take N,Qcq N y) (hA':∀x,∀y∈(E x).objs,Qcq N y) (IH:Qgc P N (Func.cd fn) I E F)
  (k:∀x,Hl P Ω ((gg P n c).nx [(w,List.range N)] (gt0 (Qlc P fn (gg P n c).o (gg P n c).i (gg P n c).st (eff x) (E x)))) (K x)) (e:goO P n c=true:=by kernel_rfl) (hi:(gg P n c).fid=some f:=by kernel_rfl)
  (hb:fn.body.isSome=true:=by kernel_rfl) (hn:(fn.name == "runtime.NumGoroutine")=false:=by decide +kernel) (hle:Nat.ble (gg P n c).as.length fn.ntmps=true:=by kernel_rfl)
  (h0:(⟨V7 0 (gg P n c).as,(gg P n c).st.objs.take N,fn.ntmps⟩:St)=I s0:=by kernel_rfl) (hN:Nat.ble N (gg P n c).st.objs.length=true:=by kernel_rfl) (hbig:Nat.ble (gg P n c).st.objs.length BIG=true:=by kernel_rfl) (hlive:((gg P n c).st.objs.take N).all Qsy=true:=by kernel_rfl)
  (hE:∀x,Nat.beq (E x).objs.length N=true:=by (intro _; kernel_rfl)) (hsl:((gg P n c).as.all fun a=>a.ids.all fun o=>Nat.blt o N)=true:=by kernel_rfl) (heff:∀x,Z3 ((gg P n c).st.objs.take N) (eff x)=some (E x).objs:=by (intro _; kernel_rfl))
  (hw:∀x,(eff x).map (·.1)=w:=by (intro _; rfl)) (hwl:(w.all fun o=>Nat.blt o N)=true:=by kernel_rfl) (hS:∀x,(Qlc P fn (gg P n c).o (gg P n c).i (gg P n c).st (eff x) (E x)).isSome=true:=by (intro _; kernel_rfl)):Hl P Ω c ((F s0).bind K):=fun r h=>Kg e fun hO=>Kk hO
 (Q75 s0 eff _ w (Qpw hi) hf (Qpd hb) hn hle h0 hN hbig hlive hA hE hA' hsl heff hw hwl IH h (fun x=>gE (hS x)) fun x hx=>k x r hx)
end
def Cf.rnd (j:Nat) (c:Cf) (S:St):Cf:=⟨c.pos,c.fr.take j,S,c.rd,c.base⟩
section
variable {P:Program} {R:Type} {Ω:R->AOut->Prop} {c:Cf} {D A B:Option R}
end
attribute [irreducible] Hl Gl Phi ctl stp settle go gg goO goX goF goL goN goE Cf.o Cf.d Cf.i Cf.isO Cf.x Cf.isX Cf.free Cf.nx Cf.nx2 Cf.to Cf.sn Cf.ids Cf.eqs Cf.us Cf.cl Cf.lb Cf.at' Cf.ex Cf.as Cf.fid Cf.il Cf.rg Cf.rS Cf.rL Cf.yi Cf.yS Cf.yb Cf.bs Cf.bS Cf.be Cf.lc Cf.lw Qx1 atW goR Cf.rc Cf.rb Qt4 RdI Cf.rnd Cf.cut Cf.cutOk goC Func.cd
end Go.Ab
