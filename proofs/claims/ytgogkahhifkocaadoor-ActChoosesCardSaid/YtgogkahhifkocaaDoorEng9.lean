/- Rules. No conditions. -/
import Derived.Test.YtgogkahhifkocaaDoorEng8
set_option linter.all false
namespace Go.Ab
open Go.RowKit
def J3 {κ α:Type} (ke:κ->AV) (enc:α->AV) (p:κ × α):AV × AV:=(ke p.1,enc p.2)
def Yd {κ α:Type} (ke:κ->AV) (enc:α->AV) (l:List (κ × α)):AObj:=mapO (l.map (J3 ke enc))
def Qcp {κ α:Type} (e:κ->κ->Bool):List (κ × α)->κ->Option α
 | [],_=>none
 | p::r,n=>if e n p.1 then some p.2 else Qcp e r n
def kput {κ α:Type} (e:κ->κ->Bool):List (κ × α)->κ->α->List (κ × α)
 | [],n,v=>[(n,v)]
 | p::r,n,v=>if e n p.1 then (n,v)::r else p::kput e r n v
section
variable {P:Program} {κ α:Type} {ke:κ->AV} {enc:α->AV} {e:κ->κ->Bool} {kt:TypeId}
theorem Qli (hk:∀a b,X7 P kt (ke a) (ke b)=some (e a b)) {n:κ}:∀(l:List (κ × α)) (i:Nat),Qcp e l n=none->Vv (X7 P kt) (ke n) (l.map (J3 ke enc)) i=some none
 | [],i,_=>rfl
 | p::r,i,h=>by
  unfold Qcp at h
  split at h
  ·cases h
  rename_i hc
  simp only [dD,J3,Vv,hk]
  rw [show e n p.1=false by simpa using hc]
  exact Qli hk r (i+1) h
theorem Qlw (hk:∀a b,X7 P kt (ke a) (ke b)=some (e a b)) {n:κ} {v:α}:∀(l:List (κ × α)) (i:Nat),Qcp e l n=some v->∃j,Vv (X7 P kt) (ke n) (l.map (J3 ke enc)) i=some (some (i+j,enc v))/\∀w,(l.map (J3 ke enc)).set j (J3 ke enc (n,w))=(kput e l n w).map (J3 ke enc)
 | [],i,h=>by cases h
 | p::r,i,h=>by
  unfold Qcp at h
  split at h
  ·rename_i hc
   cases h
   refine ⟨0,?_,fun w=>?_⟩
   ·simp only [dD,J3,Vv,hk,hc,eG]
   simp only [kput,hc,eJ,dD,List.set_cons_zero]
  rename_i hc
  have hc':e n p.1=false:=by simpa using hc
  obtain ⟨j,h1,h2⟩:=Qlw hk r (i+1) h
  refine ⟨j+1,?_,fun w=>?_⟩
  ·simp only [dD,J3,Vv,hk,hc']
   rw [show i+(j+1)=i+1+j by omega]
   exact h1
  simp only [kput,hc',dD,List.set_cons_succ,h2 w]
  simp
theorem Qtm {n:κ} {w:α}:∀(l:List (κ × α)),Qcp e l n=none->l.map (J3 ke enc)++[J3 ke enc (n,w)]=(kput e l n w).map (J3 ke enc)
 | [],_=>rfl
 | p::r,h=>by
  unfold Qcp at h
  split at h
  ·cases h
  rename_i hc
  have hc':e n p.1=false:=by simpa using hc
  simp only [kput,hc',dD,dI,Qtm r h]
  simp
end
section
variable {P:Program} {rd:Option Nat} {base:Nat} {ops:Array Oper} {d:Option (List Sk)} {st S:St} {Φ:AOut->Prop} {i:Nat}
noncomputable def Qyr (P:Program) (ops:Array Oper) (i:Nat) (st:St):Option (Nat × TypeId × AV × Bool × AV) :=
 match Z9 ops i st with
 | some o=>match o.op with
  | .lookup t x ix c=>match ti P t,evo (lk st.slots) x,evo (lk st.slots) ix with
   | some T,some (.mp ob),some k=>match T.kind with
    | .map kt et=>match (ti P et).bind (·.zero) with
     | some z=>some (ob,kt,k,c,z)
     | _=>none
    | _=>none
   | _,_,_=>none
  | _=>none
 | none=>none
noncomputable def Qyp (P:Program) (ops:Array Oper) (i:Nat) (st:St):Option (Nat × TypeId × AV × AV) :=
 match Z9 ops i st with
 | some o=>match o.op with
  | .mapUpdate t m x y | .insert t m x y=>match ti P t,evo (lk st.slots) m,evo (lk st.slots) x,evo (lk st.slots) y with
   | some T,some (.mp ob),some k,some v=>match T.kind with
    | .map kt _=>some (ob,kt,k,v)
    | _=>none
   | _,_,_,_=>none
  | _=>none
 | none=>none
theorem Zag {κ α:Type} {ke:κ->AV} {enc:α->AV} {e:κ->κ->Bool} {l:List (κ × α)} {n:κ} {z:α} {ob:Nat} {kt:TypeId} {c:Bool} (hi:Qyr P ops i st=some (ob,kt,ke n,c,enc z)) (hk:∀a b,X7 P kt (ke a) (ke b)=some (e a b)) (hrow:st.sto ob=some (Yd ke enc l)) (hok:∀v,(enc v).okv=true)
  (hS:Zd ops i st (some (if c then .tup [enc ((Qcp e l n).getD z),.bool (Qcp e l n).isSome] else enc ((Qcp e l n).getD z))) []=some S) (k:RW P rd base ops (Qw d [([],[ob])]) (i+1) S Φ):RW P rd base ops d i st Φ:=by
 unfold Qyr at hi
 split at hi
 ·rename_i o ho
  split at hi
  ·rename_i t x ix c' hop
   split at hi
   ·rename_i T ob' k' hT hx hix
    split at hi
    ·rename_i kt et hkind
     split at hi
     ·rename_i z' hz
      cases hi
      refine X5 (nf:=false) (v:=some (if c then .tup [enc ((Qcp e l n).getD z),.bool (Qcp e l n).isSome] else enc ((Qcp e l n).getD z))) (eff:=[]) (fr:=st.objs.length) (rds:=[ob]) ho ?_ hS (Z2 hS) k
      rw [Qif]
      simp only [evalOp,hop]
      unfold Qfe
      have hes:(st.sto ob).bind Qeu=some (l.map (J3 ke enc)):=by rw [hrow]; exact Qnl _
      simp only [hT,hx,hix,hkind,hes,hk,hz]
      cases hg:Qcp e l n with
      | none =>
       rw [Qli hk l 0 hg]
       simp only [hok,eJ,Option.getD_none,Option.isSome_none]
      | some v =>
       obtain ⟨j,h1,_⟩:=Qlw (enc:=enc) hk l 0 hg
       rw [h1]
       simp only [hok,eJ,cP,dG]
     ·cases hi
    ·cases hi
   ·cases hi
  ·cases hi
 ·cases hi
theorem Zal {κ α:Type} {ke:κ->AV} {enc:α->AV} {e:κ->κ->Bool} {l:List (κ × α)} {n:κ} {v:α} {ob:Nat} {kt:TypeId} (hi:Qyp P ops i st=some (ob,kt,ke n,enc v)) (hk:∀a b,X7 P kt (ke a) (ke b)=some (e a b)) (hrow:st.sto ob=some (Yd ke enc l))
  (hS:Zd ops i st none [(ob,Yd ke enc (kput e l n v))]=some S) (hl:Nat.beq S.objs.length st.objs.length=true) (k:RW P rd base ops (Qw d [([ob],[ob])]) (i+1) S Φ):RW P rd base ops d i st Φ:=by
 have main:∃o,Z9 ops i st=some o/\Ze P false noC st.sto st.objs.length (lk st.slots) o=some (.val ⟨none,[(ob,Yd ke enc (kput e l n v))],st.objs.length,[ob]⟩):=by
  unfold Qyp at hi
  split at hi
  rotate_left
  ·cases hi
  rename_i o ho
  have step:∀(t:TypeId) (m x y:Operand),(o.op=.mapUpdate t m x y\/o.op=.insert t m x y)->(match ti P t,evo (lk st.slots) m,evo (lk st.slots) x,evo (lk st.slots) y with
    | some T,some (.mp ob),some k,some v=>match T.kind with
     | .map kt _=>some (ob,kt,k,v)
     | _=>none
    | _,_,_,_=>none)=some (ob,kt,ke n,enc v)->Ze P false noC st.sto st.objs.length (lk st.slots) o=some (.val ⟨none,[(ob,Yd ke enc (kput e l n v))],st.objs.length,[ob]⟩):=fun t m x y hop hi=>by
   split at hi
   ·rename_i T ob' k' v' hT hm hx hy
    split at hi
    ·rename_i kt et hkind
     cases hi
     rw [Qif]
     have hev:evalOp P false noC st.sto st.objs.length (lk st.slots) o=Qfq P st.sto st.objs.length (lk st.slots) t m x y:=by
      rcases hop with hop | hop <;> simp only [evalOp,hop]
     rw [hev]
     unfold Qfq
     have hes:(st.sto ob).bind Qeu=some (l.map (J3 ke enc)):=by rw [hrow]; exact Qnl _
     simp only [hT,hm,hx,hy,hkind,hes,hk]
     cases hg:Qcp e l n with
     | none =>
      rw [Qli hk l 0 hg]
      simp only
      rw [show (ke n,enc v)=J3 ke enc (n,v) from rfl,Qtm l hg]
      rfl
     | some u =>
      obtain ⟨j,h1,h2⟩:=Qlw (enc:=enc) hk l 0 hg
      rw [h1]
      simp only [dQ]
      rw [show (ke n,enc v)=J3 ke enc (n,v) from rfl,h2]
      rfl
    ·cases hi
   ·cases hi
  refine ⟨o,ho,?_⟩
  split at hi
  ·rename_i t m x y hop; exact step t m x y (.inl hop) hi
  ·rename_i t m x y hop; exact step t m x y (.inr hop) hi
  cases hi
 obtain ⟨o,ho,he⟩:=main
 exact X5 ho he hS (aJ hl) k
end
section
variable {P:Program} {κ α:Type} {ke:κ->AV} {enc:α->AV} {e:κ->κ->Bool} {kt:TypeId}
end
section
variable {P:Program} {rd:Option Nat} {base:Nat} {ops:Array Oper} {d:Option (List Sk)} {st S:St} {Φ:AOut->Prop} {i:Nat}
end
theorem Qt8 {κ α:Type} {ke:κ->AV} {enc:α->AV} {f:Nat -> Option Nat} (hk:∀v,(ke v).ren f=some (ke v)) (he:∀v,(enc v).ren f=some (enc v)):∀(l:List (κ × α)) (i:Nat),Qp0 f (Xe i (l.map (J3 ke enc)))=some (Xe i (l.map (J3 ke enc)))
 | [],i=>rfl
 | x::l,i=>by
  simp only [dD,J3,Xe,Qp0,he]
  have h2:=Qt8 hk he l (i+2)
  rw [hk]
  simp only [h2]
theorem Q4u {κ α:Type} {ke:κ->AV} {enc:α->AV} {f:Nat -> Option Nat} (hk:∀v,(ke v).ren f=some (ke v)) (he:∀v,(enc v).ren f=some (enc v)) (l:List (κ × α)):(Yd ke enc l).ren f=some (Yd ke enc l):=by
 show AObj.ren f (.loop _ _ _ _ _ _ _)=_
 simp only [AObj.ren,Qt8 hk he l 0]
 rfl
theorem wk_gcK {P:Program} {base:Nat} {st st':St} {live keep:List Nat} (o:Nat) {κ α:Type} (ke:κ->AV) (enc:α->AV) (L:List (κ × α)) (hK:∀f a,(ke a).ren f=some (ke a)) (hE:∀f a,(enc a).ren f=some (enc a)) (ho:st.objs[o]?=some (Yd ke enc L))
  (h:Q5g base live keep o (Yd ke enc L) st=some st'):Wk P base st st':=by
 refine wk_gc (live:=live) (keep:=keep) ?_
 unfold Q5g at h
 have hself:st.objs.set o (Yd ke enc L)=st.objs:=by
  obtain ⟨h1,h2⟩:=aD.1 ho
  apply List.ext_getElem?
  intro i
  by_cases e:o=i
  ·subst e; rw [bY h1,ho]
  rw [bZ e]
 cases hg:Qgi base live keep ⟨st.slots,st.objs.set o (mapO []),st.nt⟩ with
 | none=>rw [hg] at h; cases h
 | some s =>
  rw [hg] at h
  cases h
  unfold Qgi at hg ⊢
  simp only at hg ⊢
  split at hg
  ·rename_i hc
   rw [aH hc]
   split at hg
   ·rename_i os hos
    cases hg
    have:=Qk8 (Q4u (ke:=ke) (fun a=>hK _ a) (fun a=>hE _ a) L) (aD.1 ho).1 _ _ hos
    rw [hself] at this
    rw [this]
   cases hg
  cases hg
theorem Q04 {N:Nat} {κ α:Type} {ke:κ->AV} {enc:α->AV} {l:List (κ × α)} (hk:∀v,(ke v).ids=[]) (he:∀v,(enc v).ids=[]):Qdg N (Yd ke enc l):=by
 show ∀p∈Xe 0 (l.map (J3 ke enc)),∀o∈p.2.ids,o < N
 have:∀(l:List (κ × α)) (i:Nat),∀p∈Xe i (l.map (J3 ke enc)),p.2.ids=[]:=by
  intro l
  induction l with
  | nil=>intro i p hp; cases hp
  | cons x l ih =>
   intro i p hp
   simp only [dD,J3,Xe,cC] at hp
   rcases hp with rfl | rfl | hp
   ·exact hk _
   ·exact he _
   exact ih (i+2) p hp
 intro p hp o ho
 rw [this l 0 p hp] at ho
 cases ho
theorem Qa1 {N:Nat} {A:List AObj} (k:Nat) {κ α:Type} (ke:κ->AV) (enc:α->AV) (l:List (κ × α)) (hA:A[k]?=some (Yd ke enc l)) (hk:∀v,(ke v).ids=[]) (he:∀v,(enc v).ids=[]) (h:(A.set k .dead).all (Qu0 N)=true):∀y∈A,Qdg N y:=fun y hy=>by
 obtain ⟨j,hj⟩:=bQ.1 hy
 by_cases e:k=j
 ·subst e
  rw [hA] at hj
  cases hj
  exact Q04 hk he
 exact Q6u (bO.1 h y (aF (by rw [bZ e]; exact hj)))
end Go.Ab
namespace Go.Ab
open Go.RowKit
theorem Qww:∀(es:List (Nat × AObj)) (A A':List AObj),Z5 A es=some A'->(∀y∈es,y.1 < A.length)->∀k,Sto.puts (fun k=>A[k]?) es k=A'[k]?
 | [],A,A',h,_,k=>by cases h; rfl
 | (o,x)::es,A,A',h,hl,k=>by
  simp only [Z5] at h
  split at h
  rotate_left
  ·cases h
  have ho:=hl (o,x) (by simp)
  rw [aG ho] at h
  simp only at h
  split at h
  ·cases h
  have ih:=Qww es _ A' h (fun y hy=>by rw [bX]; exact hl y (cL _ hy)) k
  rw [<-ih]
  show Sto.puts _ es k=_
  congr 1
  funext j
  by_cases e:j=o
  ·subst e; simp [Sto.put,bY ho]
  simp [Sto.put,e,bZ (fun h=>e h.symm)]
section
variable {P:Program} {rd:Option Nat} {base:Nat} {ops:Array Oper} {d:Option (List Sk)} {st:St} {Φ:AOut->Prop} {i:Nat}
theorem Zam {σ ρ R:Type} {N:Nat} {c:Code} {I:σ->St} {E:ρ->St} {F:σ->Option ρ} {K:ρ->Option R} {r:R} {f:FuncId} {fn:Func} {as0:List AV} (s0:σ) (eff:ρ->List (Nat × AObj)) (S:ρ->St) (w:List Nat)
  (hi:Zu ops i st=some (f,as0)) (hf:P.funcs[f]?=some fn) (hb:fn.body=some c) (hn:(fn.name == "runtime.NumGoroutine")=false) (hle:Nat.ble as0.length fn.ntmps=true)
  (h0:(⟨Ja 0 as0,st.objs.take N,fn.ntmps⟩:St)=I s0) (hN:Nat.ble N st.objs.length=true) (hbig:Nat.ble st.objs.length BIG=true) (hlive:(st.objs.take N).all Quw=true) (hA:∀y∈st.objs.take N,Qdg N y) (hE:∀x,Nat.beq (E x).objs.length N=true) (hA':∀x,∀y∈(E x).objs,Qdg N y)
  (hsl:(as0.all fun a=>a.ids.all fun o=>Nat.blt o N)=true)
  (heff:∀x,Z5 (st.objs.take N) (eff x)=some (E x).objs) (hw:∀x,(eff x).map (·.1)=w) (hwl:(w.all fun o=>Nat.blt o N)=true)
  (IH:Qg3 P N c I E F) (h:(F s0).bind K=some r) (hS:∀x,Qmv P fn ops i st (eff x) (E x)=some (S x))
  (k:∀x,K x=some r->RW P rd base ops (Qw d [(w,List.range N)]) (i+1) (S x) Φ):RW P rd base ops d i st Φ:=by
 have hNl:N<=st.objs.length:=bN hN
 have hlA:(st.objs.take N).length=N:=by rw [cQ]; omega
 have hel:∀x,∀y∈eff x,y.1 < N:=fun x y hy=>by
  have:y.1∈(eff x).map (·.1):=List.mem_map_of_mem hy
  rw [hw x] at this
  exact Xk (bO.1 hwl _ this)
 refine Zan s0 (st.objs.take N) (st.objs.drop N) eff S hi hf hb hn hle (List.take_append_drop N st.objs).symm h0 hlA ?_ hlive hA (fun x=>aJ (hE x)) hA' hsl (fun x k _=>Qww _ _ _ (heff x) (fun y hy=>by rw [hlA]; exact hel x y hy) k) hel w hw hbig IH h hS k
 have:=bN hbig
 exact Nat.ble_eq_true_of_le (by omega)
end
end Go.Ab
namespace Go.Ab
open Go.RowKit
@[reducible] def nlE {α:Type} (fl:Bool) (enc:α->AV):List α->AV
 | []=>.nils
 | a::l=>.lst fl ((a::l).map enc)
section
variable {P:Program} {rd:Option Nat} {base:Nat} {ops:Array Oper} {d:Option (List Sk)} {Φ:AOut->Prop} {i:Nat}
variable {st:St} {ops:Array Oper}
theorem Q8n {α R:Type} {G:Option (List α)} {A:Option R} {B:α->List α->Option R} {f:FuncId} {as0 us:List AV} {ids:List Nat} {fl:Bool} {enc:α->AV} {S0:St} {S1:α->List α->St} {r:R} (hi:Zu ops i st=some (f,as0)) (hb:Qja P f=true)
  (hsn:Qx (Qu st.sto Qp) as0=some (us,ids)) (hc:∀x,G=some x->Q0 P f us (.ret (nlE fl enc x) [])) (h0:Qed ops i st ids .nils []=some S0) (h1:∀a t,Qed ops i st ids (.lst fl ((a::t).map enc)) []=some (S1 a t))
  (h:(G.bind fun x=>Q5h x A B)=some r) (k0:A=some r->RW P rd base ops (Qw d [Qk2 st ids .nils []]) (i+1) S0 Φ)
  (k1:∀a t,B a t=some r->RW P rd base ops (Qw d [Qk2 st ids (.lst fl ((a::t).map enc)) []]) (i+1) (S1 a t) Φ):RW P rd base ops d i st Φ:=by
 cases hg:G with
 | none=>rw [hg] at h; cases h
 | some x =>
  rw [hg] at h
  cases x with
  | nil=>exact Qsq hi hb hsn (hc [] hg) h0 (k0 h)
  | cons a t=>exact Qsq hi hb hsn (hc (a::t) hg) (h1 a t) (k1 a t h)
end
end Go.Ab
namespace Go.Ab
open Go.RowKit
theorem Xi.trans {ops:Array Oper} {i m k:Nat} (h:Xi ops i m) (h2:Xi ops m k):Xi ops i k:=by
 induction h2 with
 | one hj he hb hon=>exact .more hj he hb (hon ▸ h)
 | more hj he hb _ ih=>exact .more hj he hb ih
def Qqx (ops:Array Oper) (b i:Nat):Bool:=match ops[b]? with
 | some o=>o.after.any fun e=>Region.binds .any e && Nat.beq e.on i
 | none=>false
theorem Qfu {ops:Array Oper} {b i:Nat} (h:Qqx ops b i=true):Xi ops i b:=by
 unfold Qqx at h
 split at h
 ·rename_i o ho
  obtain ⟨e,he,hb⟩:=Array.any_eq_true'.1 h
  simp only [aE] at hb
  exact .one ho he hb.1 (aJ hb.2)
 cases h
def Qu3 (ops:Array Oper):Nat -> List Nat -> Bool
 | 0,_=>true
 | i+1,B=>B.any (fun b=>Qqx ops b i) && Qu3 ops i (i::B)
def upB (ops:Array Oper):Nat -> Nat -> List Nat -> Bool
 | 0,_,_=>true
 | m+1,k,B=>B.any (fun b=>Qqx ops k b) && upB ops m (k+1) (k::B)
theorem Qqs {ops:Array Oper} {j:Nat}:∀(i:Nat) (B:List Nat),(∀b∈B,b=j\/Xi ops b j)->Qu3 ops i B=true->∀k,k < i->Xi ops k j
 | 0,_,_,_,k,h=>by omega
 | i+1,B,hB,h,k,hk=>by
  simp only [Qu3,aE,bP] at h
  obtain ⟨⟨b,hb,he⟩,h2⟩:=h
  have hi:Xi ops i j:=by
   rcases hB b hb with rfl | h3
   ·exact Qfu he
   exact (Qfu he).trans h3
  by_cases e:k=i
  ·subst e; exact hi
  exact Qqs i (i::B) (fun b hb=>(cC.1 hb).elim (fun e=>.inr (e ▸ hi)) (hB b)) h2 k (by omega)
theorem Qwu {ops:Array Oper} {j:Nat}:∀(m k:Nat) (B:List Nat),(∀b∈B,b=j\/Xi ops j b)->upB ops m k B=true->∀q,k<=q->q < k+m->Xi ops j q
 | 0,_,_,_,_,q,h,h'=>by omega
 | m+1,k,B,hB,h,q,hq,hq'=>by
  simp only [upB,aE,bP] at h
  obtain ⟨⟨b,hb,he⟩,h2⟩:=h
  have hk:Xi ops j k:=by
   rcases hB b hb with rfl | h3
   ·exact Qfu he
   exact h3.trans (Qfu he)
  by_cases e:q=k
  ·subst e; exact hk
  exact Qwu m (k+1) (k::B) (fun b hb=>(cC.1 hb).elim (fun e=>.inr (e ▸ hk)) (hB b)) h2 q (by omega) (by omega)
def Qy3 (j:Nat) (l:List Oper):Bool:=l.all fun o=>match o.guard with | some (g,_)=>Nat.blt g j | none=>true
def cutB (ops:Array Oper) (j:Nat):Bool:=Nat.blt j ops.size && Qs6 (ops.extract 0 j) && Qy3 j (ops.extract 0 j).toList && Qu3 ops j [j] && upB ops (ops.size - (j+1)) (j+1) [j] && forced ops (ops.size - j) j (Ye ops.size j)
section
variable {F:Fence} {n:Nat} {P:Program} {ops:Array Oper} {Q Q':Exit->Act->World->Prop}
theorem Qzs {o:Oper} {a:Act} {w:World} {K K':Act->World->Prop} (h:∀a w,K a w->K' a w) (hq:∀e a w,e≠.normal->Q e a w->Q' e a w) (hh:o.wpIn F n P a w K Q):o.wpIn F n P a w K' Q':=by
 have lo:LetsOut Q->LetsOut Q':=fun ⟨a,w,h⟩=>⟨a,w,hq _ _ _ (by simp) h⟩
 unfold Oper.wpIn at *
 refine ⟨hh.1,?_⟩
 have hh:=hh.2
 generalize (o.semAt F.round a.eval).run P w=r at *
 cases r with
 | ok x w' =>
  cases x <;> simp only [Oper.uponIn] at hh ⊢ <;>
   first
    | exact h _ _ hh
    | exact ⟨hh.1,CallsIn.mono hh.2 (fun e w'' he=>by cases e <;> first | exact h _ _ he | exact hq _ _ _ (by simp) he | exact lo he)⟩
    | exact ⟨hh.1,RowsIn.mono hh.2 (fun _ _ he=>h _ _ he)⟩
    | exact ⟨hh.1,RoundIn.mono hh.2 (fun e w'' he=>by cases e <;> first | exact h _ _ he | exact hq _ _ _ (by simp) he | exact lo he)⟩
 | halt x w'=>cases x <;> simp only [Oper.uponIn] at hh ⊢ <;> first | exact hq _ _ _ (by simp) hh | exact hh
theorem Qw3:∀(fuel:Nat) (L:Array Bool) (a:Act) (w:World),wpAnyIn F n P .any ops Q fuel L a w->wpAnyIn F n P .any ops Q (fuel+1) L a w
 | 0,L,a,w,h=>⟨fun _=>h.2,fun i hi=>by rw [h.1] at hi; cases hi⟩
 | fuel+1,L,a,w,h=>⟨h.1,fun i hi=>wpOpIn_mono (fun a w g=>Qw3 fuel _ a w g) (h.2 i hi)⟩
theorem Qt3 (m:Nat):∀(k:Nat) {L:Array Bool} {a:Act} {w:World},wpAnyIn F n P .any ops Q m L a w->wpAnyIn F n P .any ops Q (k+m) L a w
 | 0,L,a,w,h=>by rw [dQ]; exact h
 | k+1,L,a,w,h=>by rw [show k+1+m=(k+m)+1 by omega]; exact Qw3 _ _ _ _ (Qt3 m k h)
theorem Qqh:∀(m k:Nat) (L:Array Bool) (a:Act) (w:World),forced ops m k L=true->wpOpsIn F n P ops Q (List.range' k m) a w->wpAnyIn F n P .any ops Q m L a w
 | 0,k,L,a,w,hf,h=>⟨by simpa [forced] using hf,by simpa [wpOpsIn] using h⟩
 | m+1,k,L,a,w,hf,h=>by
  simp only [forced,aE] at hf
  obtain ⟨h1,h2⟩:=hf
  have hr:Region.ready .any ops L=[k]:=by
   split at h1
   ·rename_i i hi; rw [hi,aJ h1]
   cases h1
  refine ⟨fun e=>(by rw [hr] at e; cases e),fun i hi=>?_⟩
  rw [hr] at hi
  simp only [bU] at hi
  subst hi
  rw [List.range'_succ,wpOpsIn_cons] at h
  exact wpOpIn_mono (fun a w g=>Qqh m (i+1) _ a w h2 g) h
def Qco (n:Nat) (L:Array Bool):Array Bool:=L++Array.replicate (n - L.size) false
theorem Qh1 {N:Nat} {L:Array Bool} (hN:L.size<=N) {i:Nat} {b:Bool}:(Qco N L).getD i b=if i < L.size then L.getD i b else if i < N then false else b:=by
 unfold Qco
 simp only [bC]
 by_cases h:i < L.size
 ·rw [aH h,dV h]
 rw [aI h,Array.getElem?_append_right (by omega)]
 by_cases h2:i < N
 ·rw [aH h2,Array.getElem?_replicate,aH (by omega)]; rfl
 rw [aI h2,Array.getElem?_replicate,aI (by omega)]; rfl
theorem Qys {N i:Nat} {L:Array Bool} (hi:i < L.size):(Qco N L).setIfInBounds i true=Qco N (L.setIfInBounds i true):=by
 unfold Qco
 rw [Array.setIfInBounds_append_left (by omega),Array.size_setIfInBounds]
theorem Qhr {j i:Nat} (hj:j<=ops.size) (hi:i < j):(ops.extract 0 j)[i]?=ops[i]?:=by
 rw [Array.getElem?_extract]
 simp; omega
theorem Q6j {j m:Nat} (hj:j < ops.size) (hlex:Qlv 0 ((ops.extract 0 j).toList.map (J7 (ops.extract 0 j)))=true) (hg:Qy3 j (ops.extract 0 j).toList=true)
  (hB:∀i k,i < j->j<=k->k < ops.size->Xi ops i k) (hn:∀a w,Q' .normal a w->wpAnyIn F n P .any ops Q m (Ye ops.size j) a w) (hq:∀e a w,e≠.normal->Q' e a w->Q e a w) :
  ∀(fuel:Nat) (L:Array Bool) (a:Act) (w:World),L.size=j->Qcx ops (Qco ops.size L)->wpAnyIn F n P .any (ops.extract 0 j) Q' fuel L a w->wpAnyIn F n P .any ops Q (fuel+m) (Qco ops.size L) a w:=by
 have hsz:(ops.extract 0 j).size=j:=by simp; omega
 have hedge:∀i o,i < j->ops[i]?=some o->∀e∈o.after,Region.binds .any e=true->e.on < i:=fun i o hi ho e he hb=>by
  have h1:=(Qpr (ops:=ops.extract 0 j) _ 0 hlex i (J7 (ops.extract 0 j) o) (by
   rw [bD,cX,Qhr (by omega) hi,ho]; rfl)).1 e.on (by
   simp only [J7,cD,cN]
   exact ⟨e,⟨Array.mem_toList_iff.2 he,hb⟩,rfl⟩)
  omega
 have hall:∀L:Array Bool,L.size=j->Region.ready .any (ops.extract 0 j) L=[]->∀i,i < j->L.getD i true=true:=fun L hL hr=>by
  intro i
  induction i using Nat.strongRecOn with
  | _ i ih =>
   intro hi
   apply Classical.byContradiction
   intro hno
   have hi':i < ops.size:=by omega
   have:i∈Region.ready .any (ops.extract 0 j) L:=by
    rw [mem_ready]
    refine ⟨by simpa using hno,ops[i],by rw [Qhr (by omega) hi]; exact aL hi',fun e he hb=>?_⟩
    have hlt:=hedge i ops[i] hi (aL hi') e he hb
    have:=ih e.on hlt (by omega)
    simp only [bC] at this ⊢
    rw [aL (by omega)] at this ⊢
    simpa using this
   rw [hr] at this; cases this
 have hpad:∀L:Array Bool,L.size=j->(∀i,i < j->L.getD i true=true)->Qco ops.size L=Ye ops.size j:=fun L hL h=>by
  apply Array.ext_getElem?
  intro i
  have h1:∀b,(Qco ops.size L).getD i b=(Ye ops.size j).getD i b:=fun b=>by
   rw [Qh1 (by omega),Qbn,hL]
   by_cases c:i < j
   ·rw [aH c,aH (by omega)]
    have:=h i c
    simp only [bC] at this ⊢
    rw [aL (by omega)] at this ⊢
    simpa [c] using this
   rw [aI c]
   by_cases c2:i < ops.size
   ·rw [aH c2,aH c2]; simp [c]
   rw [aI c2,aI c2]
  have a1:=h1 true
  have a2:=h1 false
  simp only [bC] at a1 a2
  cases e1:(Qco ops.size L)[i]? with
  | none =>
   cases e2:(Ye ops.size j)[i]? with
   | none=>rfl
   | some y=>rw [e1,e2] at a1 a2; cases y <;> simp at a1 a2
  | some x =>
   cases e2:(Ye ops.size j)[i]? with
   | none=>rw [e1,e2] at a1 a2; cases x <;> simp at a1 a2
   | some y=>rw [e1,e2] at a1; simpa using a1
 have hready:∀L:Array Bool,L.size=j->Qcx ops (Qco ops.size L)->(∃i,i < j/\L.getD i true=false)->∀k,k∈Region.ready .any ops (Qco ops.size L)↔k∈Region.ready .any (ops.extract 0 j) L:=fun L hL hcl ⟨i0,h0,hi0⟩ k=>by
  have hpi:(Qco ops.size L).getD i0 true=false:=by rw [Qh1 (by omega),aH (by omega)]; exact hi0
  constructor
  ·intro hk
   have hkj:k < j:=by
    apply Nat.lt_of_not_le
    intro hle
    have hks:k < ops.size:=by
     obtain ⟨_,ok,hok,_⟩:=mem_ready.1 hk
     exact (aX.1 hok).1
    exact Qrq hcl hk hpi (hB i0 k h0 hle hks)
   obtain ⟨h1,ok,hok,h2⟩:=mem_ready.1 hk
   refine mem_ready.2 ⟨?_,ok,by rw [Qhr (by omega) hkj]; exact hok,fun e he hb=>?_⟩
   ·rw [Qh1 (by omega),aH (by omega)] at h1; exact h1
   have:=h2 e he hb
   have hlt:=hedge k ok hkj hok e he hb
   rw [Qh1 (by omega),aH (by omega)] at this; exact this
  intro hk
  obtain ⟨h1,ok,hok,h2⟩:=mem_ready.1 hk
  have hkj:k < j:=by have:=(aX.1 hok).1; omega
  rw [Qhr (by omega) hkj] at hok
  refine mem_ready.2 ⟨?_,ok,hok,fun e he hb=>?_⟩
  ·rw [Qh1 (by omega),aH (by omega)]; exact h1
  have hlt:=hedge k ok hkj hok e he hb
  rw [Qh1 (by omega),aH (by omega)]; exact h2 e he hb
 intro fuel
 induction fuel with
 | zero =>
  intro L a w hL hcl h
  rw [dQ,hpad L hL (hall L hL h.1)]
  exact hn a w h.2
 | succ fuel ih =>
  intro L a w hL hcl h
  by_cases hx:∃i,i < j/\L.getD i true=false
  ·have hr:=hready L hL hcl hx
   rw [show fuel+1+m=(fuel+m)+1 by omega]
   refine ⟨fun he=>?_,fun i hi=>?_⟩
   ·have hemp:Region.ready .any (ops.extract 0 j) L=[]:=List.eq_nil_iff_forall_not_mem.2 fun k hk=>by
     have:=(hr k).2 hk
     rw [he] at this; cases this
    obtain ⟨i,h1,h2⟩:=hx
    rw [hall L hL hemp i h1] at h2; cases h2
   have hi':=(hr i).1 hi
   have h1:=h.2 i hi'
   obtain ⟨_,oi,hoi,_⟩:=mem_ready.1 hi'
   have hij:i < j:=by have:=(aX.1 hoi).1; omega
   have hoi':=hoi
   rw [Qhr (by omega) hij] at hoi'
   have hy:Region.wanted oi (yielded (ops.extract 0 j) a.tmps)=Region.wanted oi (yielded ops a.tmps):=by
    unfold Region.wanted
    cases hgd:oi.guard with
    | none=>rfl
    | some gw =>
     obtain ⟨g,want⟩:=gw
     have hmem:oi∈(ops.extract 0 j).toList:=Array.mem_toList_iff.2 (Array.mem_of_getElem? hoi)
     have:=bO.1 hg oi hmem
     rw [hgd] at this
     have hgj:g < j:=by simpa [Nat.blt_eq] using this
     simp only [yielded]
     rw [Qhr (by omega) hgj]
   unfold wpOpIn at h1 ⊢
   simp only [hoi,hoi'] at h1 ⊢
   rw [hy] at h1
   have hnext:∀a w,wpAnyIn F n P .any (ops.extract 0 j) Q' fuel (L.setIfInBounds i true) a w->wpAnyIn F n P .any ops Q (fuel+m) ((Qco ops.size L).setIfInBounds i true) a w:=fun a w g=>by
    rw [Qys (by omega)]
    refine ih _ a w (by simpa using hL) ?_ g
    rw [<-Qys (by omega)]
    exact hcl.add hi
   split at h1
   ·rename_i hw; rw [aH hw]; exact Qzs hnext hq h1
   rename_i hw; rw [aI hw]; exact ⟨h1.1,hnext _ _ h1.2⟩
  have hall':∀i,i < j->L.getD i true=true:=fun i hi=>by
   cases e:L.getD i true with
   | true=>rfl
   | false=>exact absurd ⟨i,hi,e⟩ hx
  have hemp:Region.ready .any (ops.extract 0 j) L=[]:=List.eq_nil_iff_forall_not_mem.2 fun k hk=>by
   obtain ⟨h1,ok,hok,_⟩:=mem_ready.1 hk
   have hkj:k < j:=by have:=(aX.1 hok).1; omega
   rw [hall' k hkj] at h1; cases h1
  rw [hpad L hL hall']
  exact Qt3 m (fuel+1) (hn a w (h.1 hemp))
end
section
variable {P:Program} {rd:Option Nat} {base:Nat} {ops:Array Oper} {st st':St} {Φ:AOut->Prop}
theorem Q4m {fs:List Foot} {ss:List Sk} (hB:Region.lexB .any ops=true) (hrun:Qvh P ops ops.toList st fs st') (hcov:Qs0 fs ss) (hcomp:Qe4 ops.toList ss=true)
  {B:Nat} {W0:World} {D0 dl:List Nat} {M:CM} {ι:Inj} {a:Act} {W:World} {n:Nat} {Q:Exit->Act->World->Prop} {r:Option Nat} (hs:Sim P B W0 D0 dl M ι st a W)
  (hp:∀M' ι' a' W',CM.Grow B M M'->Inj.leB base ι ι'->Sim P B W0 D0 dl M' ι' st' a' W'->Q .normal a' W') :
  wpAnyIn (FW r) n P .any ops Q ops.size (Array.replicate ops.size false) a W:=by
 simp only [Qe4,aE] at hcomp
 have hcomp:=Qgm (ops:=ops) 0 ops.toList _ _ hcov hcomp.1 hcomp.2 (fun q=>by simp)
 obtain ⟨r1,r2,r3,r4,rb,r5⟩:=Qn0 _ _ _ _ hrun
 have hbig:=rb hs.big
 have hdef:∀i,i < ops.size->fs[i]?=some (fs.getD i ⟨none,[],st'.objs.length,st'.objs.length,[]⟩):=fun i hi=>by
  rw [List.getD_eq_getElem?_getD,aG (by simp [r1]; exact hi)]; rfl
 have hout:∀i,ops.size<=i->fs.getD i ⟨none,[],st'.objs.length,st'.objs.length,[]⟩=⟨none,[],st'.objs.length,st'.objs.length,[]⟩:=fun i hi=>by
  rw [List.getD_eq_getElem?_getD,dK (by simp [r1]; exact hi)]; rfl
 have hrunA:=r5 (fun i=>fs.getD i ⟨none,[],st'.objs.length,st'.objs.length,[]⟩) 0 (fun j hj=>by simpa using hdef j (by simpa using hj))
 simp only [Region.lexB,aE] at hB
 have hA:=Qlx (P:=P) (ops:=ops) (Ft:=fun i=>fs.getD i ⟨none,[],st'.objs.length,st'.objs.length,[]⟩) (Q:=fun s σ=>s=lk st'.slots/\σ=sto st'.objs) (fun i j oj hij hj hno=>?_) ops.toList 0 (Array.replicate ops.size false) (lk st.slots) (sto st.objs) (fun k ok hk hl=>by simp [Array.getD] at hl) (by simp) (fun _ _=>eC _) (by simpa using hB.2) hrunA
 ·have hsz:ops.toList.length=ops.size:=by simp
  rw [hsz] at hA
  refine Qny (B:=B) (W0:=W0) (D:=dl++D0) (nt:=st.nt) (lo:=st.objs.length) (hi:=st'.objs.length) (fun i o d hi hd=>r4 i o d (by simpa using hi) hd) hbig (fun i=>?_) (fun i j hij=>?_) ops.size _ _ _ M ι a _ hA hs.rel hs.slots hs.nt (fun i _ k hk=>?_) ?_
  ·rcases aZ i ops.size with hi | hi
   ·exact r2.at i _ (hdef i hi)
   ·rw [hout i hi]; exact ⟨r2.le,aY _,aY _⟩
  ·rcases aZ i ops.size with hi | hi
   ·rcases aZ j ops.size with hj | hj
    ·rcases Nat.lt_or_gt_of_ne hij with e | e
     ·exact .inl (r2.lt i j _ _ e (hdef i hi) (hdef j hj))
     ·exact .inr (r2.lt j i _ _ e (hdef j hj) (hdef i hi))
    ·left; rw [hout j hj]; exact (r2.at i _ (hdef i hi)).2.2
   ·rcases aZ j ops.size with hj | hj
    ·right; rw [hout i hi]; exact (r2.at j _ (hdef j hj)).2.2
    ·left; rw [hout i hi,hout j hj]; exact aY _
  ·have hup:(fs.getD i ⟨none,[],st'.objs.length,st'.objs.length,[]⟩).fr'<=st'.objs.length:=by
    rcases aZ i ops.size with hi | hi
    ·exact (r2.at i _ (hdef i hi)).2.2
    ·rw [hout i hi]; exact aY _
   have hlo:st.objs.length<=(fs.getD i ⟨none,[],st'.objs.length,st'.objs.length,[]⟩).fr:=by
    rcases aZ i ops.size with hi | hi
    ·exact (r2.at i _ (hdef i hi)).1
    ·rw [hout i hi]; exact r2.le
   exact hs.new k ((hk.mono hlo hup).notB hbig)
  ·intro s' σ' M' ι' a' W' hq g1 g2 g3 g4 g5 g6 g7
   obtain ⟨rfl,rfl⟩:=hq
   exact hp M' ι' a' W' g1 (g2.leB base) ⟨g4,g5,by rw [g6,r3],⟨by rw [g7]; exact hs.df.defs,hs.df.old,hs.df.nd⟩,fun k hk=>by rw [g3 k (fun c=>hk c.inB)]; exact hs.new k (fun c=>hk (c.mono r2.le)),hbig⟩
 ·have hj':j < ops.size:=(aX.1 hj).1
  exact hcomp i j _ _ oj hij (hdef i (by omega)) (hdef j hj') (by simpa using hj) (by simpa using hno)
def Q7v (P:Program) (rd:Option Nat) (base:Nat) (ops:Array Oper) (j:Nat) (Φ:AOut->Prop):AOut->Prop
 | .go .normal st'=>RW P rd base ops none j st' Φ
 | _=>False
theorem Q57 {id j:Nat} (hm:P.follows .mixedOrders=true) (hc:cutB ops j=true) (h:RW P rd base (ops.extract 0 j) (some []) 0 st (Q7v P rd base ops j Φ)):WP P rd base (.region id ops true) st Φ:=by
 obtain ⟨fs,ss,st',h1,hcv,h2,h3⟩:=h
 obtain ⟨out,h3,h4⟩:=h3
 refine ⟨out,?_,h4⟩
 simp only [cutB,aE] at hc
 obtain ⟨⟨⟨⟨⟨c1,c2⟩,c3⟩,c4⟩,c5⟩,c6⟩:=hc
 have hj:j < ops.size:=Xk c1
 have hlexB:=Qyw c2
 simp only [Qs6,aE] at c2
 have hdown:=Qqs (ops:=ops) (j:=j) j [j] (fun b hb=>.inl (by simpa using hb)) c4
 have hup:=Qwu (ops:=ops) (j:=j) (ops.size - (j+1)) (j+1) [j] (fun b hb=>.inl (by simpa using hb)) c5
 have hsz:(ops.extract 0 j).size=j:=by simp; omega
 intro B W0 D0 dl M ι a W n Q r hs hr hp
 refine wpIn_region_draw (fun t=>?_)
 have hsch:Region.schedule (P.follows .mixedOrders) ops t=Region.linearise .any ops t:=by
  unfold Region.schedule; rw [aH (by simp [hm])]
 rw [hsch]
 refine wpAnyIn_sound ops.size t _ a _ ?_
 have hA:=Q4m (P:=P) (base:=base) (n:=n) (r:=r) (Q:=fun e a' w'=>e=.normal/\∃M' ι',CM.Grow B M M'/\Inj.leB base ι ι'/\Sim P B W0 D0 dl M' ι' st' a' w') hlexB (by simpa using h1) hcv (by simpa using h2)
  (B:=B) (W0:=W0) (D0:=D0) (dl:=dl) (M:=M) (ι:=ι) (a:=a) ⟨hs.rel.drew,hs.slots,hs.nt,hs.df,hs.new,hs.big⟩ (fun M' ι' a' W' g1 g2 g3=>⟨rfl,M',ι',g1,g2,g3⟩)
 have hpad:Qco ops.size (Array.replicate (ops.extract 0 j).size false)=Array.replicate ops.size false:=by
  unfold Qco
  rw [hsz,Array.size_replicate,Array.replicate_append_replicate,show j+(ops.size - j)=ops.size by omega]
 have hfin:=Q6j (F:=FW r) (n:=n) (P:=P) (ops:=ops) (Q:=Q) (m:=ops.size - j) hj c2.2 c3 (fun i k hi hk hk2=>?_) (fun a' w' hq=>?_) (fun e a' w' he hq=>absurd hq.1 he) (ops.extract 0 j).size (Array.replicate (ops.extract 0 j).size false) _ _ (by simp; omega) (by rw [hpad]; exact fun k ok hk hl=>by simp [Array.getD] at hl) hA
 ·rw [hpad,hsz,show j+(ops.size - j)=ops.size by omega] at hfin
  exact hfin
 ·by_cases e:k=j
  ·subst e; exact hdown i hi
  exact (hdown i hi).trans (hup k (by omega) (by omega))
 obtain ⟨_,M',ι',g1,g2,g3⟩:=hq
 refine Qqh _ j _ a' w' c6 ?_
 exact h3 B W0 D0 dl M' ι' a' w' n Q r g3 (hr.mono g2) (hp.step g1 g2 (List.suffix_refl _))
end
end Go.Ab
