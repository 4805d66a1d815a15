/- Rules. No conditions. -/
import Derived.Test.YtgogkahhifkocaaDoorEng9
import Derived.Test.YtgogkahhifkocaaDoorEng8
set_option linter.all false
namespace Go.Ab
open Go.RowKit
section
variable {P:Program} {rd:Option Nat} {base:Nat} {ops:Array Oper} {d:Option (List Sk)} {st S:St} {Φ:AOut->Prop} {i:Nat}
end
def Qlu {α:Type} (f:α->α):Nat -> List α->List α
 | _,[]=>[]
 | 0,v::vs=>f v::vs
 | n+1,v::vs=>v::Qlu f n vs
def setJ (x:Int):List Nat -> AV->AV
 | [],.int k _=>.int k x
 | i::p,.agg vs=>.agg (Qlu (setJ x p) i vs)
 | i::p,.fz vs=>.fz (Qlu (setJ x p) i vs)
 | _,v=>v
def Qyp (x:Int):List (Nat × List Nat)->List (Nat × AV)->List (Nat × AV)
 | [],s=>s
 | (t,p)::ts,s=>Qyp x ts (match lk s t with | some v=>setS s t (setJ x p v) | none=>s)
def Q7d (x:Int) (p:List Nat):AObj->AObj
 | .row bx ro nr fl w vs=>.row bx ro nr fl w (Qlu (setJ x p) 0 vs)
 | o=>o
def Q22 (x:Int):List (Nat × List Nat)->List AObj->List AObj
 | [],s=>s
 | (o,p)::ts,s=>Q22 x ts (Qlu (Q7d x p) o s)
def pJ (ts:List Nat) (ps os:List (Nat × List Nat)) (x:Int) (st:St):St:=⟨Qyp x ps (Qyp x (ts.map fun t=>(t,[])) st.slots),Q22 x os st.objs,st.nt⟩
section
variable {P:Program} {R:Type} {Ω:R->AOut->Prop} {c:Cf} {A B:Option R}
theorem hqj (n:Nat) (ts:List Nat) (ps os:List (Nat × List Nat)) {x m:Int} (k:x=m->Hl P Ω ((gg P n c).to (pJ ts ps os m (gg P n c).st)) A) (k':x≠m->Hl P Ω (gg P n c) B) (e:(go P n c).isSome=true:=by kernel_rfl) (hS:(gg P n c).st=pJ ts ps os x (gg P n c).st:=by kernel_rfl):Hl P Ω c (if x=m then A else B):=hqi n (fun x=>pJ ts ps os x (gg P n c).st) k k' e hS
end
def Q78:Option Nat -> AV
 | none=>.nilf
 | some g=>.fn (.func g) [] []
theorem mgs {α:Type} {p:Int × α} {r:List (Int × α)} {n:Int} (h:n≠p.1) (h2:Qb2 r n=none):Qb2 (p::r) n=none:=by
 simp only [Qb2,dE,aI h,h2]
section
variable {P:Program} {rd:Option Nat} {base:Nat} {ops:Array Oper} {d:Option (List Sk)} {st S:St} {Φ:AOut->Prop} {i:Nat}
theorem Q68 {α:Type} {enc:α->AV} {kk:IntKind} {l:List (Int × α)} {n:Int} {z:α} {ob:Nat} {c:Bool} (hno:Qb2 l n=none) (hi:Qqi P ops i st=some (ob,.int kk n,c,enc z)) (hrow:st.sto ob=some (Q6t kk enc l)) (hok:∀v,(enc v).okv=true)
  (hS:Ze ops i st (some (if c then .tup [enc z,.bool false] else enc z)) []=some S) (k:RW P rd base ops (Qt d [([],[ob])]) (i+1) S Φ):RW P rd base ops d i st Φ :=
 Q7e hi hrow hok (by rw [hno]; exact hS) k
end
end Go.Ab
namespace Go.Ab
section
variable {P:Program} {base:Nat} {st:St}
noncomputable def Q63 (o w:Nat) (fl:Bool) (n:Nat) {γ:Type} (enc:γ->AV) (st:St):St:=⟨st.slots,st.objs.set o (.refs st.objs.length ((List.replicate n ([]:List γ)).map fun l=>l.map enc))++[.fam w fl ((List.replicate n ([]:List γ)).map fun l=>l.map enc)],st.nt⟩
theorem Q2n (o w:Nat) (fl:Bool) {α γ:Type} {x0:α} (n:Nat) {enc1:α->AV} (enc:γ->AV) {nr0 fl0:Bool} (ho:st.objs[o]?=some (.row false false nr0 fl0 1 ((List.replicate n x0).map enc1)):=by kernel_rfl) (ha:Qhx (enc1 x0)=true:=by kernel_rfl)
  (hw:(Nat.blt 0 w && Nat.blt st.objs.length BIG)=true:=by kernel_rfl):Wk P base st (Q63 o w fl n enc st):=Q6y o w fl enc ho ha hw rfl
noncomputable def Q5a (o j:Nat) {γ:Type} (enc:γ->AV) (ls:List (List γ)) (fl:Bool) (st:St):St:=⟨st.slots,(st.objs.set o (.row false false true false 1 (ls.map fun l=>eL fl enc l))).set j .dead,st.nt⟩
theorem Qoe (o j:Nat) {γ:Type} {enc:γ->AV} {ls:List (List γ)} {w:Nat} {fl:Bool} (ho:st.objs[o]?=some (.refs j (eF enc ls)):=by kernel_rfl) (hj:st.objs[j]?=some (.fam w fl (eF enc ls)):=by kernel_rfl):Wk P base st (Q5a o j enc ls fl st):=Q3r o j ho hj rfl
end
attribute [irreducible] Q63 Q5a
end Go.Ab
namespace Go.Ab
section
variable {P:Program} {rd:Option Nat} {base:Nat} {ops:Array Oper} {d:Option (List Sk)} {i:Nat} {st S:St} {Φ:AOut->Prop}
def Qqj {α:Type}:Int->List α->Int->α->List α
 | _,[],_,_=>[]
 | k,x::xs,n,a=>(if n=k then a else x)::Qqj (k+1) xs n a
theorem Qwf {α:Type}:∀(l:List α) (k n:Int) (a:α),n < k->Qqj k l n a=l
 | [],_,_,_,_=>rfl
 | x::xs,k,n,a,h=>by rw [Qqj,aI (by omega),Qwf xs (k+1) n a (by omega)]
theorem Qwh {α:Type}:∀(l:List α) (k n:Int) (a:α),k<=n->Qqj k l n a=l.set (n - k).toNat a
 | [],_,_,_,_=>rfl
 | x::xs,k,n,a,h=>by
  rw [Qqj]
  by_cases e:n=k
  ·subst e; rw [aH rfl,Qwf xs _ _ _ (by omega),Int.sub_self]; rfl
  rw [aI e,Qwh xs (k+1) n a (by omega),show (n - k).toNat = (n - (k+1)).toNat + 1 by omega]; rfl
def Qwu (P:Program) (ops:Array Oper) (i:Nat) (st:St):Option (Nat × Int × Nat) :=
 match Z5 ops i st with
 | some o=>match o.op with
  | .indexAddr t x ix=>match ti P t,evo (lk st.slots) x,evo (lk st.slots) ix with
   | some T,some (.ptr ob 0 0),some (.int _ n)=>match T.kind with
    | .array N e=>match ti P e with
     | some E=>if E.size=1 then some (ob,n,N) else none
     | none=>none
    | _=>none
   | _,_,_=>none
  | _=>none
 | none=>none
theorem Qq1 {α:Type} {l:List α} {n:Int} {ob:Nat} {a:α} (hi:Qwu P ops i st=some (ob,n,l.length)) (ha:lkI l n=some a) (hS:Ze ops i st (some (.ptr ob 0 n.toNat)) []=some S)
  (k:RW P rd base ops (Qt d [([],[])]) (i+1) S Φ):RW P rd base ops d i st Φ:=by
 obtain ⟨h1,h2,h3⟩:=Zo ha
 unfold Qwu at hi
 split at hi
 ·rename_i o ho
  split at hi
  ·rename_i t x ix hop
   split at hi
   ·rename_i T ob' kk n' hT hx hix
    split at hi
    ·rename_i N e hk
     split at hi
     ·rename_i E hE
      split at hi
      ·rename_i hs
       cases hi
       refine X8 (nf:=false) (v:=some (.ptr ob 0 n.toNat)) (eff:=[]) (fr:=st.objs.length) (rds:=[]) ho ?_ hS (Z6 hS) k
       have hneg:¬ n < 0:=by omega
       unfold Zd
       rw [hop]
       simp only [Zm,aU,eK]
       unfold evalOp
       rw [hop]
       simp only [hT,hx,hix,hk,asN,hneg,eK,hE,blt_true h2,eM,Zu,bM,Zg,hs,Nat.mul_one,dS]
      ·cases hi
     ·cases hi
    ·cases hi
   ·cases hi
  ·cases hi
 ·cases hi
def Qzb (P:Program) (ops:Array Oper) (i:Nat) (st:St) (y:AV):Option St :=
 match Z5 ops i st with
 | some o=>match o.op with
  | .load t _=>match ti P t with
   | some T=>if T.agg then none else Ze ops i st (some y) []
   | none=>none
  | _=>none
 | none=>none
theorem Qx2 {α:Type} {enc:α->AV} {l:List α} {n:Int} {w ob:Nat} {bx ro nr fl:Bool} {a:α} (hp:Ja ops i st=some (ob,0,n.toNat)) (hrow:st.sto ob=some (.row bx ro nr fl w [.agg (l.map enc)])) (ha:lkI l n=some a)
  (hS:Qzb P ops i st (enc a)=some S) (k:RW P rd base ops (Qt d [([],[ob])]) (i+1) S Φ):RW P rd base ops d i st Φ:=by
 obtain ⟨h1,h2,h3⟩:=Zo ha
 unfold Qzb at hS
 split at hS
 ·rename_i o ho
  split at hS
  ·rename_i t x hop
   split at hS
   ·rename_i T hT
    split at hS
    ·cases hS
    ·rename_i hag
     have hx:evo (lk st.slots) x=some (.ptr ob 0 n.toNat):=by
      unfold Ja at hp
      rw [ho] at hp
      simp only [hop] at hp
      split at hp
      ·rename_i hx; cases hp; exact hx
      cases hp
     refine X8 (nf:=false) (v:=some (enc a)) (eff:=[]) (fr:=st.objs.length) (rds:=[ob]) ho ?_ hS (Z6 hS) k
     have hv:Qad T ((AV.agg (l.map enc)).flat.drop n.toNat)=some (enc a):=by
      show (if T.agg then _ else ((l.map enc).drop n.toNat).head?)=some (enc a)
      rw [aI hag,List.head?_drop,bF,h3]; rfl
     unfold Zd
     rw [hop]
     simp only [Zm,aU,eK]
     unfold evalOp
     rw [hop]
     simp only [hT,hx,hrow,eO,hv,bM,Zg]
   ·cases hS
  ·cases hS
 ·cases hS
theorem Qs9 {α:Type} {enc:α->AV} {l:List α} {n:Int} {w ob:Nat} {bx nr fl:Bool} {a a':α} (nf:Bool) (hp:Ja ops i st=some (ob,0,n.toNat)) (hrow:st.sto ob=some (.row bx false nr fl w [.agg (l.map enc)])) (ha:lkI l n=some a)
  (hv:Qb9 P ops i st=some (enc a')) (hk:(bx || nf || (enc a').nr)=true) (hf:(enc a').flat = [enc a'])
  (hS:Ze ops i st none [(ob,.row bx false (nr && (enc a').nr) (fl && (enc a').scs) w [.agg ((Qqj 0 l n a').map enc)])]=some S) (hl:Nat.beq S.objs.length st.objs.length=true) (k:RW P rd base ops (Qt d [([ob],[ob])]) (i+1) S Φ):RW P rd base ops d i st Φ:=by
 obtain ⟨h1,h2,h3⟩:=Zo ha
 obtain ⟨o,t,x,y,T,ho,hop,hT,hx,hy,hc⟩:=Jo hp hv
 rw [Qwh l 0 n a' h1,Int.sub_zero] at hS
 refine X8 (nf:=nf) (fr:=st.objs.length) (rds:=[ob]) ho ?_ hS (aJ hl) k
 have hput:Kw (.agg (l.map enc)) n.toNat (enc a')=some (.agg ((l.set n.toNat a').map enc)):=by
  show (if n.toNat + (enc a').flat.length<=(l.map enc).length then some (AV.agg ((l.map enc).take n.toNat ++ (enc a').flat ++ (l.map enc).drop (n.toNat + (enc a').flat.length))) else none)=_
  rw [hf,aH (by simp; omega),List.map_set,List.set_eq_take_append_cons_drop,aH (by simpa using h2)]
  simp
 unfold Zd
 rw [hop]
 simp only [Zm,aU,eK]
 unfold evalOp
 rw [hop]
 simp only [hT,hx,hy,hrow,eO,hc,eM,hk,hput,frz,Qay,List.contains_nil,aU,eK,cW,Zg,List.set_cons_zero]
end
end Go.Ab
