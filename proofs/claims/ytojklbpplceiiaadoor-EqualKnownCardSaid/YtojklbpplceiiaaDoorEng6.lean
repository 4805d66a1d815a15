/- Rules on plain values. No conditions. -/
import Derived.Test.YtojklbpplceiiaaDoorEng5
import Derived.RowKit3
import Derived.ChangeSame
import Derived.ChangeArms
import Derived.OpenShut
import Derived.WideKeyArgs
import Derived.KernelRfl
set_option linter.all false
namespace Go.Ab
open Go.RowKit
def lkI {α:Type} (l:List α) (n:Int):Option α:=if n < 0 then none else l[n.toNat]?
inductive Qm (σ ρ:Type) where
 | next (s:σ)
 | done (x:ρ)
def Qe {σ ρ:Type}:Nat → (σ→Option (Qm σ ρ))→σ→Option ρ
 | 0,_,_=>none
 | n+1,body,s=>match body s with
  | some (.next s')=>Qe n body s'
  | some (.done x)=>some x
  | none=>none
def fuel:Nat := 1152921504606846976
abbrev eL {α:Type} (fl:Bool) (enc:α→AV) (l:List α):AV:=.lst fl (l.map enc)
theorem Qgx {α:Type} {l:List α} {n:Int} {a:α} (h:lkI l n=some a):0≤n∧n.toNat < l.length∧l[n.toNat]?=some a:=by
 unfold lkI at h
 split at h
 ·cases h
 ·rename_i hn; exact ⟨by omega,(List.getElem?_eq_some_iff.1 h).1,h⟩
section
variable {P:Program} {rd:Option Nat} {base:Nat} {ops:Array Oper} {st st1 st' S:St} {o:Oper} {F:Foot} {out:AOut} {Φ:AOut→Prop} {d:Option (List Sk)} {i:Nat} {nf:Bool}
noncomputable abbrev St.sto (st:St):Sto:=Ab.sto st.objs
def Z5 (ops:Array Oper) (i:Nat) (st:St):Option Oper :=
 match ops[i]? with
 | some o=>match Z8 ops (lk st.slots) o with
  | some true=>some o
  | _=>none
 | none=>none
def Xn (ops:Array Oper) (i:Nat) (st:St) (v:Option AV) (eff:List (Nat × AObj)):Option St :=
 match ops[i]? with
 | some o=>match Zk st.objs eff,X0 st.slots st.nt o.dst v with
  | some objs,some slots=>some ⟨slots,objs,st.nt⟩
  | _,_=>none
 | none=>none
theorem Va (h:Z5 ops i st=some o):ops[i]?=some o∧Z8 ops (lk st.slots) o=some true:=by
 unfold Z5 at h
 split at h
 ·rename_i o' ho
  split at h
  ·rename_i hw; cases h; exact ⟨ho,hw⟩
  ·cases h
 ·cases h
theorem Qqo {v:Option AV} {eff:List (Nat × AObj)} {fr:Nat} {rds:List Nat} (ho:Z5 ops i st=some o) (he:Zx P nf noC st.sto st.objs.length (lk st.slots) o=some (.val ⟨v,eff,fr,rds⟩))
  (hS:Xn ops i st v eff=some S) (hl:S.objs.length=fr):Qrp P ops i st (eff.map (·.1),rds) S:=by
 obtain ⟨h1,h2⟩:=Va ho
 unfold Xn at hS
 rw [h1] at hS
 simp only at hS
 split at hS
 ·rename_i objs slots ha hp
  cases hS
  exact ⟨o,_,h1,Qh8 Ku h2 he ha hp hl,Qgd _⟩
 ·cases hS
theorem Qq5 {v:Option AV} {eff:List (Nat × AObj)} (hS:Xn ops i st v eff=some S):∃objs,Zk st.objs eff=some objs∧S.objs=objs:=by
 unfold Xn at hS
 split at hS
 ·split at hS
  ·rename_i objs slots ha hp; cases hS; exact ⟨objs,ha,rfl⟩
  ·cases hS
 ·cases hS
theorem X8 {v:Option AV} (hS:Xn ops i st v []=some S):S.objs.length=st.objs.length:=by
 obtain ⟨objs,ha,he⟩:=Qq5 hS
 simp only [Zk,Option.some.injEq] at ha
 rw [he,←ha]
theorem Vy {v:Option AV} {eff:List (Nat × AObj)} {fr:Nat} {rds:List Nat} (ho:Z5 ops i st=some o) (he:Zx P nf noC st.sto st.objs.length (lk st.slots) o=some (.val ⟨v,eff,fr,rds⟩))
  (hS:Xn ops i st v eff=some S) (hl:S.objs.length=fr) (k:RW P rd base ops (Zg d [(eff.map (·.1),rds)]) (i+1) S Φ):RW P rd base ops d i st Φ:=Qbb (Qqo ho he hS hl) k
def Qhe (P:Program) (ops:Array Oper) (i:Nat) (st:St):Option (AV × Int × Nat) :=
 match Z5 ops i st with
 | some o=>match o.op with
  | .indexAddr t x ix=>match ti P t,evo (lk st.slots) x,evo (lk st.slots) ix with
   | some T,some a,some (.int _ n)=>match T.kind with
    | .slice e=>match ti P e with
     | some E=>some (a,n,E.size)
     | none=>none
    | _=>none
   | _,_,_=>none
  | _=>none
 | none=>none
theorem Qfy {a:AV} {n:Int} {w:Nat} (h:Qhe P ops i st=some (a,n,w)):∃o t x ix k T e E,Z5 ops i st=some o∧o.op=.indexAddr t x ix∧ti P t=some T∧T.kind=.slice e∧ti P e=some E∧E.size=w ∧
  evo (lk st.slots) x=some a∧evo (lk st.slots) ix=some (.int k n):=by
 unfold Qhe at h
 split at h
 ·rename_i o ho
  split at h
  ·rename_i t x ix hop
   split at h
   ·rename_i T a' k n' hT hx hix
    split at h
    ·rename_i e hk
     split at h
     ·rename_i E hE
      cases h
      exact ⟨o,t,x,ix,k,T,e,E,ho,hop,hT,hk,hE,rfl,hx,hix⟩
     ·cases h
    ·cases h
   ·cases h
  ·cases h
 ·cases h
theorem Z0 {α:Type} {enc:α→AV} {l:List α} {n:Int} {w:Nat} {fl:Bool} {a:α} (hi:Qhe P ops i st=some (.lst fl (l.map enc),n,w)) (hw:Nat.beq (enc a).flat.length w=true)
  (hS:Xn ops i st (some (.fz (enc a).flat)) []=some S) (ha:lkI l n=some a) (k:RW P rd base ops (Zg d [([],[])]) (i+1) S Φ):RW P rd base ops d i st Φ:=by
 obtain ⟨o,t,x,ix,kk,T,e,E,ho,hop,hT,hk,hE,rfl,hx,hix⟩:=Qfy hi
 obtain ⟨h1,h2,h3⟩:=Qgx ha
 have hw:=Nat.eq_of_beq_eq_true hw
 refine Vy (nf:=false) (v:=some (.fz (enc a).flat)) (eff:=[]) (fr:=st.objs.length) (rds:=[]) ho ?_ hS (X8 hS) k
 have hneg:¬ n < 0:=by omega
 unfold Zx
 rw [hop]
 simp only [Xy,Bool.false_eq_true,if_false]
 unfold evalOp
 rw [hop]
 simp only [hT,hx,hix,hk,asN,hneg,if_false,hE,List.getElem?_map,h3,Option.map_some,hw,if_true,Zl,Xm]
theorem Qln {a b:Nat} (h:a < b):Nat.blt a b=true:=by simp only [Nat.blt]; exact Nat.ble_eq_true_of_le h
theorem Qh6 {a b:Nat} (h:a≤b):Nat.ble a b=true:=Nat.ble_eq_true_of_le h
theorem X9 {α:Type} {enc:α→AV} {l:List α} {n:Int} {w:Nat} {ro nr fl:Bool} {ob:Nat} {a:α} (hi:Qhe P ops i st=some (.ref ob 0 l.length,n,w)) (hrow:st.sto ob=some (.row false ro nr fl w (l.map enc)))
  (hS:Xn ops i st (some (.ptr ob n.toNat 0)) []=some S) (ha:lkI l n=some a) (k:RW P rd base ops (Zg d [([],[ob])]) (i+1) S Φ):RW P rd base ops d i st Φ:=by
 obtain ⟨o,t,x,ix,kk,T,e,E,ho,hop,hT,hk,hE,rfl,hx,hix⟩:=Qfy hi
 obtain ⟨h1,h2,h3⟩:=Qgx ha
 refine Vy (nf:=false) (v:=some (.ptr ob n.toNat 0)) (eff:=[]) (fr:=st.objs.length) (rds:=[ob]) ho ?_ hS (X8 hS) k
 have hneg:¬ n < 0:=by omega
 unfold Zx
 rw [hop]
 simp only [Xy,Bool.false_eq_true,if_false]
 unfold evalOp
 rw [hop]
 simp only [hT,hx,hix,hk,asN,hneg,if_false,hE,hrow,Qln h2,Bool.true_and,decide_true,if_true,Xm,Nat.zero_add]
def Qit (ops:Array Oper) (i:Nat) (st:St):Option (Nat × Nat × Nat) :=
 match Z5 ops i st with
 | some o=>match (match o.op with | .load _ x=>evo (lk st.slots) x | .store _ x _=>evo (lk st.slots) x | _=>none) with
  | some (.ptr ob j c)=>some (ob,j,c)
  | _=>none
 | none=>none
def Qpm (P:Program) (ops:Array Oper) (i:Nat) (st:St) (c:Nat) (y:AV):Option St :=
 match Z5 ops i st with
 | some o=>match o.op with
  | .load t _=>match ti P t with
   | some T=>match Vk T (y.flat.drop c) with
    | some v=>Xn ops i st (some v) []
    | none=>none
   | none=>none
  | _=>none
 | none=>none
theorem V2 {α:Type} {enc:α→AV} {l:List α} {n:Int} {w ob c:Nat} {bx ro nr fl:Bool} {a:α} (hp:Qit ops i st=some (ob,n.toNat,c)) (hrow:st.sto ob=some (.row bx ro nr fl w (l.map enc))) (ha:lkI l n=some a)
  (hS:Qpm P ops i st c (enc a)=some S) (k:RW P rd base ops (Zg d [([],[ob])]) (i+1) S Φ):RW P rd base ops d i st Φ:=by
 obtain ⟨h1,h2,h3⟩:=Qgx ha
 unfold Qpm at hS
 split at hS
 ·rename_i o ho
  split at hS
  ·rename_i t x hop
   split at hS
   ·rename_i T hT
    split at hS
    ·rename_i v hv
     have hx:evo (lk st.slots) x=some (.ptr ob n.toNat c):=by
      unfold Qit at hp
      rw [ho] at hp
      simp only [hop] at hp
      split at hp
      ·rename_i hx; cases hp; exact hx
      ·cases hp
     refine Vy (nf:=false) (v:=some v) (eff:=[]) (fr:=st.objs.length) (rds:=[ob]) ho ?_ hS (X8 hS) k
     unfold Zx
     rw [hop]
     simp only [Xy,Bool.false_eq_true,if_false]
     unfold evalOp
     rw [hop]
     simp only [hT,hx,hrow,List.getElem?_map,h3,Option.map_some,hv,Xm]
    ·cases hS
   ·cases hS
  ·cases hS
 ·cases hS
def Qmi (P:Program) (ops:Array Oper) (i:Nat) (st:St):Option AV :=
 match Z5 ops i st with
 | some o=>match o.op with
  | .store t _ y=>match ti P t,evo (lk st.slots) y with
   | some T,some v=>if v.okv && Nat.beq v.flat.length T.size then some v else none
   | _,_=>none
  | _=>none
 | none=>none
theorem Qm5 {v:AV} {ob j c:Nat} (hp:Qit ops i st=some (ob,j,c)) (hv:Qmi P ops i st=some v):∃o t x y T,Z5 ops i st=some o∧o.op=.store t x y∧ti P t=some T∧evo (lk st.slots) x=some (.ptr ob j c)∧evo (lk st.slots) y=some v ∧
  (v.okv && Nat.beq v.flat.length T.size)=true:=by
 unfold Qmi at hv
 split at hv
 ·rename_i o ho
  split at hv
  ·rename_i t x y hop
   split at hv
   ·rename_i T v' hT hy
    split at hv
    ·rename_i hc
     cases hv
     refine ⟨o,t,x,y,T,ho,hop,hT,?_,hy,hc⟩
     unfold Qit at hp
     rw [ho] at hp
     simp only [hop] at hp
     split at hp
     ·rename_i hx; cases hp; exact hx
     ·cases hp
    ·cases hv
   ·cases hv
  ·cases hv
 ·cases hv
theorem Qfr {α:Type} {enc:α→AV} {l:List α} {n:Int} {w ob c:Nat} {bx nr fl:Bool} {a a':α} {v:AV} (nf:Bool) (hp:Qit ops i st=some (ob,n.toNat,c)) (hrow:st.sto ob=some (.row bx false nr fl w (l.map enc))) (ha:lkI l n=some a)
  (hv:Qmi P ops i st=some v) (hk:(bx || nf || v.nr)=true) (hput:Qhj (enc a) c v=some (enc a'))
  (hS:Xn ops i st none [(ob,.row bx false (nr && v.nr) (fl && v.scs) w ((l.set n.toNat a').map enc))]=some S) (hl:Nat.beq S.objs.length st.objs.length=true) (k:RW P rd base ops (Zg d [([ob],[ob])]) (i+1) S Φ):RW P rd base ops d i st Φ:=by
 obtain ⟨h1,h2,h3⟩:=Qgx ha
 obtain ⟨o,t,x,y,T,ho,hop,hT,hx,hy,hc⟩:=Qm5 hp hv
 refine Vy (nf:=nf) (fr:=st.objs.length) (rds:=[ob]) ho ?_ hS (Nat.eq_of_beq_eq_true hl) k
 unfold Zx
 rw [hop]
 simp only [Xy,Bool.false_eq_true,if_false]
 unfold evalOp
 rw [hop]
 simp only [hT,hx,hy,hrow,List.getElem?_map,h3,Option.map_some,hc,if_true,hk,hput,frz,Qcz,List.contains_nil,Bool.false_eq_true,if_false,List.nil_append,Xm,List.map_set]
def Qnu (P:Program) (ops:Array Oper) (i:Nat) (st:St):Option AV :=
 match Z5 ops i st with
 | some o=>match o.op with
  | .call { callee:=.builtin .len,args,argTypes }=>match args.toList,argTypes.toList with
   | [x],t::_=>match ti P t with
    | some T=>match T.kind with
     | .slice _=>evo (lk st.slots) x
     | _=>none
    | none=>none
   | _,_=>none
  | _=>none
 | none=>none
theorem Q3 {α:Type} {enc:α→AV} {l:List α} {fl:Bool} (hi:Qnu P ops i st=some (.lst fl (l.map enc))) (hS:Xn ops i st (some (.int .i64 (l.length:Int))) []=some S) (k:RW P rd base ops (Zg d [([],[])]) (i+1) S Φ):RW P rd base ops d i st Φ:=by
 unfold Qnu at hi
 split at hi
 ·rename_i o ho
  split at hi
  ·rename_i args ts hop
   split at hi
   ·rename_i x t tr ha ht
    split at hi
    ·rename_i T hT
     split at hi
     ·rename_i e hk
      refine Vy (nf:=false) (v:=some (.int .i64 (l.length:Int))) (eff:=[]) (fr:=st.objs.length) (rds:=[]) ho ?_ hS (X8 hS) k
      unfold Zx
      rw [hop]
      simp only [Xy,Bool.false_eq_true,if_false]
      unfold evalOp
      rw [hop]
      simp only [Qlg,ha,ht,hT,hi,hk,Zl,Xm,Option.map_some,List.length_map]
     ·cases hi
    ·cases hi
   ·cases hi
  ·cases hi
 ·cases hi
def Qjn (P:Program) (ops:Array Oper) (i:Nat) (st:St):Option (AV × AV × Nat × Nat) :=
 match Z5 ops i st with
 | some o=>match o.op with
  | .call { callee:=.builtin .append,args,argTypes }=>match args.toList,argTypes.toList with
   | [x,y],t::u::_=>match ti P t,ti P u,evo (lk st.slots) x,evo (lk st.slots) y with
    | some T,some _,some a,some b=>if !Nat.beq t u then none else match T.kind with
     | .slice e=>match ti P e with
      | some E=>if E.zok && Nat.blt 0 E.bytes && Nat.blt 0 E.size then some (a,b,E.size,E.bytes) else none
      | none=>none
     | _=>none
    | _,_,_,_=>none
   | _,_=>none
  | _=>none
 | none=>none
theorem Qmd {a b:AV} {w bytes:Nat} (hi:Qjn P ops i st=some (a,b,w,bytes)):∃o E,Z5 ops i st=some o∧Xy o.op=false∧E.size=w∧E.bytes=bytes∧E.zok=true∧0 < bytes∧0 < w ∧
  ∀nf ys nr fl rds r,Yz st.sto w b=some (ys,nr,fl,rds)→(nr || nf)=true→absAppend st.sto st.objs.length E a ys nr fl=some r→Zx P nf noC st.sto st.objs.length (lk st.slots) o=some (.val { r with rd:=rds++r.rd }):=by
 unfold Qjn at hi
 split at hi
 ·rename_i o ho
  split at hi
  ·rename_i args ts hop
   split at hi
   ·rename_i x y t u tr ha ht
    split at hi
    ·rename_i T U a' b' hT hU hx hy
     split at hi
     ·cases hi
     ·rename_i htu
      split at hi
      ·rename_i e hk
       split at hi
       ·rename_i E hE
        split at hi
        ·rename_i hc
         simp only [Bool.and_eq_true] at hc
         cases hi
         refine ⟨o,E,ho,by rw [hop]; rfl,rfl,rfl,hc.1.1,Xd hc.1.2,Xd hc.2,?_⟩
         intro nf ys nr fl rds r hel hn hr
         have htu':((!Nat.beq t u)=true)=False:=by simpa using htu
         unfold Zx
         rw [hop]
         simp only [Xy,Bool.false_eq_true,if_false]
         unfold evalOp
         rw [hop]
         simp only [V8,ha,ht,hT,hU,hx,hy,htu',if_false,hk,hE,hel,hn,if_true,hr,Option.map_some,Xm]
        ·cases hi
       ·cases hi
      ·cases hi
    ·cases hi
   ·cases hi
  ·cases hi
 ·cases hi
theorem Qiv {bytes n:Nat} (h0:0 < bytes) (h:n*bytes≤140737488355328):Xv bytes n=true:=by
 simp [Xv,Qln h0,Qh6 h]
theorem Qgf {α R:Type} {enc:α→AV} {l m:List α} {w bytes ob:Nat} {nr fl nr' fl':Bool} {b:AV} {rds:List Nat} {A:Option R} {r:R} (nf:Bool) (hi:Qjn P ops i st=some (.ref ob 0 l.length,b,w,bytes)) (hrow:st.sto ob=some (.row false false nr fl w (l.map enc)))
  (hel:Yz st.sto w b=some (m.map enc,nr',fl',rds)) (hn:(nr' || nf)=true)
  (hS:Xn ops i st (some (.ref st.objs.length 0 (l++m).length)) [(ob,.dead),(st.objs.length,.row false false (nr && nr') (fl && fl') w ((l++m).map enc))]=some S) (hl:Nat.beq S.objs.length (st.objs.length+1)=true)
  (h:(if (l++m).length*bytes≤140737488355328 then A else none)=some r) (k:A=some r→RW P rd base ops (Zg d [([ob,st.objs.length],rds++[ob])]) (i+1) S Φ):RW P rd base ops d i st Φ:=by
 split at h
 ·rename_i hroom
  obtain ⟨o,E,ho,hm,rfl,rfl,hz,hb0,hw0,hev⟩:=Qmd hi
  refine Vy (nf:=nf) ho (hev nf _ _ _ _ ⟨some (.ref st.objs.length 0 (l++m).length),[(ob,.dead),(st.objs.length,.row false false (nr && nr') (fl && fl') E.size ((l++m).map enc))],st.objs.length+1,[ob]⟩ hel hn ?_) hS (Nat.eq_of_beq_eq_true hl) (k h)
  have h1:Nat.beq (0+l.length) l.length=true:=by simp
  have h2:Nat.ble (0+l.length) l.length=true:=by simp
  have h3:Xv E.bytes (l.length+m.length)=true:=by
   refine Qiv hb0 ?_
   rw [←List.length_append]; exact hroom
  simp only [absAppend,hrow,Nat.beq_refl,h1,h2,hz,h3,Bool.and_self,if_true,List.drop_zero,List.map_append,List.length_append,List.length_map]
 ·cases h
def Qph (P:Program) (ops:Array Oper) (i:Nat) (st:St):Option (Int × Int × AV × Nat × Nat) :=
 match Z5 ops i st with
 | some o=>match o.op with
  | .makeSlice t x y=>match ti P t,evo (lk st.slots) x,evo (lk st.slots) y with
   | some T,some (.int _ n),some (.int _ m)=>match T.kind with
    | .slice e=>match ti P e with
     | some E=>match E.zero with
      | some z=>if Nat.beq z.flat.length E.size && Nat.blt 0 E.size && Nat.blt 0 E.bytes then some (n,m,z,E.size,E.bytes) else none
      | none=>none
     | none=>none
    | _=>none
   | _,_,_=>none
  | _=>none
 | none=>none
def Qg8 (ops:Array Oper) (i:Nat) (st:St):Option (BinOp × IntKind × Int × IntKind × Int) :=
 match Z5 ops i st with
 | some o=>match o.op with
  | .binOp op _ x y _=>match evo (lk st.slots) x,evo (lk st.slots) y with
   | some (.int k a),some (.int k' b)=>some (op,k,a,k',b)
   | _,_=>none
  | _=>none
 | none=>none
theorem Qgb {op:BinOp} {k k':IntKind} {a b:Int} (hi:Qg8 ops i st=some (op,k,a,k',b)):∃o t x y t2,Z5 ops i st=some o∧o.op=.binOp op t x y t2∧evo (lk st.slots) x=some (.int k a)∧evo (lk st.slots) y=some (.int k' b):=by
 unfold Qg8 at hi
 split at hi
 ·rename_i o ho
  split at hi
  ·rename_i op' t x y t2 hop
   split at hi
   ·rename_i k1 a1 k2 b1 hx hy
    cases hi
    exact ⟨o,t,x,y,t2,ho,hop,hx,hy⟩
   ·cases hi
  ·cases hi
 ·cases hi
theorem Qh {R:Type} {k k':IntKind} {a b:Int} {A:Option R} {r:R} (hi:Qg8 ops i st=some (.shl,k,a,k',b)) (hS:Xn ops i st (some (.int k (k.wrap (a*2^min b.toNat k.bits)))) []=some S) (h:(if 0≤b then A else none)=some r)
  (kk:A=some r→RW P rd base ops (Zg d [([],[])]) (i+1) S Φ):RW P rd base ops d i st Φ:=by
 split at h
 ·rename_i hb
  obtain ⟨o,t,x,y,t2,ho,hop,hx,hy⟩:=Qgb hi
  refine Vy (nf:=false) (v:=some (.int k (k.wrap (a*2^min b.toNat k.bits)))) (eff:=[]) (fr:=st.objs.length) (rds:=[]) ho ?_ hS (X8 hS) (kk h)
  have hb':¬ b < 0:=by omega
  unfold Zx
  rw [hop]
  simp only [Xy,Bool.false_eq_true,if_false]
  unfold evalOp
  rw [hop]
  simp only [hx,hy,Qi7,hb',if_false,Zl,Option.map_some,Xm]
 ·cases h
theorem Zz {R:Type} {k k':IntKind} {a b:Int} {A:Option R} {r:R} (hi:Qg8 ops i st=some (.shr,k,a,k',b)) (hS:Xn ops i st (some (.int k (a.fdiv (2^min b.toNat k.bits)))) []=some S) (h:(if 0≤b then A else none)=some r)
  (kk:A=some r→RW P rd base ops (Zg d [([],[])]) (i+1) S Φ):RW P rd base ops d i st Φ:=by
 split at h
 ·rename_i hb
  obtain ⟨o,t,x,y,t2,ho,hop,hx,hy⟩:=Qgb hi
  refine Vy (nf:=false) (v:=some (.int k (a.fdiv (2^min b.toNat k.bits)))) (eff:=[]) (fr:=st.objs.length) (rds:=[]) ho ?_ hS (X8 hS) (kk h)
  have hb':¬ b < 0:=by omega
  unfold Zx
  rw [hop]
  simp only [Xy,Bool.false_eq_true,if_false]
  unfold evalOp
  rw [hop]
  simp only [hx,hy,Qi7,hb',if_false,Zl,Option.map_some,Xm]
 ·cases h
end
end Go.Ab
namespace Go.Ab
open Go.RowKit
inductive LK where
 | keep | lst (fl:Bool) | emp
def LK.ap:LK→AV→AV
 | .keep,x=>x
 | .lst fl,x=>match x with
  | .nils | .emp=>.lst fl []
  | .lst f xs=>.lst (f && fl) xs
  | x=>x
 | .emp,x=>match x with
  | .nils=>.emp
  | x=>x
def K7:List LK→List AV→List AV
 | h::hs,x::xs=>h.ap x::K7 hs xs
 | _,xs=>xs
def Qr (hs:List LK):AV→AV
 | .agg cs=>.agg (K7 hs cs)
 | x=>match hs with
  | h::_=>h.ap x
  | []=>x
def Qc3:List (List LK)→List AV→List AV
 | h::hs,x::xs=>Qr h x::Qc3 hs xs
 | _,xs=>xs
def Qa0 (hss:List (List LK)):AV→AV
 | .tup vs=>.tup (Qc3 hss vs)
 | x=>match hss with
  | h::_=>Qr h x
  | []=>x
theorem LK.ap_rep {M:CM} {ι:Inj} {v:Value} {x:AV} (h:LK) (hr:Qa M ι v x):Qa M ι v (h.ap x):=by
 cases h with
 | keep=>exact hr
 | emp =>
  cases x <;> simp only [LK.ap] <;> first | exact hr | (cases hr; exact .emp _)
 | lst fl =>
  cases x with
  | nils=>cases hr; exact .lst0 _ _
  | emp=>cases hr; exact .lst0 _ _
  | lst f xs =>
   cases hr with
   | lst0=>exact .lst0 _ _
   | lst b off cap w _ _ g hcap hfl hc hM hr =>
    exact .lst b off cap w _ xs g hcap (fun h=>hfl (by simp at h; exact h.1)) hc hM hr
  | _=>exact hr
theorem LK.ap_cell (h:LK) (x:AV):(h.ap x).cell=x.cell:=by
 cases h <;> cases x <;> rfl
theorem LK.ap_sc (h:LK) {x:AV} (hs:x.sc=true):(h.ap x).sc=true:=by
 cases h <;> cases x <;> first | exact hs | rfl
theorem LK.ap_nr (h:LK) {x:AV} (hs:x.nr=true):(h.ap x).nr=true:=by
 cases h <;> cases x <;> first | exact hs | rfl
theorem Qc2:∀(hs:List LK) (xs:List AV),(K7 hs xs).length=xs.length
 | [],xs=>by cases xs <;> rfl
 | h::hs,[]=>rfl
 | h::hs,x::xs=>by simp [K7,Qc2 hs xs]
theorem Qdb : ∀(hs:List LK) (xs:List AV) (j:Nat) (y:AV),(K7 hs xs)[j]?=some y→∃h x,xs[j]?=some x∧y=LK.ap h x
 | [],xs,j,y,hj=>⟨.keep,y,by cases xs <;> simpa [K7] using hj,rfl⟩
 | h::hs,[],j,y,hj=>by simp [K7] at hj
 | h::hs,x::xs,0,y,hj=>by simp only [K7,List.getElem?_cons_zero,Option.some.injEq] at hj; exact ⟨h,x,rfl,hj.symm⟩
 | h::hs,x::xs,j+1,y,hj=>by
  simp only [K7,List.getElem?_cons_succ] at hj
  obtain ⟨h',x',e1,e2⟩:=Qdb hs xs j y hj
  exact ⟨h',x',by simpa using e1,e2⟩
theorem Qe4 {hs:List LK} {xs:List AV} {y:AV} (hy:y∈K7 hs xs):∃h x,x∈xs∧y=LK.ap h x:=by
 obtain ⟨j,hj,rfl⟩:=List.mem_iff_getElem.1 hy
 obtain ⟨h,x,e1,e2⟩:=Qdb hs xs j _ (List.getElem?_eq_getElem hj)
 exact ⟨h,x,List.mem_of_getElem? e1,e2⟩
theorem Kn {M:CM} {ι:Inj} {v:Value} {x:AV} (hs:List LK) (hr:Qa M ι v x):Qa M ι v (Qr hs x):=by
 cases x
 case agg cs =>
  simp only [Qr]
  cases hr with
  | agg cs' _ h hc hr =>
   refine .agg cs' _ (by rw [Qc2]; exact h) (fun y hy=>?_) (fun j v y hv hy=>?_)
   ·obtain ⟨h',x,hx,rfl⟩:=Qe4 hy; rw [LK.ap_cell]; exact hc x hx
   ·obtain ⟨h',x,hx,rfl⟩:=Qdb hs cs j y hy; exact LK.ap_rep h' (hr j v x hv hx)
 all_goals (cases hs <;> simp only [Qr] <;> first | exact hr | exact LK.ap_rep _ hr)
theorem Qj0 : ∀(hs:List (List LK)) (xs:List AV) (j:Nat) (y:AV),(Qc3 hs xs)[j]?=some y→∃h x,xs[j]?=some x∧y=Qr h x
 | [],xs,j,y,hj=>⟨[],y,by cases xs <;> simpa [Qc3] using hj,by cases y <;> rfl⟩
 | h::hs,[],j,y,hj=>by simp [Qc3] at hj
 | h::hs,x::xs,0,y,hj=>by simp only [Qc3,List.getElem?_cons_zero,Option.some.injEq] at hj; exact ⟨h,x,rfl,hj.symm⟩
 | h::hs,x::xs,j+1,y,hj=>by
  simp only [Qc3,List.getElem?_cons_succ] at hj
  obtain ⟨h',x',e1,e2⟩:=Qj0 hs xs j y hj
  exact ⟨h',x',by simpa using e1,e2⟩
theorem Qc5:∀(hs:List (List LK)) (xs:List AV),(Qc3 hs xs).length=xs.length
 | [],xs=>by cases xs <;> rfl
 | h::hs,[]=>rfl
 | h::hs,x::xs=>by simp [Qc3,Qc5 hs xs]
theorem Qnc {M:CM} {ι:Inj} {v:Value} {x:AV} (hs:List (List LK)) (hr:Qa M ι v x):Qa M ι v (Qa0 hs x):=by
 cases x
 case tup vs =>
  simp only [Qa0]
  cases hr with
  | tup vs' _ h hr =>
   refine .tup vs' _ (by rw [Qc5]; exact h) (fun j v y hv hy=>?_)
   obtain ⟨h',x,hx,rfl⟩:=Qj0 hs vs j y hy; exact Kn h' (hr j v x hv hx)
 all_goals (cases hs <;> simp only [Qa0] <;> first | exact hr | exact Kn _ hr)
theorem J1 (hs:List LK) {x:AV} (hx:x=.agg x.flat ∨ x.cell=true):∃hs',(Qr hs x).flat = K7 hs' x.flat ∧ (Qr hs x=.agg (Qr hs x).flat ∨ (Qr hs x).cell=true):=by
 rcases hx with e | e
 ·generalize hf:x.flat = cs at e
  subst e
  exact ⟨hs,rfl,.inl rfl⟩
 ·have hf:=AV.flat_cell e
  rw [hf]
  cases hs with
  | nil=>exact ⟨[],by cases x <;> simp_all [Qr,K7,AV.cell,AV.flat],.inr (by cases x <;> simp_all [Qr,AV.cell])⟩
  | cons h r =>
   have hl:Qr (h::r) x=h.ap x:=by cases x <;> simp_all [Qr,AV.cell]
   have hc:(h.ap x).cell=true:=by rw [LK.ap_cell]; exact e
   exact ⟨[h],by rw [hl,AV.flat_cell hc]; rfl,.inr (by rw [hl]; exact hc)⟩
theorem Qds (hs:List LK) {x:AV} {w:Nat} (h:x.shaped w):(Qr hs x).shaped w:=by
 obtain ⟨hs',e1,e2⟩:=J1 hs h.form
 refine ⟨e2,by rw [e1,Qc2]; exact h.len,fun y hy=>?_⟩
 rw [e1] at hy
 obtain ⟨h',z,hz,rfl⟩:=Qe4 hy
 rw [LK.ap_cell]; exact h.cells z hz
theorem Qoe (hs:List LK) {x:AV} (h:x.nr=true):(Qr hs x).nr=true:=by
 cases x
 case agg cs =>
  simp only [Qr,AV.nr,Ql] at h ⊢
  intro y hy
  obtain ⟨h',z,hz,rfl⟩:=Qe4 hy
  exact LK.ap_nr h' (h z hz)
 all_goals (cases hs <;> simp only [Qr] <;> first | exact h | exact LK.ap_nr _ h)
theorem Qnl (hs:List LK) {x:AV} {w:Nat} (hx:x.shaped w) (h:x.scs=true):(Qr hs x).scs=true:=by
 obtain ⟨hs',e1,e2⟩:=J1 hs hx.form
 rw [Ja] at *
 rw [e1]
 intro y hy
 obtain ⟨h',z,hz,rfl⟩:=Qe4 hy
 exact LK.ap_sc h' (h z hz)
section
variable {P:Program} {B:Nat} {W0 W:World} {D:List Nat} {M:CM} {ι:Inj} {σ:Sto}
theorem Rel.lessRow (h:Rel P B W0 D M ι σ W) {o:Nat} {bx ro nr fl nr' fl':Bool} {w:Nat} {xs xs':List AV} (hσ:σ o=some (.row bx ro nr fl w xs)) (hl:xs'.length=xs.length)
  (hx:∀(i:Nat) (x x':AV),xs[i]?=some x→xs'[i]?=some x'→∃hs,x'=Qr hs x) (hnr:nr'=true→AV.nrL xs'=true) (hfl:fl'=true→∀x∈xs',AV.scs x=true) :
  Rel P B W0 D M ι (σ.put o (.row bx ro nr' fl' w xs')) W:=by
 obtain ⟨p0,hp0,hrow⟩:=h.row o bx ro nr fl w xs hσ
 have hat : ∀(i:Nat) (x':AV),xs'[i]?=some x'→∃x hs,xs[i]?=some x∧x'=Qr hs x:=fun i x' hi=>by
  have hlt:i < xs.length:=by rw [←hl]; exact (List.getElem?_eq_some_iff.1 hi).1
  obtain ⟨hs,e⟩:=hx i _ x' (List.getElem?_eq_getElem hlt) hi
  exact ⟨_,hs,List.getElem?_eq_getElem hlt,e⟩
 have hcell:∀(i j:Nat) (x' y':AV),xs'[i]?=some x'→x'.flat[j]?=some y'→∃x y,xs[i]?=some x∧x.flat[j]?=some y∧∃hk,y'=LK.ap hk y:=fun i j x' y' hi hj=>by
  obtain ⟨x,hs,e1,rfl⟩:=hat i x' hi
  obtain ⟨hs',e2,_⟩:=J1 hs (hrow.shaped x (List.mem_of_getElem? e1)).form
  rw [e2] at hj
  obtain ⟨hk,y,e3,e4⟩:=Qdb hs' _ j y' hj
  exact ⟨x,y,e1,e3,hk,e4⟩
 refine ⟨h.size,h.below,h.defs,h.agree,fun k bx1 nr1 fl1 w1 xs1 q j hk hq hj=>?_,?_,?_,?_,?_,?_⟩
 ·by_cases e:k=o
  ·subst e; rw [Sto.put_same] at hk; cases hk; exact h.cool _ _ _ _ _ _ _ _ hσ hq hj
  ·rw [Sto.put_ne _ _ e] at hk; exact h.cool _ _ _ _ _ _ _ _ hk hq hj
 ·intro k bx1 ro1 nr1 fl1 w1 xs1 hk
  by_cases e:k=o
  ·subst e
   rw [Sto.put_same] at hk
   cases hk
   refine ⟨p0,hp0,⟨hrow.pw,hrow.pos,hrow.cpos,by rw [hl]; exact hrow.len,fun x' hx'=>?_,hnr,hfl,fun i j x' y' hi hj=>?_,hrow.own,fun hro i j x' y' hi hj=>?_⟩⟩
   ·obtain ⟨i,hi,rfl⟩:=List.mem_iff_getElem.1 hx'
    obtain ⟨x,hs,e1,e2⟩:=hat i _ (List.getElem?_eq_getElem hi)
    rw [e2]; exact Qds hs (hrow.shaped x (List.mem_of_getElem? e1))
   ·obtain ⟨x,y,e1,e2,hk,rfl⟩:=hcell i j x' y' hi hj
    obtain ⟨v,hv,hr⟩:=hrow.cells i j x y e1 e2
    exact ⟨v,hv,LK.ap_rep hk hr⟩
   ·obtain ⟨x,y,e1,e2,hk,rfl⟩:=hcell i j x' y' hi hj
    obtain ⟨v,hv,hr⟩:=hrow.imm hro i j x y e1 e2
    exact ⟨v,hv,LK.ap_rep hk hr⟩
  ·rw [Sto.put_ne _ _ e] at hk
   exact h.row k bx1 ro1 nr1 fl1 w1 xs1 hk
 ·intro k fn sl ps as bd st pe hk
  have e:k≠o:=fun e=>by subst e; rw [Sto.put_same] at hk; cases hk
  rw [Sto.put_ne _ _ e] at hk
  exact h.loop k fn sl ps as bd st pe hk
 ·intro k k' bx1 nr1 fl1 w1 xs1 bx2 nr2 fl2 w2 xs2 q q' hkk h1 h2 hq hq'
  have g:∀k bx1 nr1 fl1 w1 xs1,σ.put o (.row bx ro nr' fl' w xs') k=some (.row bx1 false nr1 fl1 w1 xs1)→∃bx nr fl w xs,σ k=some (.row bx false nr fl w xs):=fun k bx1 nr1 fl1 w1 xs1 hk=>by
   by_cases e:k=o
   ·subst e; rw [Sto.put_same] at hk; cases hk; exact ⟨_,_,_,_,_,hσ⟩
   ·rw [Sto.put_ne _ _ e] at hk; exact ⟨_,_,_,_,_,hk⟩
  obtain ⟨_,_,_,_,_,g1⟩:=g _ _ _ _ _ _ h1
  obtain ⟨_,_,_,_,_,g2⟩:=g _ _ _ _ _ _ h2
  exact h.apart _ _ _ _ _ _ _ _ _ _ _ _ _ _ hkk g1 g2 hq hq'
 ·intro k k' fn sl ps as bd st pe fn' sl' ps' as' bd' st' pe' q q' hkk h1 h2 hq hq'
  have e:k≠o:=fun e=>by subst e; rw [Sto.put_same] at h1; cases h1
  have e':k'≠o:=fun e=>by subst e; rw [Sto.put_same] at h2; cases h2
  rw [Sto.put_ne _ _ e] at h1; rw [Sto.put_ne _ _ e'] at h2
  exact h.loops _ _ _ _ _ _ _ _ _ _ _ _ _ _ _ _ _ _ hkk h1 h2 hq hq'
 ·intro k hk
  have e:k≠o:=fun e=>by subst e; rw [hp0] at hk; cases hk
  rw [Sto.put_ne _ _ e]; exact h.used k hk
def Z7 (hs:List LK) (b:Bool):List (Nat × AObj)→List (Nat × AObj)
 | []=>[]
 | (o,x)::es=>match es with
  | []=>match x with
   | .row bx ro nr fl w xs=>[(o,.row bx ro nr (b && fl) w (xs.map (Qr hs)))]
   | x=>[(o,x)]
  | _=>(o,x)::Z7 hs b es
theorem Rel.lessEff (hs:List LK) (b:Bool):∀(es:List (Nat × AObj)) (σ:Sto),Rel P B W0 D M ι (σ.puts es) W→Rel P B W0 D M ι (σ.puts (Z7 hs b es)) W
 | [],σ,h=>h
 | (o,x)::es,σ,h=>by
  cases es with
  | cons e es=>exact Rel.lessEff hs b (e::es) (σ.put o x) h
  | nil =>
   cases x with
   | row bx ro nr fl w xs =>
    have h':Rel P B W0 D M ι (σ.put o (.row bx ro nr fl w xs)) W:=h
    obtain ⟨p,hp,hrow⟩:=h'.row o bx ro nr fl w xs (Sto.put_same _ _ _)
    have:=h'.lessRow (xs':=xs.map (Qr hs)) (nr':=nr) (fl':=b && fl) (Sto.put_same _ _ _) (by simp) (fun i x x' hi hi'=>⟨hs,by simp [hi] at hi'; exact hi'.symm⟩)
     (fun hn=>by
      rw [Ql]; intro y hy
      simp only [List.mem_map] at hy
      obtain ⟨z,hz,rfl⟩:=hy
      exact Qoe hs (Ql.1 (hrow.nr hn) z hz))
     (fun hf y hy=>by
      simp only [List.mem_map] at hy
      obtain ⟨z,hz,rfl⟩:=hy
      exact Qnl hs (hrow.shaped z hz) (hrow.fl (by simp at hf; exact hf.2) z hz))
    have e:∀(σ:Sto) (x y:AObj),(σ.put o x).put o y=σ.put o y:=fun σ x y=>by
     funext k; by_cases e:k=o <;> simp [Sto.put,e]
    rw [e] at this
    exact this
   | loop=>exact h
   | dead=>exact h
   | fam=>exact h
   | refs=>exact h
theorem Qfh (hs:List LK) (b:Bool):∀(es:List (Nat × AObj)),(Z7 hs b es).map (·.1)=es.map (·.1)
 | []=>rfl
 | (o,x)::es=>by
  cases es with
  | cons e es=>simp only [Z7,List.map_cons]; congr 1; exact Qfh hs b (e::es)
  | nil=>cases x <;> rfl
end
section
variable {P:Program} {rd:Option Nat} {base:Nat} {ops:Array Oper} {st st1 st' S:St} {o:Oper} {F:Foot} {out:AOut} {Φ:AOut→Prop} {d:Option (List Sk)} {i:Nat} {nf:Bool} {s:Slots} {σ:Sto} {c:Code}
theorem Qqd (hv he:List LK) (b:Bool) (h:YlL P ops o F s σ):YlL P ops o ⟨F.v.map (Qr hv),Z7 he b F.eff,F.fr,F.fr',F.rd⟩ s σ:=by
 intro s' σ' hs hσ
 rcases h s' σ' hs hσ with ⟨hw,hd⟩ | ⟨hw,h1,h2⟩
 ·refine .inl ⟨hw,?_⟩
  intro B W0 D M ι a W n Q r next hrel hsl hfree hpost
  refine hd B W0 D M ι a W n Q r next hrel hsl hfree (fun v W' M' ι' g1 g2 g3 g4 g5=>hpost v W' M' ι' g1 g2 g3 (Rel.lessEff he b _ _ g4) (fun x hx=>?_))
  simp only [Option.map_eq_some_iff] at hx
  obtain ⟨y,hy,rfl⟩:=hx
  exact Kn hv (g5 y hy)
 ·exact .inr ⟨hw,by simp only [h1,Option.map_some]; cases hv <;> (try rename_i x _; cases x) <;> rfl,by simp [h2,Z7]⟩
theorem Qlt {v:Option AV} {eff:List (Nat × AObj)} {fr:Nat} {rds:List Nat} (hv he:List LK) (b:Bool) {C:FuncId→List AV→Option Zr} (hC:Qe2 P C) (ho:Z5 ops i st=some o) (hev:Zx P nf C st.sto st.objs.length (lk st.slots) o=some (.val ⟨v,eff,fr,rds⟩))
  (hS:Xn ops i st (v.map (Qr hv)) (Z7 he b eff)=some S) (hl:S.objs.length=fr) (k:RW P rd base ops (Zg d [(eff.map (·.1),rds)]) (i+1) S Φ):RW P rd base ops d i st Φ:=by
 obtain ⟨h1,h2⟩:=Va ho
 unfold Xn at hS
 rw [h1] at hS
 simp only at hS
 split at hS
 ·rename_i objs slots ha hp
  cases hS
  refine Qbb (s:=(eff.map (·.1),rds)) ⟨o,⟨v.map (Qr hv),Z7 he b eff,st.objs.length,fr,rds⟩,h1,Qme ?_ rfl hl.symm ha hp rfl,Qqg (by simp [Foot.sk,Qfh])⟩ k
  exact Qqd hv he b (Qp7 hC h2 hev)
 ·cases hS
noncomputable def Qop (P:Program) (nf:Bool) (ops:Array Oper) (i:Nat) (st:St) (hv he:List LK) (b:Bool):Option St :=
 match Z5 ops i st with
 | some o=>match Zx P nf noC st.sto st.objs.length (lk st.slots) o with
  | some (.val ⟨v,eff,fr,rd⟩)=>match Xn ops i st (v.map (Qr hv)) (Z7 he b eff) with
   | some S=>if Nat.beq S.objs.length fr then some S else none
   | none=>none
  | _=>none
 | none=>none
noncomputable def Qmb (P:Program) (nf:Bool) (ops:Array Oper) (i:Nat) (st:St):Sk :=
 match Z5 ops i st with
 | some o=>match Zx P nf noC st.sto st.objs.length (lk st.slots) o with
  | some (.val ⟨v,eff,fr,rd⟩)=>(eff.map (·.1),rd)
  | _=>([],[])
 | none=>([],[])
theorem sgL (nf:Bool) (hv he:List LK) (b:Bool) (h:Qop P nf ops i st hv he b=some S) (k:RW P rd base ops (Zg d [Qmb P nf ops i st]) (i+1) S Φ):RW P rd base ops d i st Φ:=by
 unfold Qop at h
 unfold Qmb at k
 split at h
 ·rename_i o ho
  rw [ho] at k
  simp only at k
  split at h
  ·rename_i v eff fr rds hev
   rw [hev] at k
   split at h
   ·rename_i S' hS
    split at h
    ·rename_i hl
     cases h
     exact Qlt hv he b Ku ho hev hS (Nat.eq_of_beq_eq_true hl) k
    ·cases h
   ·cases h
  ·cases h
 ·cases h
theorem mkL {α R:Type} {enc:α→AV} {z:α} {z0:AV} {n m:Int} {w bytes:Nat} {A:Option R} {r:R} (he:List LK) (b:Bool) (hi:Qph P ops i st=some (n,m,z0,w,bytes)) (hz0:Qr he z0=enc z)
  (hS:Xn ops i st (some (.ref st.objs.length 0 (List.replicate n.toNat z).length)) [(st.objs.length,.row false false z0.nr (b && z0.scs) w ((List.replicate n.toNat z).map enc))]=some S) (hl:Nat.beq S.objs.length (st.objs.length+1)=true)
  (h:(if 0≤n∧n≤m∧m*bytes≤140737488355328 then A else none)=some r) (k:A=some r→RW P rd base ops (Zg d [([st.objs.length],[])]) (i+1) S Φ):RW P rd base ops d i st Φ:=by
 split at h
 ·rename_i hc
  obtain ⟨c1,c2,c3⟩:=hc
  unfold Qph at hi
  split at hi
  ·rename_i o ho
   split at hi
   ·rename_i t x y hop
    split at hi
    ·rename_i T k1 n' k2 m' hT hx hy
     split at hi
     ·rename_i e hk
      split at hi
      ·rename_i E hE
       split at hi
       ·rename_i z1 hz
        split at hi
        ·rename_i hb
         simp only [Bool.and_eq_true] at hb
         simp only [Option.some.injEq,Prod.mk.injEq] at hi
         obtain ⟨rfl,rfl,rfl,rfl,rfl⟩:=hi
         refine Qlt (nf:=false) (v:=some (.ref st.objs.length 0 (List.replicate n'.toNat z1).length)) (eff:=[(st.objs.length,.row false false z1.nr z1.scs E.size (List.replicate n'.toNat z1))]) (fr:=st.objs.length+1) (rds:=[]) [] he b Ku ho ?_ ?_ (Nat.eq_of_beq_eq_true hl) (by simpa using k h)
         ·have hb0:=Xd hb.2
          have g1:¬ n' < 0:=by omega
          have g2:¬ m' < 0:=by omega
          have c3':m'.toNat * E.bytes≤140737488355328:=by
           have:((m'.toNat * E.bytes:Nat):Int)≤140737488355328:=by
            rw [Int.natCast_mul,Int.toNat_of_nonneg (by omega)]; exact c3
           omega
          have g3:=Qiv hb0 c3'
          have g4:Nat.ble n'.toNat m'.toNat = true:=Qh6 (by omega)
          have g5:Nat.ble m'.toNat 9223372036854775807=true:=by
           refine Qh6 ?_
           have:=Nat.le_mul_of_pos_right m'.toNat hb0
           omega
          have g6:=hb.1.1
          have g7:=hb.1.2
          unfold Zx
          rw [hop]
          simp only [Xy,Bool.false_eq_true,if_false]
          unfold evalOp
          rw [hop]
          simp only [hT,hx,hy,hk,asN,g1,g2,if_false,hE,hz,g3,g4,g5,g6,g7,Bool.and_self,if_true,Xm,List.length_replicate]
         ·have e1:(List.replicate n'.toNat z1).map (Qr he)=(List.replicate n'.toNat z).map enc:=by simp [List.map_replicate,hz0]
          have e2:(List.replicate n'.toNat z1).length=(List.replicate n'.toNat z).length:=by simp
          simp only [Z7,e1,e2,Option.map_some,Qr]
          exact hS
        ·cases hi
       ·cases hi
      ·cases hi
     ·cases hi
    ·cases hi
   ·cases hi
  ·cases hi
 ·cases h
def Wk (P:Program) (base:Nat) (st st':St):Prop :=
 ∀B W0 D0 dl M ι a W,Sim P B W0 D0 dl M ι st a W→∃M' ι',CM.Grow B M M'∧Inj.leB base ι ι'∧Sim P B W0 D0 dl M' ι' st' a W
theorem wk_trans (h1:Wk P base st st1) (h2:Wk P base st1 st'):Wk P base st st':=fun B W0 D0 dl M ι a W h=>by
 obtain ⟨M1,ι1,m1,e1,g1⟩:=h1 B W0 D0 dl M ι a W h
 obtain ⟨M2,ι2,m2,e2,g2⟩:=h2 B W0 D0 dl M1 ι1 a W g1
 exact ⟨M2,ι2,m1.trans m2,e1.trans e2,g2⟩
theorem wk_gc {live keep:List Nat} (hg:Qev base live keep st=some st'):Wk P base st st':=fun B W0 D0 dl M ι a W h=>let ⟨ι',e,g⟩:=h.gc hg; ⟨M,ι',.refl _ _,e,g⟩
theorem exec_wk (hk:Wk P base st st') (h:Zp P rd base c st' out):Zp P rd base c st out:=by
 intro B W0 D0 dl M ι a W n Q r hs hr hp
 obtain ⟨M',ι',hM,hι,hs'⟩:=hk B W0 D0 dl M ι a W hs
 exact h B W0 D0 dl M' ι' a W n Q r hs' (hr.mono hι) (hp.step hM hι (List.suffix_refl _))
theorem loopX_wk (hk:Wk P base st st') (h:Qem P rd base c st' out):Qem P rd base c st out:=by
 obtain ⟨m,hm⟩:=h
 refine ⟨m,?_⟩
 intro B W0 D0 dl M ι a W n Q r hs hr hp
 obtain ⟨M',ι',hM,hι,hs'⟩:=hk B W0 D0 dl M ι a W hs
 exact hm B W0 D0 dl M' ι' a W n Q r hs' (hr.mono hι) (hp.step hM hι (List.suffix_refl _))
theorem Qrx (hk:Wk P base st st') (h:WP P rd base c st' Φ):WP P rd base c st Φ:=let ⟨o,h1,h2⟩:=h; ⟨o,exec_wk hk h1,h2⟩
theorem Qf4 (hk:Wk P base st st') (h:LWP P rd base c st' Φ):LWP P rd base c st Φ:=let ⟨o,h1,h2⟩:=h; ⟨o,loopX_wk hk h1,h2⟩
theorem Sim.lt {B:Nat} {W0 W:World} {D0 dl:List Nat} {M:CM} {ι:Inj} {a:Act} {o:Nat} {x:AObj} (h:Sim P B W0 D0 dl M ι st a W) (ho:st.objs[o]?=some x):o < BIG:=Nat.lt_of_lt_of_le (List.getElem?_eq_some_iff.1 ho).1 h.big
theorem Qmj {objs:List AObj} {o:Nat} {x:AObj} (hb:o < BIG) (ho:objs[o]?=some x) (hx:x.isPlain=true):sto objs o=some x:=by rw [Z9 hb,ho]; simp [Qbw hx]
def Qlb:AV→Bool
 | .nils | .emp=>true
 | _=>false
theorem Qke {M:CM} {ι:Inj} {v:Value} {x:AV} (h:Qlb x=true) (hr:Qa M ι v x):∃a,v=.slice a 0 0:=by
 cases x <;> simp [Qlb] at h
 ·exact ⟨none,hr.nils_inv⟩
 ·exact hr.emp_inv
def Qnq (t w:Nat) (nr fl:Bool) (st:St):Option St :=
 match lk st.slots t with
 | some x=>if Qlb x && Nat.blt 0 w && Nat.blt st.objs.length BIG then some ⟨setS st.slots t (.ref st.objs.length 0 0),st.objs++[.row false false nr fl w []],st.nt⟩ else none
 | none=>none
theorem Sim.virt {B:Nat} {W0 W:World} {D0 dl:List Nat} {M:CM} {ι:Inj} {a:Act} (h:Sim P B W0 D0 dl M ι st a W) (nr fl:Bool) {w:Nat} (hw:0 < w) (hb:st.objs.length < BIG) :
  ∃p,ι st.objs.length=none∧p.cap=0∧Sim P B W0 D0 dl M (ι.put st.objs.length p) ⟨st.slots,st.objs++[.row false false nr fl w []],st.nt⟩ a W:=by
 have hn:=h.new st.objs.length (InB.not (Nat.le_refl _) hb)
 refine ⟨⟨B,0,w,0⟩,hn,rfl,⟨?_,fun k y hk=>(h.slots k y hk).mono (CM.le_refl _) (Inj.le_put _ hn),h.nt,h.df,fun k hk=>?_,by simp; omega⟩⟩
 ·show Rel P B W0 (dl++D0) M _ (sto (st.objs++[_])) W
  rw [Qha rfl hb]
  exact h.rel.virt hn hw
 ·have hk:¬ InB (st.objs.length+1) k:=by simpa using hk
  rw [Inj.put_ne _ _ (fun e=>hk (.inl (by omega)))]; exact h.new k (fun c=>hk (c.mono (Nat.le_succ _)))
theorem wk_nil (t w:Nat) (nr fl:Bool) (h:Qnq t w nr fl st=some st'):Wk P base st st':=by
 unfold Qnq at h
 split at h
 ·rename_i x hx
  split at h
  ·rename_i hc
   simp only [Bool.and_eq_true] at hc
   cases h
   intro B W0 D0 dl M ι a W hsim
   obtain ⟨p,hn,hp,hv⟩:=hsim.virt nr fl (Xd hc.1.2) (Xd hc.2)
   obtain ⟨ad,had⟩:=Qke hc.1.1 (hsim.slots t x hx)
   refine ⟨M,_,.refl _ _,(Inj.le_put p hn).leB base,⟨hv.rel,fun k y hk=>?_,hv.nt,hv.df,hv.new,hv.big⟩⟩
   have hk:lk (setS st.slots t (.ref st.objs.length 0 0)) k=some y:=hk
   rw [Qd7] at hk
   split at hk
   ·rename_i e; cases hk; subst e; rw [had]; exact .ref0 _ _ _ (Inj.put_same _ _ _) hp
   ·exact hv.slots k y hk
  ·cases h
 ·cases h
def Qpg (o i c w:Nat) (nr fl:Bool) (st:St):Option St :=
 match st.objs[o]? with
 | some (.row bx false nr0 fl0 w0 xs)=>match xs[i]? with
  | some x=>match x.flat[c]? with
   | some y=>if Qlb y && Nat.blt 0 w && Nat.blt st.objs.length BIG then match Qhj x c (.ref st.objs.length 0 0) with
     | some x'=>some ⟨st.slots,st.objs.set o (.row bx false false false w0 (xs.set i x'))++[.row false false nr fl w []],st.nt⟩
     | none=>none
    else none
   | none=>none
  | none=>none
 | _=>none
theorem Q2 (o i c w:Nat) (nr fl:Bool) (h:Qpg o i c w nr fl st=some st'):Wk P base st st':=by
 unfold Qpg at h
 split at h
 ·rename_i bx nr0 fl0 w0 xs ho
  split at h
  ·rename_i x hx
   split at h
   ·rename_i y hy
    split at h
    ·rename_i hc
     split at h
     ·rename_i x' hx'
      simp only [Bool.and_eq_true] at hc
      cases h
      intro B W0 D0 dl M ι a W hsim
      obtain ⟨p,hn,hp,hv⟩:=hsim.virt nr fl (Xd hc.1.2) (Xd hc.2)
      have hlt:=(List.getElem?_eq_some_iff.1 ho).1
      refine ⟨M,_,.refl _ _,(Inj.le_put p hn).leB base,⟨?_,hv.slots,hv.nt,hv.df,fun k hk=>hv.new k (by simpa using hk),by simpa using hv.big⟩⟩
      show Rel P B W0 (dl++D0) M _ (sto (st.objs.set o _++[_])) W
      have hob:=hsim.lt ho
      have ho1:(st.objs++[AObj.row false false nr fl w []])[o]?=some (.row bx false nr0 fl0 w0 xs):=by rw [List.getElem?_append_left hlt]; exact ho
      have hos:=Qmj hob ho1 rfl
      have e1:sto (st.objs.set o (.row bx false false false w0 (xs.set i x'))++[AObj.row false false nr fl w []])=Sto.put (sto (st.objs++[AObj.row false false nr fl w []])) o (.row bx false false false w0 (xs.set i x')):=by
       rw [←Kb ho1 rfl rfl hob,List.set_append_left _ _ hlt]
      rw [e1]
      have hrel:=hv.rel
      obtain ⟨q,hq,hrow⟩:=hrel.row o bx false nr0 fl0 w0 xs hos
      have hxm:=List.mem_of_getElem? hx
      obtain ⟨g1,g2,g3⟩:=Qcv hx' (hrow.shaped x hxm) ⟨.inr rfl,rfl,fun z hz=>by simp [AV.flat] at hz; subst hz; rfl⟩
      have hil:=(List.getElem?_eq_some_iff.1 hx).1
      have hcap:i*w0+w0≤q.cap*w0:=by
       have:(i+1)*w0≤q.cap*w0:=Nat.mul_le_mul_right _ (by have:=hrow.len; omega)
       rwa [Nat.succ_mul] at this
      have key:=hrel.write (bx':=bx) (nr':=false) (fl':=false) (xs':=xs.set i x') hos hq 0 [] (by simp) (by simpa using hrow.len)
       (fun z hz=>by
        rcases List.mem_or_eq_of_mem_set hz with hz | rfl
        ·exact hrow.shaped z hz
        ·exact g1) (by simp) (by simp)
       (fun k j z r hk hj hlo hhi=>by simp at hhi)
       (fun k j z r hk hj hout=>by
        by_cases e:k=i
        ·subst e
         rw [List.getElem?_set_self hil] at hk
         cases hk
         rcases g3 j r hj with ⟨b1,b2,b3⟩ | ⟨b1,b2⟩
         ·have hj0:j=c:=by simp [AV.flat] at b2; omega
          subst hj0
          simp [AV.flat] at b3
          subst b3
          obtain ⟨v,hv',hr⟩:=hrow.cells k j x y hx hy
          obtain ⟨ad,had⟩:=Qke hc.1.1 hr
          exact ⟨v,by rw [←Nat.add_assoc]; exact hv',by rw [had]; exact .ref0 _ _ _ (Inj.put_same _ _ _) hp⟩
         ·obtain ⟨v,hv',hr⟩:=hrow.cells k j x r hx b2
          exact ⟨v,by rw [←Nat.add_assoc]; exact hv',hr⟩
        ·rw [List.getElem?_set_ne (Ne.symm e)] at hk
         obtain ⟨v,hv',hr⟩:=hrow.cells k j z r hk hj
         exact ⟨v,by rw [←Nat.add_assoc]; exact hv',hr⟩)
      exact key
     ·cases h
    ·cases h
   ·cases h
  ·cases h
 ·cases h
noncomputable def Qjw (o i:Nat) (y:AV) (ids:List Nat) (st:St):Option St :=
 match frz st.sto ids with
 | some es=>match Zk st.objs es with
  | some objs=>match objs[o]? with
   | some (.row bx false nr fl w xs)=>some ⟨st.slots,objs.set o (.row bx false false false w (xs.set i y)),st.nt⟩
   | _=>none
  | none=>none
 | none=>none
theorem Qqj (o i:Nat) {bx ro nr fl:Bool} {w:Nat} {xs:List AV} {x y:AV} {ids:List Nat} (ho:st.sto o=some (.row bx ro nr fl w xs)) (hx:xs[i]?=some x) (hno:J6 ids o=false) (hsn:Qj st.sto Qo x=some (y,ids)) (h:Qjw o i y ids st=some st'):Wk P base st st':=by
 unfold Qjw at h
 split at h
 ·rename_i es hes
  split at h
  ·rename_i objs ha
   split at h
   ·rename_i bx' nr' fl' w' xs' ho'
    cases h
    intro B W0 D0 dl M ι a W hsim
    obtain ⟨p1,p2,p3⟩:=X2 _ _ _ ha
    have h':=Kt hsim.rel hes
    have hg:=hsim.rel.growC ids
    have hos':=Qmj (Nat.lt_of_lt_of_le (List.getElem?_eq_some_iff.1 ho').1 (p3 hsim.big)) ho' rfl
    have hob:o < BIG:=Nat.lt_of_lt_of_le (List.getElem?_eq_some_iff.1 ho').1 (p3 hsim.big)
    have hsame:sto objs o=sto st.objs o:=by
     have e1:sto objs o=Sto.puts st.sto es o:=congrFun p1 o
     rw [e1]
     exact Qci hes (Kx hno)
    have ho:sto st.objs o=some (.row bx ro nr fl w xs):=ho
    rw [hos',ho] at hsame
    cases hsame
    have hlt:=(List.getElem?_eq_some_iff.1 ho').1
    have h'':Rel P B W0 (dl++D0) (Za M W (inC st.sto ι ids)) ι (sto objs) W:=by rw [p1]; exact h'
    obtain ⟨p,hp,hrow⟩:=h''.row o _ false nr fl w xs hos'
    have hxm:=List.mem_of_getElem? hx
    have hil:=(List.getElem?_eq_some_iff.1 hx).1
    obtain ⟨q1,q2⟩:=Yq hsn (hrow.shaped x hxm)
    refine ⟨_,ι,hg,.refl _ _,⟨?_,hsim.slots.mono hg.le (Inj.le_refl _),hsim.nt,hsim.df,fun k hk=>hsim.new k (fun c=>hk ((c.mono p2).mono (by simp))),by simpa using p3 hsim.big⟩⟩
    show Rel P B W0 (dl++D0) _ ι (sto (objs.set o _)) W
    rw [Kb ho' rfl rfl hob]
    refine h''.write (c0:=0) (vs:=[]) hos' hp (by simp) (by simpa using hrow.len) (fun z hz=>?_) (by simp) (by simp) (fun k j z r hk hj hlo hhi=>by simp at hhi) (fun k j z r hk hj hout=>?_)
    ·rcases List.mem_or_eq_of_mem_set hz with hz | rfl
     ·exact hrow.shaped z hz
     ·exact q1
    ·by_cases e:k=i
     ·subst e
      rw [List.getElem?_set_self hil] at hk
      cases hk
      obtain ⟨c,d',is,e1,e2,e3,e4⟩:=q2 j r hj
      obtain ⟨q,hq,hrow0⟩:=hsim.rel.row o bx false nr fl w xs ho
      rw [hp] at hq; cases hq
      obtain ⟨v,hv,hr⟩:=hrow0.cells k j x c hx e1
      exact ⟨v,by rw [←Nat.add_assoc]; exact hv,(Xu hsim.rel ids d' c r is v e3 e4 hr).mono (CM.le_refl _) (Inj.noInj_le _)⟩
     ·rw [List.getElem?_set_ne (Ne.symm e)] at hk
      obtain ⟨v,hv,hr⟩:=hrow.cells k j z r hk hj
      exact ⟨v,by rw [←Nat.add_assoc]; exact hv,hr⟩
   ·cases h
  ·cases h
 ·cases h
end
end Go.Ab
namespace Go.Ab
open Go.RowKit
section
variable {P:Program} {rd:Option Nat} {base:Nat} {ops:Array Oper} {st st1 st' S:St} {o:Oper} {F:Foot} {out:AOut} {Φ Ψ:AOut→Prop} {d:Option (List Sk)} {i:Nat} {nf:Bool} {s:Slots} {σ:Sto} {c x y:Code}
theorem Qkl {α:Type} {enc:α→AV} {l:List α} {ob w n:Nat} {bx ro fl:Bool} (hrow:σ ob=some (.row bx ro true fl w (l.map enc))):Qj σ (n+1) (.ref ob 0 l.length)=some (.lst fl (l.map enc),[ob]):=by
 have:(l.map enc).take l.length=l.map enc:=List.take_of_length_le (by simp)
 simp [Qj,hrow,this]
def Zh (ops:Array Oper) (i:Nat) (st:St):Option (FuncId × List AV) :=
 match Z5 ops i st with
 | some o=>match o.op with
  | .call { callee:=.value g,args,.. }=>match evo (lk st.slots) g,Ye (lk st.slots) args.toList with
   | some (.fn (.func f) first caps),some as=>some (f,first++as++caps)
   | _,_=>none
  | _=>none
 | none=>none
theorem Vz {f:FuncId} {as0:List AV} (h:Zh ops i st=some (f,as0)):∃o g args ts first caps as,Z5 ops i st=some o∧o.op=.call { callee:=.value g,args,argTypes:=ts }∧evo (lk st.slots) g=some (.fn (.func f) first caps) ∧
  Ye (lk st.slots) args.toList=some as∧as0=first++as++caps:=by
 unfold Zh at h
 split at h
 ·rename_i o ho
  split at h
  ·rename_i g args ts hop
   split at h
   ·rename_i f' first caps as hg has
    cases h
    exact ⟨o,g,args,ts,first,caps,as,ho,hop,hg,has,rfl⟩
   ·cases h
  ·cases h
 ·cases h
def Qjh (P:Program) (f:FuncId):Bool :=
 match P.funcs[f]? with
 | some fn=>fn.body.isSome && !(fn.name == "runtime.NumGoroutine")
 | none=>false
noncomputable def Qj8 (st:St) (ids:List Nat) (r:AV) (objs:List AObj):Option (List (Nat × AObj)) :=
 if objs.all AObj.okRow then
  if ids.isEmpty || (r.cls && objs.all AObj.flat) then some (Xi st.objs.length st.objs.length objs)
  else match frz st.sto ids with
   | some es=>some (es++Xi st.objs.length st.objs.length objs)
   | none=>none
 else none
noncomputable def Qgl (ops:Array Oper) (i:Nat) (st:St) (ids:List Nat) (r:AV) (objs:List AObj):Option St :=
 match Qj8 st ids r objs with
 | some eff=>match Xn ops i st (some (r.shift st.objs.length)) eff with
  | some S=>if Nat.beq S.objs.length (st.objs.length+objs.length) then some S else none
  | none=>none
 | none=>none
noncomputable def Qik (st:St) (ids:List Nat) (r:AV) (objs:List AObj):Sk:=(((Qj8 st ids r objs).getD []).map (·.1),ids)
open Classical in
noncomputable def Qof (f:FuncId) (as:List AV) (co:Zr):FuncId→List AV→Option Zr:=fun g bs=>if g=f∧bs=as then some co else none
theorem Qom {f:FuncId} {as:List AV} {co:Zr} (h:Qv P f as co) (hb:Qjh P f=true):Qe2 P (Qof f as co):=by
 intro g bs out he
 unfold Qof at he
 split at he
 ·rename_i hc
  obtain ⟨rfl,rfl⟩:=hc
  cases he
  refine ⟨h,?_⟩
  unfold Qjh at hb
  split at hb
  ·rename_i fn hf
   simp only [Bool.and_eq_true,Bool.not_eq_true'] at hb
   exact ⟨fn,hf,hb.1,hb.2⟩
  ·cases hb
 ·cases he
theorem Qsj {f:FuncId} {as0 us:List AV} {ids:List Nat} {rv:AV} {ro:List AObj} (hi:Zh ops i st=some (f,as0)) (hb:Qjh P f=true) (hsn:Qx (Qj st.sto Qo) as0=some (us,ids)) (hc:Qv P f us (.ret rv ro))
  (hS:Qgl ops i st ids rv ro=some S) (k:RW P rd base ops (Zg d [Qik st ids rv ro]) (i+1) S Φ):RW P rd base ops d i st Φ:=by
 obtain ⟨o,g,args,ts,first,caps,as1,ho,hop,hg,has,rfl⟩:=Vz hi
 unfold Qgl at hS
 unfold Qik at k
 split at hS
 ·rename_i eff heff
  rw [heff] at k
  split at hS
  ·rename_i S' hS'
   split at hS
   ·rename_i hl
    cases hS
    obtain ⟨h1,h2⟩:=Va ho
    unfold Xn at hS'
    rw [h1] at hS'
    simp only at hS'
    split at hS'
    ·rename_i objs slots ha hp
     cases hS'
     refine Qbb (s:=(eff.map (·.1),ids)) ⟨o,⟨some (rv.shift st.objs.length),eff,st.objs.length,st.objs.length+ro.length,ids⟩,h1,?_,Qgd _⟩ (by simpa using k)
     refine Qh8 (nf:=false) (C:=Qof f us (.ret rv ro)) (Qom hc hb) (res:=⟨some (rv.shift st.objs.length),eff,st.objs.length+ro.length,ids⟩) h2 ?_ ha hp (Nat.eq_of_beq_eq_true hl)
     unfold Zx
     rw [hop]
     simp only [Xy,if_true]
     unfold evalOp
     rw [hop]
     simp only [hg,has,Qbg,hsn,Qof,and_self,if_true]
     unfold Qj8 at heff
     split at heff
     ·rename_i hok
      rw [if_pos hok]
      split at heff
      ·rename_i hcl
       cases heff
       rw [if_pos hcl]
      ·rename_i hcl
       rw [if_neg hcl]
       split at heff
       ·rename_i es hes
        cases heff
        rw [hes]
       ·cases heff
     ·cases heff
    ·cases hS'
   ·cases hS
  ·cases hS
 ·cases hS
theorem Quf {α R:Type} {G:Option α} {K:α→Option R} {f:FuncId} {as0 us:List AV} {ids:List Nat} {rv:α→AV} {ro:α→List AObj} {S:α→St} {r:R} (hi:Zh ops i st=some (f,as0)) (hb:Qjh P f=true)
  (hsn:Qx (Qj st.sto Qo) as0=some (us,ids)) (hc:∀x,G=some x→Qv P f us (.ret (rv x) (ro x))) (hS:∀x,Qgl ops i st ids (rv x) (ro x)=some (S x)) (h:G.bind K=some r)
  (k:∀x,G=some x→K x=some r→RW P rd base ops (Zg d [Qik st ids (rv x) (ro x)]) (i+1) (S x) Φ):RW P rd base ops d i st Φ:=by
 cases hg:G with
 | none=>rw [hg] at h; cases h
 | some x=>rw [hg] at h; exact Qsj hi hb hsn (hc x hg) (hS x) (k x hg h)
theorem Qv.args {f:FuncId} {us:List AV} {co:Zr} (hss:List (List LK)) (h:Qv P f (Qc3 hss us) co):Qv P f us co:=by
 intro W M vs h1 h2 h3
 refine h W M vs h1 (by rw [Qc5]; exact h2) (fun j v y hv hy=>?_)
 obtain ⟨hs,z,hz,rfl⟩:=Qj0 hss us j y hy
 exact Kn hs (h3 j v z hv hz)
theorem Qv.res {f:FuncId} {us:List AV} {r:AV} {objs:List AObj} (hss:List (List LK)) (h:Qv P f us (.ret r objs)):Qv P f us (.ret (Qa0 hss r) objs):=by
 intro W M vs h1 h2 h3
 refine (h W M vs h1 h2 h3).mono fun e w he=>?_
 obtain ⟨v,M',ι',g1,g2,g3,g4,g5⟩:=he
 exact ⟨v,M',ι',g1,g2,g3,g4,Qnc hss g5⟩
def Qm1 (P:Program) (ops:Array Oper) (i:Nat) (st:St):Option (List (Nat × AV)) :=
 match Z5 ops i st with
 | some o=>match o.op with
  | .buildSlice _ _ ps=>Y2 (lk st.slots) ps.toList
  | _=>none
 | none=>none
noncomputable def Qqt (P:Program) (ops:Array Oper) (i:Nat) (st:St) (he:List LK) (b:Bool) (parts:List (Nat × AV)) (ids:List Nat):Option (St × List (Nat × AObj)) :=
 match Z5 ops i st with
 | some o=>match o.op with
  | .buildSlice t n _=>match ti P t with
   | some T=>match T.kind with
    | .slice e=>match ti P e with
     | some E=>if n=0 then none else match E.zero with
      | some z=>if Nat.beq z.flat.length E.size && Nat.blt 0 E.size && Nat.ble (n*E.size) 16777216 then
        match Jm E.size (List.replicate n z) parts,frz st.sto ids with
        | some xs,some es=>match Xn ops i st (some (.ref st.objs.length 0 n)) (es++[(st.objs.length,.row false false (AV.nrL xs) (b && xs.all AV.scs) E.size (xs.map (Qr he)))]) with
         | some S=>if Nat.beq S.objs.length (st.objs.length+1) then some (S,es++[(st.objs.length,.row false false (AV.nrL xs) (xs.all AV.scs) E.size xs)]) else none
         | none=>none
        | _,_=>none
       else none
      | none=>none
     | none=>none
    | _=>none
   | none=>none
  | _=>none
 | none=>none
theorem Qj4 (he:List LK) (b:Bool) (es:List (Nat × AObj)) (o:Nat) (bx ro nr fl:Bool) (w:Nat) (xs:List AV):Z7 he b (es++[(o,.row bx ro nr fl w xs)])=es++[(o,.row bx ro nr (b && fl) w (xs.map (Qr he)))]:=by
 induction es with
 | nil=>rfl
 | cons e es ih =>
  obtain ⟨o',x⟩:=e
  cases es with
  | nil=>simp [Z7]
  | cons e' es=>simp only [List.cons_append,Z7] at ih ⊢; rw [ih]
theorem bsR {parts0 parts:List (Nat × AV)} {ids:List Nat} {es:List (Nat × AObj)} (he:List LK) (b:Bool) (hi:Qm1 P ops i st=some parts0) (hsn:Ze st.sto parts0=some (parts,ids)) (hS:Qqt P ops i st he b parts ids=some (S,es))
  (k:RW P rd base ops (Zg d [(es.map (·.1),ids)]) (i+1) S Φ):RW P rd base ops d i st Φ:=by
 unfold Qm1 at hi
 unfold Qqt at hS
 split at hi
 ·rename_i o ho
  rw [ho] at hS
  simp only at hS
  split at hi
  ·rename_i t n ps hop
   rw [hop] at hS
   simp only at hS
   split at hS
   ·rename_i T hT
    split at hS
    ·rename_i e hk
     split at hS
     ·rename_i E hE
      split at hS
      ·cases hS
      ·rename_i hn
       split at hS
       ·rename_i z hz
        split at hS
        ·rename_i hc
         split at hS
         ·rename_i xs es' hxs hes
          split at hS
          ·rename_i S' hS'
           split at hS
           ·rename_i hl
            cases hS
            refine Qlt (nf:=false) (v:=some (.ref st.objs.length 0 n)) (eff:=es'++[(st.objs.length,.row false false (AV.nrL xs) (xs.all AV.scs) E.size xs)]) (fr:=st.objs.length+1) (rds:=ids) [] he b Ku ho ?_
             (by rw [Qj4]; exact hS') (Nat.eq_of_beq_eq_true hl) k
            unfold Zx
            rw [hop]
            simp only [Xy,Bool.false_eq_true,if_false]
            unfold evalOp
            rw [hop]
            simp only [hT,hk,hE,hi,hn,if_false,hz,hsn,Bool.false_eq_true,hc,if_true,hxs,hes,Xm]
           ·cases hS
          ·cases hS
         ·cases hS
        ·cases hS
       ·cases hS
     ·cases hS
    ·cases hS
   ·cases hS
  ·cases hi
 ·cases hi
theorem Qnh {j:Nat} {x:AV} {r ys:List (Nat × AV)} {b:List Nat} (hx:x.nr=true) (h:Ze σ r=some (ys,b)):Ze σ ((j,x)::r)=some ((j,x)::ys,b):=by simp [Ze,hx,h]
theorem Qnm {j:Nat} {x y:AV} {r ys:List (Nat × AV)} {a b c:List Nat} (hx:x.nr=false) (h1:Qj σ Qo x=some (y,a)) (h:Ze σ r=some (ys,b)) (hc:a++b=c):Ze σ ((j,x)::r)=some ((j,y)::ys,c):=by subst hc; simp [Ze,hx,h1,h]
theorem Qud {R:Type} {b:Bool} {S:Bool→St} {A B:Option R} {r:R} (h:(if b=true then A else B)=some r) (h1:b=true→A=some r→RW P rd base ops d i (S true) Φ) (h2:b=false→B=some r→RW P rd base ops d i (S false) Φ):RW P rd base ops d i (S b) Φ:=by
 cases b
 ·exact h2 rfl (by simpa using h)
 ·exact h1 rfl (by simpa using h)
theorem ne_eq {a b:Int} {c:Bool} (h:(a != b)=c):(a==b)=!c:=by rw [←h]; simp [bne]
theorem Qqs {op:Operand} (he:evo (lk st.slots) op=some (.bool true)) (h:WP P rd base x st Φ):WP P rd base (.cond op x y) st Φ:=Qnr he (fun _=>h) (fun e=>by cases e)
theorem Qqx {op:Operand} (he:evo (lk st.slots) op=some (.bool false)) (h:WP P rd base y st Φ):WP P rd base (.cond op x y) st Φ:=Qnr he (fun e=>by cases e) (fun _=>h)
def Qel {σ ρ:Type} (P:Program) (base:Nat) (I:σ→St) (Ex:ρ→AOut→Prop) (o:Qm σ ρ) (out:AOut):Prop :=
 match o with
 | .next s=>∃st1,out=.go .normal st1∧Wk P base st1 (I s)
 | .done x=>Ex x out∧out.normal=false
theorem Qkj {σ ρ:Type} {body:σ→Option (Qm σ ρ)} {I:σ→St} {Ex:ρ→AOut→Prop} (round:∀s o,body s=some o→WP P rd base c (I s) (Qel P base I Ex o)) :
  ∀(n:Nat) (s:σ) (x:ρ),Qe n body s=some x→LWP P rd base c (I s) (Ex x)
 | 0,s,x,h=>by cases h
 | n+1,s,x,h=>by
  simp only [Qe] at h
  split at h
  ·rename_i s' hb
   refine Qbv ((round s _ hb).mono fun out ho=>?_)
   obtain ⟨st1,rfl,hw⟩:=ho
   exact Qf4 hw (Qkj round n s' x h)
  ·rename_i x' hb
   cases h
   refine Qbv ((round s _ hb).mono fun out ho=>?_)
   obtain ⟨h1,h2⟩:=ho
   cases out with
   | pan v=>exact h1
   | go e st1=>cases e <;> first | exact h1 | simp [AOut.normal] at h2
  ·cases h
theorem Qqq {σ ρ R:Type} {n:Nat} {body:σ→Option (Qm σ ρ)} {I:σ→St} {Ex:ρ→AOut→Prop} {K:ρ→Option R} {r:R} (s0:σ) (hw:Wk P base st (I s0)) (h:(Qe n body s0).bind K=some r)
  (round:∀s o,body s=some o→WP P rd base c (I s) (Qel P base I Ex o)) (k:∀x,K x=some r→∀out,Ex x out→Φ out):WP P rd base (.loop c) st Φ:=by
 cases hx:Qe n body s0 with
 | none=>rw [hx] at h; cases h
 | some x =>
  rw [hx] at h
  obtain ⟨out,h1,h2⟩:=Qf4 hw (Qkj round n s0 x hx)
  exact Qn0 ⟨out,h1,k x h out h2⟩
noncomputable def Qi9 (P:Program) (fn:Func) (hss:List (List LK)):AOut→Option (AV × List AObj)
 | .go e st'=>if e.ends then match resultA P fn st' with
   | some x=>match Qd4 st' x with
    | some (.ret r objs)=>some (Qa0 hss r,objs)
    | _=>none
   | none=>none
  else none
 | .pan _=>none
theorem Que {f:FuncId} {fn:Func} {c:Code} {args:List AV} {rv:AV} {ro:List AObj} (hss:List (List LK)) (hf:P.funcs[f]?=some fn) (hb:fn.body=some c) (hn:(fn.name == "runtime.NumGoroutine")=false) (hle:Nat.ble args.length fn.ntmps=true)
  (h:WP P none 0 c (st0 fn.ntmps args) (fun out=>Qi9 P fn hss out=some (rv,ro))):Qv P f args (.ret rv ro):=by
 obtain ⟨co,h1,r',h2,h3⟩:=Qr7 (R:=fun co=>∃r',co=.ret r' ro∧Qa0 hss r'=rv) hf hb hn (Nat.le_of_ble_eq_true hle) (h.mono fun out ho=>by
  cases out with
  | pan v=>cases ho
  | go e st' =>
   simp only [Qi9] at ho
   split at ho
   ·rename_i he
    split at ho
    ·rename_i x hx
     split at ho
     ·rename_i r objs hex
      simp only [Option.some.injEq,Prod.mk.injEq] at ho
      obtain ⟨h1,rfl⟩:=ho
      exact ⟨he,x,hx,_,hex,r,rfl,h1⟩
     ·cases ho
    ·cases ho
   ·cases ho)
 rw [←h3]
 rw [h2] at h1
 exact h1.res hss
noncomputable def Qc9 (P:Program) (fn:Func) (ops:Array Oper) (i:Nat) (st:St):AOut→Option St
 | .go e st'=>if e.ends then match resultA P fn st',ops[i]? with
   | some x,some o=>match X0 st.slots st.nt o.dst (some x) with
    | some slots=>some ⟨slots,st'.objs,st.nt⟩
    | none=>none
   | _,_=>none
  else none
 | .pan _=>none
theorem Qtb {f:FuncId} {fn:Func} {c:Code} {as0:List AV} (hi:Zh ops i st=some (f,as0)) (hf:P.funcs[f]?=some fn) (hb:fn.body=some c) (hn:(fn.name == "runtime.NumGoroutine")=false) (hle:Nat.ble as0.length fn.ntmps=true)
  (h:WP P none st.objs.length c ⟨Xr 0 as0,st.objs,fn.ntmps⟩ (fun out=>∃S,Qc9 P fn ops i st out=some S∧RW P rd base ops none (i+1) S Φ)):RW P rd base ops none i st Φ:=by
 obtain ⟨o,g,args,ts,first,caps,as1,ho,hop,hg,has,rfl⟩:=Vz hi
 obtain ⟨h1,h2⟩:=Va ho
 obtain ⟨out,hx,S,hS,k⟩:=h
 unfold Qc9 at hS
 split at hS
 ·rename_i e st'
  split at hS
  ·rename_i he
   split at hS
   ·rename_i x o' hr ho'
    rw [h1] at ho'; cases ho'
    split at hS
    ·rename_i slots hp
     cases hS
     obtain ⟨out2,k1,k2⟩:=k
     have hi':i < ops.size:=(Array.getElem?_eq_some_iff.1 h1).1
     refine ⟨out2,?_,k2⟩
     rw [Qae hi']
     exact Qcq h1 h2 (Qot hop hg has hf hb hn (Nat.le_of_ble_eq_true hle) hx he hr hp) k1
    ·cases hS
   ·cases hS
  ·cases hS
 ·cases hS
def Qfo (ops:Array Oper) (i l:Nat) (st:St):AOut→Option St
 | .go e st'=>match st'.objs[l]?,ops[i]? with
  | some (.loop nt2 sl2 ps2 as2 bd2 .busy _),some o=>match X0 st.slots st.nt o.dst (some (.bool e.pend.isNone)) with
   | some slots=>some ⟨slots,st'.objs.set l (.loop nt2 sl2 ps2 as2 bd2 (if e.pend.isNone then .ready else .done) e.pend),st.nt⟩
   | none=>none
  | _,_=>none
 | .pan _=>none
def Qjt (ops:Array Oper) (i:Nat) (st:St):Option (Nat × List AV) :=
 match Z5 ops i st with
 | some o=>match o.op with
  | .call { callee:=.value g,args,.. }=>match evo (lk st.slots) g,Ye (lk st.slots) args.toList with
   | some (.yld l),some us=>some (l,us)
   | _,_=>none
  | _=>none
 | none=>none
def Qi0 (l nt:Nat):AOut→Option St
 | .go .normal ⟨sl,objs,n⟩=>match objs[l]? with
  | some (.loop ntL slL psL asL bdL .ready peL)=>if Nat.beq n nt then some ⟨sl,objs.set l (.loop ntL slL psL asL bdL .busy peL),nt⟩ else none
  | _=>none
 | _=>none
theorem Quo {l nt:Nat} {us:List AV} {sl:List (Nat × AV)} {ps:List Tmp} {assign body:Code} {pe:Option Code} (hi:Qjt ops i st=some (l,us)) (hl:st.objs[l]?=some (.loop nt sl ps assign body .ready pe))
  (hlen:(Nat.beq us.length ps.length && ps.all fun t=>Nat.blt t nt)=true)
  (h:WP P (some l) st.objs.length assign ⟨Qhl sl ps us,st.objs,nt⟩ (fun outA=>∃SA,Qi0 l nt outA=some SA∧WP P (some l) st.objs.length body SA (fun outB=>∃S,Qfo ops i l st outB=some S∧RW P rd base ops none (i+1) S Φ))) :
  RW P rd base ops none i st Φ:=by
 unfold Qjt at hi
 split at hi
 ·rename_i o ho
  split at hi
  ·rename_i g args ts hop
   split at hi
   ·rename_i l' us' hg has
    simp only [Option.some.injEq,Prod.mk.injEq] at hi
    obtain ⟨rfl,rfl⟩:=hi
    obtain ⟨h1,h2⟩:=Va ho
    simp only [Bool.and_eq_true,List.all_eq_true] at hlen
    obtain ⟨outA,hxA,SA,hSA,outB,hxB,S,hS,k⟩:=h
    unfold Qi0 at hSA
    split at hSA
    ·rename_i slA objsA n
     split at hSA
     ·rename_i ntL slL psL asL bdL peL hlA
      split at hSA
      ·rename_i hn
       cases hSA
       have hn:=Nat.eq_of_beq_eq_true hn
       subst hn
       unfold Qfo at hS
       split at hS
       ·rename_i e st'
        split at hS
        ·rename_i nt2 sl2 ps2 as2 bd2 pe2 o' hlB ho'
         rw [h1] at ho'; cases ho'
         split at hS
         ·rename_i slots hp
          cases hS
          obtain ⟨out2,k1,k2⟩:=k
          have hi':i < ops.size:=(Array.getElem?_eq_some_iff.1 h1).1
          refine ⟨out2,?_,k2⟩
          rw [Qae hi']
          exact Qcq h1 h2 (Qp0 hop hg has hl (Nat.eq_of_beq_eq_true hlen.1) (fun t ht=>Xd (hlen.2 t ht)) hxA hlA hxB hlB hp) k1
         ·cases hS
        ·cases hS
       ·cases hS
      ·cases hSA
     ·cases hSA
    ·cases hSA
   ·cases hi
  ·cases hi
 ·cases hi
theorem Qqp {g:Operand} {ps:Array Tmp} {assign body:Code} {f:FuncId} {fn:Func} {c:Code} {first caps:List AV} (hg:evo (lk st.slots) g=some (.fn (.func f) first caps)) (hf:P.funcs[f]?=some fn) (hb:fn.body=some c) (hn:(fn.name == "runtime.NumGoroutine")=false)
  (hle:Nat.ble (first++[AV.yld st.objs.length]++caps).length fn.ntmps=true) (hrd:Qqk rd st.objs=true)
  (h:WP P none (st.objs.length+1) c (Qhk st ps.toList assign body first caps fn.ntmps) (fun out0=>∃out,Yg P fn st out0=some out∧Φ out)):WP P rd base (.rangeFunc g ps assign body) st Φ:=by
 obtain ⟨out0,h0,out,h1,h2⟩:=h
 refine ⟨out,Qjl hg hf hb hn (Nat.le_of_ble_eq_true hle) (fun l hl=>?_) h0 h1,h2⟩
 subst hl
 simp only [Qqk] at hrd
 split at hrd
 ·rename_i s _ hob
  refine ⟨_,_,_,_,_,_,_,hob,fun e=>?_⟩
  subst e; cases hrd
 ·cases hrd
theorem Qp2 {α R:Type} {G:Option α} {K:α→Option R} {r:R} {X:Prop} (h:G.bind K=some r) (k:∀a,G=some a→K a=some r→X):X:=by
 cases hg:G with
 | none=>rw [hg] at h; cases h
 | some a=>rw [hg] at h; exact k a hg h
theorem Quc {i:Nat} (hk:Wk P base st st') (h:RW P rd base ops none i st' Φ):RW P rd base ops none i st Φ:=by
 obtain ⟨out,h1,h2⟩:=h
 refine ⟨out,?_,h2⟩
 intro B W0 D0 dl M ι a W n Q r hs hr hp
 obtain ⟨M',ι',hM,hι,hs'⟩:=hk B W0 D0 dl M ι a W hs
 exact h1 B W0 D0 dl M' ι' a W n Q r hs' (hr.mono hι) (hp.step hM hι (List.suffix_refl _))
end
abbrev vI (n:Int):AV:=.int .i64 n
abbrev eI:Int→AV:=AV.int .i64
abbrev vB (b:Bool):AV:=.bool b
abbrev oR {α:Type} (fl:Bool) (w:Nat) (enc:α→AV) (l:List α):AObj:=.row false false true fl w (l.map enc)
abbrev oX (nr fl:Bool) (w:Nat) (x:AV):AObj:=.row true false nr fl w [x]
def Qbr:Code→List Bool→Code
 | .seq a b,false::r=>Qbr a r
 | .seq a b,true::r=>Qbr b r
 | .cond _ a b,false::r=>Qbr a r
 | .cond _ a b,true::r=>Qbr b r
 | .block _ b,_::r=>Qbr b r
 | .loop b,_::r=>Qbr b r
 | .scope b,_::r=>Qbr b r
 | .rangeFunc _ _ a b,false::r=>Qbr a r
 | .rangeFunc _ _ a b,true::r=>Qbr b r
 | c,_=>c
def cA (fn:Func) (w:List Bool):Code:=Qbr (fn.body.getD .skip) (w++[false])
def cB (fn:Func) (w:List Bool):Code:=Qbr (fn.body.getD .skip) (w++[true])
end Go.Ab
namespace Go.Ab
open Go.RowKit
section
variable {P:Program} {B:Nat} {W0 W W1:World} {D:List Nat} {M M1:CM} {ι ι1:Inj} {σ σ' σ1:Sto}
end
section
variable {objs new:List AObj}
end
def Qqn (n m o:Nat):Bool:=Nat.ble n o && Nat.blt o m
def Qui (n m:Nat):AObj→Bool
 | .row _ _ nr _ _ xs=>nr || xs.all fun x=>x.flat.all fun y=>y.ids.all (Qqn n m)
 | .refs j _=>Qqn n m j
 | .fam _ _ _=>true
 | .dead=>true
 | .loop ..=>false
def Qrw:Nat → List AObj→Bool
 | 0,_=>true
 | n+1,.dead::r=>Qrw n r
 | _,_=>false
section
variable {P:Program} {ops:Array Oper} {st st':St} {o:Oper} {rd:Option Nat} {base:Nat} {Φ:AOut→Prop} {d:Option (List Sk)} {i:Nat}
noncomputable def Qqe (P:Program) (fn:Func) (ops:Array Oper) (i:Nat) (st:St):AOut→Option St
 | .go e st'=>if e.ends && Qrw st.objs.length st'.objs && Nat.ble st'.objs.length BIG && (st'.objs.drop st.objs.length).all (Qui st.objs.length st'.objs.length) then match resultA P fn st',ops[i]? with
   | some x,some o=>match X0 st.slots st.nt o.dst (some x) with
    | some slots=>if x.ids.all (Qqn st.objs.length st'.objs.length) then some ⟨slots,st.objs++st'.objs.drop st.objs.length,st.nt⟩ else none
    | none=>none
   | _,_=>none
  else none
 | .pan _=>none
def Qrr (st S:St):List Sk:=[(List.range' st.objs.length (S.objs.length - st.objs.length),[])]
end
end Go.Ab
namespace Go.Ab
open Go.RowKit
section
variable {P:Program} {B:Nat} {W0 W:World} {D D0 dl:List Nat} {M:CM} {ι:Inj} {σ:Sto} {st st':St} {a:Act} {base:Nat}
theorem Qra {x y:AV} (h:y∈x.flat):∀o∈y.ids,o∈x.ids:=by
 cases x with
 | agg cs=>intro o ho; simp only [AV.ids,Qbp]; exact ⟨y,h,ho⟩
 | _=>simp only [AV.flat,List.mem_singleton] at h; subst h; exact fun o ho=>ho
theorem TrE.congr {ι':Inj} {x:AV} (h:∀o∈x.ids,ι' o=ι o):TrE M ι ι' x x :=
 ⟨fun _ h=>h,fun h=>h,fun j y hj=>⟨y,hj,fun v hv=>hv.congr (fun o ho=>h o (Qra (List.mem_of_getElem? hj) o ho)),fun v hv=>hv⟩⟩
variable {rd:Option Nat} {ops:Array Oper} {S:St} {o:Oper} {out:AOut} {Φ:AOut→Prop} {d:Option (List Sk)} {i:Nat}
theorem exec_post {c:Code} {e:Zc} {st1:St} (h:Zp P rd base c st (.go e st')) (hw:Wk P base st' st1):Zp P rd base c st (.go e st1):=by
 intro B W0 D0 dl M ι a W n Q r hs hr hp
 refine h B W0 D0 dl M ι a W n Q r hs hr ⟨fun e' s he dl' M' ι' a' W' g1 g2 g3 g4=>?_,fun v he=>(by cases he)⟩
 cases he
 obtain ⟨M2,ι2,k1,k2,k3⟩:=hw _ _ _ _ _ _ _ _ g4
 exact hp.go e st1 rfl dl' M2 ι2 a' W' (g1.trans k1) (g2.trans k2) g3 k3
theorem Qsh {c:Code} (h:WP P rd base c st (fun out=>match out with | .go e s=>∃s1,Wk P base s s1∧Φ (.go e s1) | .pan v=>Φ (.pan v))):WP P rd base c st Φ:=by
 obtain ⟨out,h1,h2⟩:=h
 cases out with
 | pan v=>exact ⟨_,h1,h2⟩
 | go e s=>obtain ⟨s1,h3,h4⟩:=h2; exact ⟨_,exec_post h1 h3,h4⟩
end
end Go.Ab
namespace Go.Ab
open Go.RowKit
open Go.ChangeShapes in
theorem post_of_below {H:Type} {enc:TypeId × Value→H} {P:Program} {f:Func} {s:ChangeSpec} {apart fresh handsOn again:Bool} {W W':World} {args:Array Value} {v:Value} {ds gs:List (DataW H)} {before pa pv:List MemPlace}
  (hW:DataW.Whole enc P f.params.toList s.vars apart W args.toList ds gs before)
  (hres:∀(b:Nat) (sp:Nat → Bool) (hd:Bool),DataW.TrodAll enc P W' b sp hd f.resultTypes.toList (v.resultList f.resultTypes.size) (s.fn H (ds++gs)).results [])
  (hargs:∀sp:Nat → Bool,(∀p∈before,sp p.block=true)→DataW.TrodAll enc P W' 0 sp true f.params.toList args.toList (s.fn H (ds++gs)).args pa)
  (hvars:∀sp:Nat → Bool,(∀p∈before,sp p.block=true)→DataW.TrodVars enc P W' sp s.vars (s.fn H (ds++gs)).vars pv)
  (hps:before=pa++pv) (hb:Below W.heap.size W W')
  (hok:∀(j:Nat) (t:TypeId) (r:Value),f.resultTypes[j]?=some t→(v.resultList f.resultTypes.size)[j]?=some r→Value.okWide P W' .any 0 t r) :
  s.post enc P f apart fresh handsOn again W args v W':=by
 have hold:∀p∈before,(fun b=>decide (b < W.heap.size)) p.block=true:=fun p hp=>by simpa using hW.lt p hp
 have hlt:=hW.lt
 refine ⟨ds,gs,before,[],pa,pv,hW,hres _ _ _,hargs _ hold,hvars _ hold,World.keptBut_mono (fun p hp=>⟨hp,?_⟩) (hb.frame (·∈before)),fun _=>?_⟩
 ·rw [hps,List.mem_append] at hp
  exact Or.inr hp
 ·obtain ⟨_,_,_,_,_,hz,hn⟩:=hW
  refine ⟨hok,_,_,([]++pa)++pv,⟨[]++pa,pv,trodAll_append (hargs _ (fun _ _=>rfl)) (hres _ _ _),hvars _ (fun _ _=>rfl),rfl,?_,?_⟩,?_⟩
  ·intro b off hp
   have hm:MemPlace.cell b off∈before:=by rw [hps]; simpa using hp
   have h1:b < W.heap.size:=hlt _ hm
   rw [hb.frozen h1]
   exact hz b off hm
  ·intro ha
   have:=hn ha
   rw [hps] at this
   simpa using this
  ·intro p hp _
   rw [hps]
   simpa using hp
theorem Qo0 {P:Program} {f:FuncId} {args:List AV} {b:Bool} (h:Qv P f args (.ret (.bool b) [])) {W:World} {M:CM} {vs:Array Value} (hM:V1 M W) (hl:vs.size=args.length)
  (hr:∀(j:Nat) (v:Value) (a:AV),vs[j]?=some v→args[j]?=some a→Qa M noInj v a):Calls P f vs W fun e W'=>e=.returned (.bool b)∧Below W.heap.size W W':=by
 refine (h W M vs hM hl hr).mono fun e W' he=>?_
 obtain ⟨v,M',ι',he,_,hrel,_,hv⟩:=he
 cases hv
 exact ⟨he,hrel.below.toBelow⟩
theorem Qqv {w:World} (hg:GlobIn w):V1 M0 w:=⟨fun b o v h=>by
 have h':((Kc b).bind fun xs=>xs[o]?)=some v:=h
 cases hb:Kc b with
 | none=>rw [hb] at h'; cases h'
 | some xs=>rw [hb] at h'; exact hg b xs hb o v h',fun b x h=>(by cases h),fun b o v h=>(by cases h)⟩
theorem calls_bool0 {P:Program} {f:FuncId} {b:Bool} (h:Qv P f [] (.ret (.bool b) [])) (W:World) (hg:GlobIn W:=by exact fun _ _ h=>by cases h):Calls P f #[] W fun e W'=>e=.returned (.bool b)∧Below W.heap.size W W' :=
 Qo0 h (M:=M0) (Qqv hg) rfl (fun j v a h=>by simp at h)
end Go.Ab
namespace Go.Ab
open Go.RowKit
theorem Qou {M:CM} {ι:Inj} {v:Value} {fl:Bool} (h:Qa M ι v (.lst fl [])):Qa M ι v .nils∨Qa M ι v .emn:=by
 cases h with
 | lst0 a =>
  cases a with
  | none=>exact .inl .nils
  | some a=>exact .inr (.emn a 0)
 | lst b off cap=>exact .inr (.emn _ cap)
theorem Qv.nil {P:Program} {f:FuncId} {l1 l2:List AV} {fl:Bool} {out:Zr} (h1:Qv P f (l1++.nils::l2) out) (h2:Qv P f (l1++.emn::l2) out):Qv P f (l1++.lst fl []::l2) out:=by
 intro W M vs hM hsz hr
 have hlt:l1.length < vs.size:=by simp at hsz; omega
 have h0:=hr l1.length vs[l1.length] (.lst fl []) (by simp [hlt]) (by simp)
 have other:∀y,Qa M noInj vs[l1.length] y→∀(j:Nat) (v:Value) (a:AV),vs[j]?=some v→(l1++y::l2)[j]?=some a→Qa M noInj v a:=by
  intro y hy j v a hv ha
  rcases Nat.lt_trichotomy j l1.length with c | c | c
  ·refine hr j v a hv ?_
   rw [List.getElem?_append_left c] at ha ⊢; exact ha
  ·subst c
   rw [List.getElem?_append_right (Nat.le_refl _)] at ha
   simp at ha; subst ha
   rw [Array.getElem?_eq_getElem hlt] at hv; cases hv; exact hy
  ·refine hr j v a hv ?_
   rw [List.getElem?_append_right (by omega)] at ha ⊢
   rw [show j - l1.length=(j - l1.length - 1)+1 by omega] at ha ⊢
   simpa using ha
 rcases Qou h0 with e | e
 ·exact h1 W M vs hM (by simpa using hsz) (other _ e)
 ·exact h2 W M vs hM (by simpa using hsz) (other _ e)
section
variable {P:Program} {base:Nat} {st st':St}
end
theorem Qv.froz {P:Program} {f:FuncId} {args:List AV} {v y:AV} {objs:List AObj} {ids:List Nat} (h:Qv P f args (.ret v objs)) (hs:Qj (fun k=>objs[k]?) Qo v=some (y,ids)):Qv P f args (.ret y []):=by
 intro W M vs hM hsz hr
 refine (h W M vs hM hsz hr).mono fun e W' he=>?_
 obtain ⟨u,M',ι',rfl,hg,hrel,hout,hv⟩:=he
 refine ⟨u,_,noInj,rfl,hg.trans (hrel.growC ids),⟨hrel.size,hrel.below,hrel.defs,J2 hrel.agree,fun o bx nr fl w xs p k ho=>(by simp at ho),fun o bx ro nr fl w xs ho=>(by simp at ho),fun o fn sl ps as bd st pe ho=>(by simp at ho),fun o o' bx nr fl w xs bx' nr' fl' w' xs' p p' _ ho=>(by simp at ho),fun o o' fn sl ps as bd st pe fn' sl' ps' as' bd' st' pe' p p' _ ho=>(by simp at ho),fun o _=>.inl (by simp)⟩,fun _ _=>rfl,Xu hrel ids Qo v y ids u hs (fun k hk=>hk) hv⟩
section
variable {P:Program} {rd:Option Nat} {base:Nat} {ops:Array Oper} {st S:St} {Φ:AOut→Prop} {d:Option (List Sk)} {i:Nat}
end
end Go.Ab
namespace Go.Ab
open Go.RowKit
section
variable {H:Type} {enc:TypeId × Value→H} {P:Program} {w:World} {base:Nat} {hg:GlobIn w}
theorem Quw (cs:List AV):(AV.agg cs).flat = cs:=rfl
end
theorem Quj {x:AV} (h:x.cell=true):x.flat = [x]:=by cases x <;> simp_all [AV.flat,AV.cell]
end Go.Ab
namespace Go.Ab
section
variable {P:Program} {rd:Option Nat} {base:Nat} {ops:Array Oper} {st S:St} {Φ:AOut→Prop} {d:Option (List Sk)} {i:Nat} {c y:Code}
theorem rga {id:Nat} (hm:P.follows .mixedOrders=true) (h:RW P rd base ops (some []) 0 st Φ) (hB:Qj9 ops=true:=by kernel_rfl):WP P rd base (.region id ops true) st Φ:=Qsy (by simp [hm]) (Qnp hB) h
def gt (o:Option St) (d:St):St:=match o with | some S=>S | none=>d
noncomputable def lx (P:Program) (ops:Array Oper) (i:Nat) (st:St) (hv he:List LK) (b:Bool):St:=gt (Qop P false ops i st hv he b) st
theorem Qti {o:Option St} {d:St} (h:o.isSome=true):o=some (gt o d):=by
 cases o with
 | none=>cases h
 | some S=>rfl
theorem sl (nf:Bool) (hv he:List LK) (b:Bool) (hn:nf=false) (hk:RW P rd base ops (Zg d [Qmb P nf ops i st]) (i+1) (lx P ops i st hv he b) Φ) (h:(Qop P false ops i st hv he b).isSome=true:=by kernel_rfl):RW P rd base ops d i st Φ:=by
 subst hn; exact sgL false hv he b (Qti h) hk
theorem kr {α:Sort _} {a b:α} (h:a=b:=by kernel_rfl):a=b:=h
def gt0 (o:Option St):St:=match o with | some S=>S | none=>⟨[],[],0⟩
theorem gE {o:Option St} (h:o.isSome=true:=by kernel_rfl):o=some (gt0 o):=by
 cases o with
 | none=>cases h
 | some S=>rfl
def Qrn (b:Bool):List Nat → List (Nat × AV)→List (Nat × AV)
 | [],s=>s
 | t::ts,s=>Qrn b ts (setS s t (.bool b))
def pB (ts:List Nat) (b:Bool) (st:St):St:=⟨Qrn b ts st.slots,st.objs,st.nt⟩
def setLen (n:Nat):AV→AV
 | .ref o i _=>.ref o i n
 | .lin o i _=>.lin o i n
 | x=>x
def Qrj (n:Nat):List Nat → List (Nat × AV)→List (Nat × AV)
 | [],s=>s
 | t::ts,s=>Qrj n ts (match lk s t with | some x=>setS s t (setLen n x) | none=>s)
def pL (ts:List Nat) (n:Nat) (st:St):St:=⟨Qrj n ts st.slots,st.objs,st.nt⟩
theorem rb (ts:List Nat) {R:Type} {b:Bool} {A B:Option R} {r:R} (h:(if b=true then A else B)=some r) (h1:b=true→A=some r→RW P rd base ops d i (pB ts true st) Φ) (h2:b=false→B=some r→RW P rd base ops d i (pB ts false st) Φ) (hS:st=pB ts b st:=by kernel_rfl):RW P rd base ops d i st Φ:=by
 rw [hS]; exact Qud (S:=fun b=>pB ts b st) h h1 h2
end
abbrev z1:List Int→AV:=eL true eI
abbrev z2:List (List Int)→AV:=eL false z1
abbrev zw:Int→Int:=IntKind.i64.wrap
abbrev zv:Int→Int:=IntKind.u64.wrap
abbrev zb:Int → BitVec (IntKind.bits .u64):=BitVec.ofInt (IntKind.bits .u64)
abbrev zt:Int→Nat := Int.toNat
abbrev zn {α:Type} (l:List α):Int:=(l.length:Int)
end Go.Ab
namespace Go.Ab
def Qlo {σ ρ:Type} (F:(σ→Option ρ)→σ→Option ρ):Nat → σ→Option ρ
 | 0,_=>none
 | n+1,s=>F (Qlo F n) s
def Qco (P:Program) (N:Nat) (c:Code) {σ ρ:Type} (I:σ→St) (E:ρ→St) (d:σ→Option ρ):Prop :=
 ∀s x,d s=some x→WP P none N c (I s) (fun o=>o=.go .ret (E x)∨o=.go .normal (E x))
theorem Qpr {P:Program} {N:Nat} {c:Code} {σ ρ:Type} {I:σ→St} {E:ρ→St} {F:(σ→Option ρ)→σ→Option ρ}
  (step:∀d,Qco P N c I E d→∀s x,F d s=some x→WP P none N c (I s) (fun o=>o=.go .ret (E x)∨o=.go .normal (E x))):∀n,Qco P N c I E (Qlo F n)
 | 0=>fun s x h=>by cases h
 | n+1=>fun s x h=>step _ (Qpr step n) s x h
section
variable {P:Program} {rd:Option Nat} {base:Nat} {ops:Array Oper} {st:St} {Φ:AOut→Prop} {i:Nat}
theorem Qus {σ ρ R:Type} {N:Nat} {c:Code} {I:σ→St} {E:ρ→St} {d:σ→Option ρ} {K:ρ→Option R} {r:R} {f:FuncId} {fn:Func} {as0:List AV} (s0:σ)
  (hi:Zh ops i st=some (f,as0)) (hf:P.funcs[f]?=some fn) (hb:fn.body=some c) (hn:(fn.name == "runtime.NumGoroutine")=false) (hle:Nat.ble as0.length fn.ntmps=true)
  (h0:(⟨Xr 0 as0,st.objs,fn.ntmps⟩:St)=I s0) (hN:st.objs.length=N) (IH:Qco P N c I E d) (h:(d s0).bind K=some r)
  (k:∀x,K x=some r→∃S,Qc9 P fn ops i st (.go .ret (E x))=some S∧RW P rd base ops none (i+1) S Φ):RW P rd base ops none i st Φ:=by
 cases hx:d s0 with
 | none=>rw [hx] at h; cases h
 | some x =>
  rw [hx] at h
  refine Qtb hi hf hb hn hle ?_
  rw [h0,hN]
  obtain ⟨out,h1,h2⟩:=IH s0 x hx
  refine ⟨out,h1,?_⟩
  rcases h2 with rfl | rfl
  ·exact k x h
  ·obtain ⟨S,k1,k2⟩:=k x h
   exact ⟨S,by rw [←k1]; rfl,k2⟩
end
section
variable {P:Program} {rd:Option Nat} {base:Nat} {ops:Array Oper} {st:St} {Φ:AOut→Prop} {i:Nat}
theorem Qum {σ ρ R:Type} {N:Nat} {c:Code} {I:σ→St} {E:ρ→St} {F:(σ→Option ρ)→σ→Option ρ} {K:ρ→Option R} {r:R} {f:FuncId} {fn:Func} {as0:List AV} (s0:σ)
  (hi:Zh ops i st=some (f,as0)) (hf:P.funcs[f]?=some fn) (hb:fn.body=some c) (hn:(fn.name == "runtime.NumGoroutine")=false) (hle:Nat.ble as0.length fn.ntmps=true)
  (h0:(⟨Xr 0 as0,st.objs,fn.ntmps⟩:St)=I s0) (hN:st.objs.length=N) (h:(Qlo F fuel s0).bind K=some r)
  (step:∀d,Qco P N c I E d→∀s x,F d s=some x→WP P none N c (I s) (fun o=>o=.go .ret (E x)∨o=.go .normal (E x)))
  (k:∀x,K x=some r→∃S,Qc9 P fn ops i st (.go .ret (E x))=some S∧RW P rd base ops none (i+1) S Φ):RW P rd base ops none i st Φ :=
 Qus s0 hi hf hb hn hle h0 hN (Qpr step fuel) h k
end
end Go.Ab
namespace Go.Ab
open Go.RowKit
def Qlm (P:Program) (f:FuncId) (az:List AV) (objs:List AObj) (r:AV) (objs':List AObj):Prop :=
 ∀(B:Nat) (W0 W:World) (D:List Nat) (M:CM) (ι:Inj) (vs:Array Value),Rel P B W0 D M ι (sto objs) W→D.Nodup→(∀k,¬ InB objs.length k→ι k=none)→objs.length≤BIG→vs.size=az.length →
  (∀(j:Nat) (v:Value) (a:AV),vs[j]?=some v→az[j]?=some a→Qa M ι v a) →
  Calls P f vs W fun e W'=>∃v M' ι',e=.returned v∧CM.Grow B M M'∧ι.le ι'∧Rel P B W0 D M' ι' (sto objs') W'∧(∀k,¬ InB objs'.length k→ι' k=none)∧objs'.length≤BIG∧Qa M' ι' v r
theorem Qog {P:Program} {rd:Option Nat} {base:Nat} {o:Oper} {st:St} {g:Operand} {args:Array Operand} {ts:Array TypeId} {f:FuncId} {fn:Func} {first caps az:List AV} {x:AV} {objs':List AObj} {slots:List (Nat × AV)}
  (ho:o.op=.call { callee:=.value g,args,argTypes:=ts }) (hg:evo (lk st.slots) g=some (.fn (.func f) first caps)) (has:Ye (lk st.slots) args.toList=some az)
  (hf:P.funcs[f]?=some fn) (hb:fn.body.isSome=true) (hn:(fn.name == "runtime.NumGoroutine")=false)
  (h:Qlm P f (first++az++caps) st.objs x objs') (hput:X0 st.slots st.nt o.dst (some x)=some slots) :
  OpX P rd base o st (.go .normal ⟨slots,objs',st.nt⟩):=by
 intro B W0 D0 dl M ι a W n Q r hs hr' hp
 have hgv:=Qc hs.slots hg
 generalize hgu:a.eval g=gu at hgv
 cases hgv with
 | fn _ first' caps' _ _ hy hm h1 h2 hr1 hr2 =>
 obtain ⟨l1,e1⟩:=Xs hs.slots has
 refine ⟨fun _ _=>trivial,?_⟩
 rw [Oper.semAt_eq _ _ _ (by rw [ho]; simp)]
 have hrun:(execOp a.eval o).run P W=.ok (.enter f (first'++args.map a.eval++caps')) W:=by
  simp only [execOp,ho,resolve,hgu,Deferred.ofValue,Sem.run_bind,Sem.run_pure,Result.andThen_ok,invoke]
  exact X4 hf hb hn _ W
 rw [hrun,Oper.uponIn_enter]
 have hrep:∀(j:Nat) (v:Value) (y:AV),(first'++args.map a.eval++caps')[j]?=some v→(first++az++caps)[j]?=some y→Qa M ι v y :=
  Qe6 h1 (by simpa using l1.symm) h2 hr1 (fun j v y hv hy=>by
   simp only [Array.getElem?_map,Option.map_eq_some_iff] at hv
   obtain ⟨w,hw,rfl⟩:=hv
   exact (e1 j w y (by simpa using hw) hy).2) hr2
 refine ⟨fun hd=>by simp [FW,Fence.wide] at hd,Qap ((h B W0 W (dl++D0) M ι _ hs.rel hs.df.nd hs.new hs.big (by simp [h1,h2,l1]) hrep).mono ?_)⟩
 rintro e W' ⟨v,M',ι',rfl,g1,g2,g3,g4,g4b,g5⟩
 obtain ⟨k1,k2,k3⟩:=Vt (u:=v) (hs.slots.mono g1.le g2) hs.nt hput (fun y hy=>by cases hy; exact g5)
 exact hp.go .normal _ rfl dl M' ι' _ W' g1 (g2.leB base) (List.suffix_refl _) ⟨g3,k1,k2,hs.df.put,g4,g4b⟩
def Qin (ops:Array Oper) (i:Nat) (st:St) (x:AV) (objs':List AObj):Option St :=
 match ops[i]? with
 | some o=>match X0 st.slots st.nt o.dst (some x) with
  | some slots=>some ⟨slots,objs',st.nt⟩
  | none=>none
 | none=>none
section
variable {P:Program} {rd:Option Nat} {base:Nat} {ops:Array Oper} {st:St} {Φ:AOut→Prop} {i:Nat}
theorem Qsn {f:FuncId} {fn:Func} {as0:List AV} {x:AV} {objs':List AObj} {S:St} (hi:Zh ops i st=some (f,as0)) (hf:P.funcs[f]?=some fn) (hb:fn.body.isSome=true) (hn:(fn.name == "runtime.NumGoroutine")=false)
  (h:Qlm P f as0 st.objs x objs') (hS:Qin ops i st x objs'=some S) (k:RW P rd base ops none (i+1) S Φ):RW P rd base ops none i st Φ:=by
 obtain ⟨o,g,args,ts,first,caps,as1,ho,hop,hg,has,rfl⟩:=Vz hi
 obtain ⟨h1,h2⟩:=Va ho
 unfold Qin at hS
 rw [h1] at hS
 simp only at hS
 split at hS
 ·rename_i slots hp
  cases hS
  obtain ⟨out2,k1,k2⟩:=k
  have hi':i < ops.size:=(Array.getElem?_eq_some_iff.1 h1).1
  refine ⟨out2,?_,k2⟩
  rw [Qae hi']
  exact Qcq h1 h2 (Qog hop hg has hf hb hn h hp) k1
 ·cases hS
end
end Go.Ab
namespace Go.Ab
open Go.RowKit
section
variable {P:Program} {ops:Array Oper} {G:Array Bool→Nat → Foot} {Q:Slots→Sto→Prop} {s:Slots} {σ:Sto}
end
section
variable {P:Program} {ops:Array Oper} {G:Array Bool→Nat → Foot} {s s':Slots} {σ:Sto} {B:Nat} {W0 W:World} {D:List Nat} {M:CM} {ι:Inj} {a:Act} {Q:Exit→Act→World→Prop} {QA:Slots→Sto→Prop}
end
section
variable {P:Program} {rd:Option Nat} {base:Nat} {ops ops0:Array Oper} {st st1 st2 st3:St}
theorem Vb.symm {F G:Foot} (h:Vb F G):Vb G F:=⟨h.b,h.a,fun e he e' he'=>Ne.symm (h.c e' he' e he)⟩
end
section
variable {P:Program} {rd:Option Nat} {base:Nat} {ops:Array Oper} {st st1 Sa Sb S3 S:St} {Φ:AOut→Prop} {i:Nat}
end
end Go.Ab
namespace Go.Ab
open Go.RowKit
section
variable {P:Program} {base:Nat} {st st':St}
end
theorem Qor {M:CM} {ι:Inj} {v:Value} {fl:Bool} {xs:List AV} (hs:List LK) (h:Qa M ι v (.lst fl xs)):Qa M ι v (.lst false (xs.map (Qr hs))):=by
 cases h with
 | lst0=>exact .lst0 _ _
 | lst b off cap w _ _ f hcap hfl hc hM hr =>
  have key:∀(i j:Nat) (x y:AV),(xs.map (Qr hs))[i]?=some x→x.flat[j]?=some y→∃x0 y0 h,xs[i]?=some x0∧x0.flat[j]?=some y0∧y=LK.ap h y0:=fun i j x y hi hj=>by
   rw [List.getElem?_map,Option.map_eq_some_iff] at hi
   obtain ⟨x0,e1,rfl⟩:=hi
   have hsh:=hc x0 (List.mem_of_getElem? e1)
   obtain ⟨hs',e2,_⟩:=J1 hs (x:=x0) hsh.form
   rw [e2] at hj
   obtain ⟨h,y0,e3,e4⟩:=Qdb hs' _ j y hj
   exact ⟨x0,y0,h,e1,e3,e4⟩
  have:=Qa.lst (M:=M) (ι:=ι) b off cap w false (xs.map (Qr hs)) f (by simpa using hcap) (fun h=>by cases h) (fun x hx=>by
   simp only [List.mem_map] at hx
   obtain ⟨z,hz,rfl⟩:=hx
   exact Qds hs (hc z hz)) (fun i j x y hi hj=>by
   obtain ⟨x0,y0,h,e1,e2,_⟩:=key i j x y hi hj
   exact hM i j x0 y0 e1 e2) (fun i j x y hi hj=>by
   obtain ⟨x0,y0,h,e1,e2,rfl⟩:=key i j x y hi hj
   exact LK.ap_rep h (hr i j x0 y0 e1 e2))
  simpa using this
def Qj7 (x y:AV):Prop:=∀(M:CM) (v:Value),Qa M noInj v x→Qa M noInj v y
theorem Qj7.lst {fl:Bool} {xs ys:List AV} (hs:List LK) (h:xs.map (Qr hs)=ys):Qj7 (.lst fl xs) (.lst false ys):=fun M v hr=>by subst h; exact Qor hs hr
inductive Qhi:List AV→List AV→Prop
 | nil:Qhi [] []
 | cons {x y:AV} {xs ys:List AV} (h:Qj7 x y) (hc:y.cell=x.cell) (k:Qhi xs ys):Qhi (x::xs) (y::ys)
theorem Qhi.at {xs ys:List AV} (h:Qhi xs ys):xs.length=ys.length∧∀(j:Nat) (y:AV),ys[j]?=some y→∃x,xs[j]?=some x∧Qj7 x y∧y.cell=x.cell:=by
 induction h with
 | nil=>exact ⟨rfl,fun j y h=>by simp at h⟩
 | cons h hc k ih =>
  refine ⟨by simp [ih.1],fun j y hj=>?_⟩
  cases j with
  | zero=>simp at hj; subst hj; exact ⟨_,rfl,h,hc⟩
  | succ j=>exact ih.2 j y (by simpa using hj)
theorem Qj7.agg {xs ys:List AV} (h:Qhi xs ys):Qj7 (.agg xs) (.agg ys):=fun M v hr=>by
 cases hr with
 | agg cs' _ hsz hc hrr =>
  obtain ⟨hl,hat⟩:=h.at
  refine .agg cs' _ (by rw [←hl]; exact hsz) (fun y hy=>?_) (fun j v y hv hy=>?_)
  ·obtain ⟨j,hj,rfl⟩:=List.mem_iff_getElem.1 hy
   obtain ⟨x,e1,_,e3⟩:=hat j _ (List.getElem?_eq_getElem hj)
   rw [e3]; exact hc x (List.mem_of_getElem? e1)
  ·obtain ⟨x,e1,e2,_⟩:=hat j y hy
   exact e2 M v (hrr j v x hv e1)
section
variable {P:Program} {rd:Option Nat} {base:Nat} {ops:Array Oper} {st S:St} {Φ:AOut→Prop} {d:Option (List Sk)} {i:Nat}
end
end Go.Ab
