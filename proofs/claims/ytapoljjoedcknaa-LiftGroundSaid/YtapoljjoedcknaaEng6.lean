/- Rules. No conditions. -/
import Derived.Test.YtapoljjoedcknaaEng5
set_option linter.all false
namespace Go.Ab
open Go.RowKit
def lkI {α:Type} (l:List α) (n:Int):Option α:=if n < 0 then none else l[n.toNat]?
def sub {α:Type} (l:List α) (a b:Int):List α:=(l.drop a.toNat).take (b.toNat - a.toNat)
inductive Qk (σ ρ:Type) where
 | next (s:σ)
 | done (x:ρ)
def Qc {σ ρ:Type}:Nat → (σ→Option (Qk σ ρ))→σ→Option ρ
 | 0,_,_=>none
 | n+1,body,s=>match body s with
  | some (.next s')=>Qc n body s'
  | some (.done x)=>some x
  | none=>none
def fuel:Nat := 1152921504606846976
abbrev eL {α:Type} (fl:Bool) (enc:α→AV) (l:List α):AV:=.lst fl (l.map enc)
theorem Vt {α:Type} {l:List α} {n:Int} {a:α} (h:lkI l n=some a):0≤n∧n.toNat < l.length∧l[n.toNat]?=some a:=by
 unfold lkI at h
 split at h
 ·cases h
 ·rename_i hn; exact ⟨by omega,(List.getElem?_eq_some_iff.1 h).1,h⟩
section
variable {P:Program} {rd:Option Nat} {base:Nat} {ops:Array Oper} {st st1 st' S:St} {o:Oper} {F:Foot} {out:AOut} {Φ:AOut→Prop} {d:Option (List Sk)} {i:Nat} {nf:Bool}
noncomputable abbrev St.sto (st:St):Sto:=Ab.sto st.objs
def Xy (ops:Array Oper) (i:Nat) (st:St):Option Oper :=
 match ops[i]? with
 | some o=>match X9 ops (lk st.slots) o with
  | some true=>some o
  | _=>none
 | none=>none
def Z1 (ops:Array Oper) (i:Nat) (st:St) (v:Option AV) (eff:List (Nat × AObj)):Option St :=
 match ops[i]? with
 | some o=>match Ye st.objs eff,Y9 st.slots st.nt o.dst v with
  | some objs,some slots=>some ⟨slots,objs,st.nt⟩
  | _,_=>none
 | none=>none
theorem V7 (h:Xy ops i st=some o):ops[i]?=some o∧X9 ops (lk st.slots) o=some true:=by
 unfold Xy at h
 split at h
 ·rename_i o' ho
  split at h
  ·rename_i hw; cases h; exact ⟨ho,hw⟩
  ·cases h
 ·cases h
theorem Qxl {v:Option AV} {eff:List (Nat × AObj)} {fr:Nat} {rds:List Nat} (ho:Xy ops i st=some o) (he:Zr P nf noC st.sto st.objs.length (lk st.slots) o=some (.val ⟨v,eff,fr,rds⟩))
  (hS:Z1 ops i st v eff=some S) (hl:S.objs.length=fr):Qye P ops i st (eff.map (·.1),rds) S:=by
 obtain ⟨h1,h2⟩:=V7 ho
 unfold Z1 at hS
 rw [h1] at hS
 simp only at hS
 split at hS
 ·rename_i objs slots ha hp
  cases hS
  exact ⟨o,_,h1,Qf9 noC_sound h2 he ha hp hl,Qh9 _⟩
 ·cases hS
theorem Qxr {v:Option AV} {eff:List (Nat × AObj)} (hS:Z1 ops i st v eff=some S):∃objs,Ye st.objs eff=some objs∧S.objs=objs:=by
 unfold Z1 at hS
 split at hS
 ·split at hS
  ·rename_i objs slots ha hp; cases hS; exact ⟨objs,ha,rfl⟩
  ·cases hS
 ·cases hS
theorem Yk {v:Option AV} (hS:Z1 ops i st v []=some S):S.objs.length=st.objs.length:=by
 obtain ⟨objs,ha,he⟩:=Qxr hS
 simp only [Ye,Option.some.injEq] at ha
 rw [he,←ha]
theorem Vr {v:Option AV} {eff:List (Nat × AObj)} {fr:Nat} {rds:List Nat} (ho:Xy ops i st=some o) (he:Zr P nf noC st.sto st.objs.length (lk st.slots) o=some (.val ⟨v,eff,fr,rds⟩))
  (hS:Z1 ops i st v eff=some S) (hl:S.objs.length=fr) (k:RW P rd base ops (Zd d [(eff.map (·.1),rds)]) (i+1) S Φ):RW P rd base ops d i st Φ:=Qb8 (Qxl ho he hS hl) k
def Qbx (P:Program) (ops:Array Oper) (i:Nat) (st:St):Option (AV × Int × Nat) :=
 match Xy ops i st with
 | some o=>match o.op with
  | .indexAddr t x ix=>match ti P t,evo (lk st.slots) x,evo (lk st.slots) ix with
   | some T,some a,some (.int _ n)=>match T.kind with
    | .slice e=>match ti P e with
     | some E=>some (a,n,E.size)
     | none=>none
    | _=>none
   | _,_,_=>none
  | _=>none
 | none=>none
theorem Qd8 {a:AV} {n:Int} {w:Nat} (h:Qbx P ops i st=some (a,n,w)):∃o t x ix k T e E,Xy ops i st=some o∧o.op=.indexAddr t x ix∧ti P t=some T∧T.kind=.slice e∧ti P e=some E∧E.size=w ∧
  evo (lk st.slots) x=some a∧evo (lk st.slots) ix=some (.int k n):=by
 unfold Qbx at h
 split at h
 ·rename_i o ho
  split at h
  ·rename_i t x ix hop
   split at h
   ·rename_i T a' k n' hT hx hix
    split at h
    ·rename_i e hk
     split at h
     ·rename_i E hE
      cases h
      exact ⟨o,t,x,ix,k,T,e,E,ho,hop,hT,hk,hE,rfl,hx,hix⟩
     ·cases h
    ·cases h
   ·cases h
  ·cases h
 ·cases h
theorem Qp {α:Type} {enc:α→AV} {l:List α} {n:Int} {w:Nat} {fl:Bool} {a:α} (hi:Qbx P ops i st=some (.lst fl (l.map enc),n,w)) (hw:Nat.beq (enc a).flat.length w=true)
  (hS:Z1 ops i st (some (.fz (enc a).flat)) []=some S) (ha:lkI l n=some a) (k:RW P rd base ops (Zd d [([],[])]) (i+1) S Φ):RW P rd base ops d i st Φ:=by
 obtain ⟨o,t,x,ix,kk,T,e,E,ho,hop,hT,hk,hE,rfl,hx,hix⟩:=Qd8 hi
 obtain ⟨h1,h2,h3⟩:=Vt ha
 have hw:=Nat.eq_of_beq_eq_true hw
 refine Vr (nf:=false) (v:=some (.fz (enc a).flat)) (eff:=[]) (fr:=st.objs.length) (rds:=[]) ho ?_ hS (Yk hS) k
 have hneg:¬ n < 0:=by omega
 unfold Zr
 rw [hop]
 simp only [Zz,Bool.false_eq_true,if_false]
 unfold evalOp
 rw [hop]
 simp only [hT,hx,hix,hk,asN,hneg,if_false,hE,List.getElem?_map,h3,Option.map_some,hw,if_true,Zt,Zv]
theorem blt_true {a b:Nat} (h:a < b):Nat.blt a b=true:=by simp only [Nat.blt]; exact Nat.ble_eq_true_of_le h
theorem Qbv {a b:Nat} (h:a≤b):Nat.ble a b=true:=Nat.ble_eq_true_of_le h
theorem Qy {α:Type} {enc:α→AV} {l:List α} {n:Int} {w:Nat} {ro nr fl:Bool} {ob:Nat} {a:α} (hi:Qbx P ops i st=some (.ref ob 0 l.length,n,w)) (hrow:st.sto ob=some (.row false ro nr fl w (l.map enc)))
  (hS:Z1 ops i st (some (.ptr ob n.toNat 0)) []=some S) (ha:lkI l n=some a) (k:RW P rd base ops (Zd d [([],[ob])]) (i+1) S Φ):RW P rd base ops d i st Φ:=by
 obtain ⟨o,t,x,ix,kk,T,e,E,ho,hop,hT,hk,hE,rfl,hx,hix⟩:=Qd8 hi
 obtain ⟨h1,h2,h3⟩:=Vt ha
 refine Vr (nf:=false) (v:=some (.ptr ob n.toNat 0)) (eff:=[]) (fr:=st.objs.length) (rds:=[ob]) ho ?_ hS (Yk hS) k
 have hneg:¬ n < 0:=by omega
 unfold Zr
 rw [hop]
 simp only [Zz,Bool.false_eq_true,if_false]
 unfold evalOp
 rw [hop]
 simp only [hT,hx,hix,hk,asN,hneg,if_false,hE,hrow,blt_true h2,Bool.true_and,decide_true,if_true,Zv,Nat.zero_add]
def Qbd (ops:Array Oper) (i:Nat) (st:St):Option (Nat × Nat × Nat) :=
 match Xy ops i st with
 | some o=>match (match o.op with | .load _ x=>evo (lk st.slots) x | .store _ x _=>evo (lk st.slots) x | _=>none) with
  | some (.ptr ob j c)=>some (ob,j,c)
  | _=>none
 | none=>none
def Qhk (P:Program) (ops:Array Oper) (i:Nat) (st:St) (c:Nat) (y:AV):Option St :=
 match Xy ops i st with
 | some o=>match o.op with
  | .load t _=>match ti P t with
   | some T=>match K6 T (y.flat.drop c) with
    | some v=>Z1 ops i st (some v) []
    | none=>none
   | none=>none
  | _=>none
 | none=>none
theorem Z3 {α:Type} {enc:α→AV} {l:List α} {n:Int} {w ob c:Nat} {bx ro nr fl:Bool} {a:α} (hp:Qbd ops i st=some (ob,n.toNat,c)) (hrow:st.sto ob=some (.row bx ro nr fl w (l.map enc))) (ha:lkI l n=some a)
  (hS:Qhk P ops i st c (enc a)=some S) (k:RW P rd base ops (Zd d [([],[ob])]) (i+1) S Φ):RW P rd base ops d i st Φ:=by
 obtain ⟨h1,h2,h3⟩:=Vt ha
 unfold Qhk at hS
 split at hS
 ·rename_i o ho
  split at hS
  ·rename_i t x hop
   split at hS
   ·rename_i T hT
    split at hS
    ·rename_i v hv
     have hx:evo (lk st.slots) x=some (.ptr ob n.toNat c):=by
      unfold Qbd at hp
      rw [ho] at hp
      simp only [hop] at hp
      split at hp
      ·rename_i hx; cases hp; exact hx
      ·cases hp
     refine Vr (nf:=false) (v:=some v) (eff:=[]) (fr:=st.objs.length) (rds:=[ob]) ho ?_ hS (Yk hS) k
     unfold Zr
     rw [hop]
     simp only [Zz,Bool.false_eq_true,if_false]
     unfold evalOp
     rw [hop]
     simp only [hT,hx,hrow,List.getElem?_map,h3,Option.map_some,hv,Zv]
    ·cases hS
   ·cases hS
  ·cases hS
 ·cases hS
def Qfj (P:Program) (ops:Array Oper) (i:Nat) (st:St):Option AV :=
 match Xy ops i st with
 | some o=>match o.op with
  | .store t _ y=>match ti P t,evo (lk st.slots) y with
   | some T,some v=>if v.okv && Nat.beq v.flat.length T.size then some v else none
   | _,_=>none
  | _=>none
 | none=>none
theorem Qcc {v:AV} {ob j c:Nat} (hp:Qbd ops i st=some (ob,j,c)) (hv:Qfj P ops i st=some v):∃o t x y T,Xy ops i st=some o∧o.op=.store t x y∧ti P t=some T∧evo (lk st.slots) x=some (.ptr ob j c)∧evo (lk st.slots) y=some v ∧
  (v.okv && Nat.beq v.flat.length T.size)=true:=by
 unfold Qfj at hv
 split at hv
 ·rename_i o ho
  split at hv
  ·rename_i t x y hop
   split at hv
   ·rename_i T v' hT hy
    split at hv
    ·rename_i hc
     cases hv
     refine ⟨o,t,x,y,T,ho,hop,hT,?_,hy,hc⟩
     unfold Qbd at hp
     rw [ho] at hp
     simp only [hop] at hp
     split at hp
     ·rename_i hx; cases hp; exact hx
     ·cases hp
    ·cases hv
   ·cases hv
  ·cases hv
 ·cases hv
theorem Zf {α:Type} {enc:α→AV} {l:List α} {n:Int} {w ob c:Nat} {bx nr fl:Bool} {a a':α} {v:AV} (nf:Bool) (hp:Qbd ops i st=some (ob,n.toNat,c)) (hrow:st.sto ob=some (.row bx false nr fl w (l.map enc))) (ha:lkI l n=some a)
  (hv:Qfj P ops i st=some v) (hk:(bx || nf || v.nr)=true) (hput:Qca (enc a) c v=some (enc a'))
  (hS:Z1 ops i st none [(ob,.row bx false (nr && v.nr) (fl && v.scs) w ((l.set n.toNat a').map enc))]=some S) (hl:Nat.beq S.objs.length st.objs.length=true) (k:RW P rd base ops (Zd d [([ob],[ob])]) (i+1) S Φ):RW P rd base ops d i st Φ:=by
 obtain ⟨h1,h2,h3⟩:=Vt ha
 obtain ⟨o,t,x,y,T,ho,hop,hT,hx,hy,hc⟩:=Qcc hp hv
 refine Vr (nf:=nf) (fr:=st.objs.length) (rds:=[ob]) ho ?_ hS (Nat.eq_of_beq_eq_true hl) k
 unfold Zr
 rw [hop]
 simp only [Zz,Bool.false_eq_true,if_false]
 unfold evalOp
 rw [hop]
 simp only [hT,hx,hy,hrow,List.getElem?_map,h3,Option.map_some,hc,if_true,hk,hput,frz,Qay,List.contains_nil,Bool.false_eq_true,if_false,List.nil_append,Zv,List.map_set]
theorem Q1g {α:Type} {enc:α→AV} {l:List α} {n:Int} {w ob c:Nat} {nr fl:Bool} {a a':α} {v0 v:AV} {ids:List Nat} {es:List (Nat × AObj)} (hp:Qbd ops i st=some (ob,n.toNat,c)) (hrow:st.sto ob=some (.row false false nr fl w (l.map enc))) (ha:lkI l n=some a)
  (hv:Qfj P ops i st=some v0) (hk:v0.nr=false) (hsn:Qt st.sto Qn v0=some (v,ids)) (hfz:frz st.sto ids=some es) (hno:ids.contains ob=false) (hput:Qca (enc a) c v=some (enc a'))
  (hS:Z1 ops i st none (es++[(ob,.row false false (nr && v.nr) (fl && v.scs) w ((l.set n.toNat a').map enc))])=some S) (hl:Nat.beq S.objs.length st.objs.length=true)
  (k:RW P rd base ops (Zd d [((es++[(ob,AObj.dead)]).map (·.1),ob::ids)]) (i+1) S Φ):RW P rd base ops d i st Φ:=by
 obtain ⟨h1,h2,h3⟩:=Vt ha
 obtain ⟨o,t,x,y,T,ho,hop,hT,hx,hy,hc⟩:=Qcc hp hv
 refine Vr (nf:=false) (fr:=st.objs.length) (rds:=ob::ids) ho ?_ hS (Nat.eq_of_beq_eq_true hl) (by simpa using k)
 unfold Zr
 rw [hop]
 simp only [Zz,Bool.false_eq_true,if_false]
 unfold evalOp
 rw [hop]
 have hno':¬ (ob∈ids):=by simpa using hno
 simp only [hT,hx,hy,hrow,List.getElem?_map,h3,Option.map_some,hc,if_true,Bool.false_or,hk,Bool.false_eq_true,if_false,hsn,hput,hfz,List.contains_eq_mem,hno',decide_false,Zv,List.map_set]
def Qru (P:Program) (ops:Array Oper) (i:Nat) (st:St):Option AV :=
 match Xy ops i st with
 | some o=>match o.op with
  | .call { callee:=.builtin .len,args,argTypes }=>match args.toList,argTypes.toList with
   | [x],t::_=>match ti P t with
    | some T=>match T.kind with
     | .slice _=>evo (lk st.slots) x
     | _=>none
    | none=>none
   | _,_=>none
  | _=>none
 | none=>none
theorem Qu {α:Type} {enc:α→AV} {l:List α} {fl:Bool} (hi:Qru P ops i st=some (.lst fl (l.map enc))) (hS:Z1 ops i st (some (.int .i64 (l.length:Int))) []=some S) (k:RW P rd base ops (Zd d [([],[])]) (i+1) S Φ):RW P rd base ops d i st Φ:=by
 unfold Qru at hi
 split at hi
 ·rename_i o ho
  split at hi
  ·rename_i args ts hop
   split at hi
   ·rename_i x t tr ha ht
    split at hi
    ·rename_i T hT
     split at hi
     ·rename_i e hk
      refine Vr (nf:=false) (v:=some (.int .i64 (l.length:Int))) (eff:=[]) (fr:=st.objs.length) (rds:=[]) ho ?_ hS (Yk hS) k
      unfold Zr
      rw [hop]
      simp only [Zz,Bool.false_eq_true,if_false]
      unfold evalOp
      rw [hop]
      simp only [Qof,ha,ht,hT,hi,hk,Zt,Zv,Option.map_some,List.length_map]
     ·cases hi
    ·cases hi
   ·cases hi
  ·cases hi
 ·cases hi
def Qi7 (P:Program) (ops:Array Oper) (i:Nat) (st:St):Option (AV × AV × Nat × Nat) :=
 match Xy ops i st with
 | some o=>match o.op with
  | .call { callee:=.builtin .append,args,argTypes }=>match args.toList,argTypes.toList with
   | [x,y],t::u::_=>match ti P t,ti P u,evo (lk st.slots) x,evo (lk st.slots) y with
    | some T,some _,some a,some b=>if !Nat.beq t u then none else match T.kind with
     | .slice e=>match ti P e with
      | some E=>if E.zok && Nat.blt 0 E.bytes && Nat.blt 0 E.size then some (a,b,E.size,E.bytes) else none
      | none=>none
     | _=>none
    | _,_,_,_=>none
   | _,_=>none
  | _=>none
 | none=>none
theorem Qhl {a b:AV} {w bytes:Nat} (hi:Qi7 P ops i st=some (a,b,w,bytes)):∃o E,Xy ops i st=some o∧Zz o.op=false∧E.size=w∧E.bytes=bytes∧E.zok=true∧0 < bytes∧0 < w ∧
  ∀nf ys nr fl rds r,Y5 st.sto w b=some (ys,nr,fl,rds)→(nr || nf)=true→absAppend st.sto st.objs.length E a ys nr fl=some r→Zr P nf noC st.sto st.objs.length (lk st.slots) o=some (.val { r with rd:=rds++r.rd }):=by
 unfold Qi7 at hi
 split at hi
 ·rename_i o ho
  split at hi
  ·rename_i args ts hop
   split at hi
   ·rename_i x y t u tr ha ht
    split at hi
    ·rename_i T U a' b' hT hU hx hy
     split at hi
     ·cases hi
     ·rename_i htu
      split at hi
      ·rename_i e hk
       split at hi
       ·rename_i E hE
        split at hi
        ·rename_i hc
         simp only [Bool.and_eq_true] at hc
         cases hi
         refine ⟨o,E,ho,by rw [hop]; rfl,rfl,rfl,hc.1.1,X0 hc.1.2,X0 hc.2,?_⟩
         intro nf ys nr fl rds r hel hn hr
         have htu':((!Nat.beq t u)=true)=False:=by simpa using htu
         unfold Zr
         rw [hop]
         simp only [Zz,Bool.false_eq_true,if_false]
         unfold evalOp
         rw [hop]
         simp only [Qae,ha,ht,hT,hU,hx,hy,htu',if_false,hk,hE,hel,hn,if_true,hr,Option.map_some,Zv]
        ·cases hi
       ·cases hi
      ·cases hi
    ·cases hi
   ·cases hi
  ·cases hi
 ·cases hi
theorem Qf6 {bytes n:Nat} (h0:0 < bytes) (h:n*bytes≤140737488355328):Yr bytes n=true:=by
 simp [Yr,blt_true h0,Qbv h]
theorem Je {α R:Type} {enc:α→AV} {l m:List α} {w bytes ob:Nat} {nr fl nr' fl':Bool} {b:AV} {rds:List Nat} {A:Option R} {r:R} (nf:Bool) (hi:Qi7 P ops i st=some (.ref ob 0 l.length,b,w,bytes)) (hrow:st.sto ob=some (.row false false nr fl w (l.map enc)))
  (hel:Y5 st.sto w b=some (m.map enc,nr',fl',rds)) (hn:(nr' || nf)=true)
  (hS:Z1 ops i st (some (.ref st.objs.length 0 (l++m).length)) [(ob,.dead),(st.objs.length,.row false false (nr && nr') (fl && fl') w ((l++m).map enc))]=some S) (hl:Nat.beq S.objs.length (st.objs.length+1)=true)
  (h:(if (l++m).length*bytes≤140737488355328 then A else none)=some r) (k:A=some r→RW P rd base ops (Zd d [([ob,st.objs.length],rds++[ob])]) (i+1) S Φ):RW P rd base ops d i st Φ:=by
 split at h
 ·rename_i hroom
  obtain ⟨o,E,ho,hm,rfl,rfl,hz,hb0,hw0,hev⟩:=Qhl hi
  refine Vr (nf:=nf) ho (hev nf _ _ _ _ ⟨some (.ref st.objs.length 0 (l++m).length),[(ob,.dead),(st.objs.length,.row false false (nr && nr') (fl && fl') E.size ((l++m).map enc))],st.objs.length+1,[ob]⟩ hel hn ?_) hS (Nat.eq_of_beq_eq_true hl) (k h)
  have h1:Nat.beq (0+l.length) l.length=true:=by simp
  have h2:Nat.ble (0+l.length) l.length=true:=by simp
  have h3:Yr E.bytes (l.length+m.length)=true:=by
   refine Qf6 hb0 ?_
   rw [←List.length_append]; exact hroom
  simp only [absAppend,hrow,Nat.beq_refl,h1,h2,hz,h3,Bool.and_self,if_true,List.drop_zero,List.map_append,List.length_append,List.length_map]
 ·cases h
theorem Qs2 {α R:Type} {enc:α→AV} {m:List α} {w bytes:Nat} {nr' fl':Bool} {a b:AV} {rds:List Nat} {A:Option R} {r:R} (nf:Bool) (hi:Qi7 P ops i st=some (a,b,w,bytes)) (ha:a=.nils∨a=.emp)
  (hel:Y5 st.sto w b=some (m.map enc,nr',fl',rds)) (hn:(nr' || nf)=true)
  (hS:Z1 ops i st (some (.ref st.objs.length 0 m.length)) [(st.objs.length,.row false false nr' fl' w (m.map enc))]=some S) (hl:Nat.beq S.objs.length (st.objs.length+1)=true)
  (h:(if m.length*bytes≤140737488355328 then A else none)=some r) (k:A=some r→RW P rd base ops (Zd d [([st.objs.length],rds)]) (i+1) S Φ):RW P rd base ops d i st Φ:=by
 split at h
 ·rename_i hroom
  obtain ⟨o,E,ho,hm,rfl,rfl,hz,hb0,hw0,hev⟩:=Qhl hi
  refine Vr (nf:=nf) ho (hev nf _ _ _ _ ⟨some (.ref st.objs.length 0 m.length),[(st.objs.length,.row false false nr' fl' E.size (m.map enc))],st.objs.length+1,[]⟩ hel hn ?_) hS (Nat.eq_of_beq_eq_true hl) (by simpa using k h)
  have h3:Yr E.bytes m.length=true:=Qf6 hb0 hroom
  rcases ha with rfl | rfl <;> simp only [absAppend,hz,h3,blt_true hw0,Bool.and_self,if_true,List.length_map]
 ·cases h
theorem Qco {σ:Sto} {α:Type} {enc:α→AV} {m:List α} {w:Nat} {fl:Bool} (hw:∀a,Nat.beq (enc a).flat.length w=true):Y5 σ w (.lst fl (m.map enc))=some (m.map enc,true,fl,[]):=by
 have:Qgq w (m.map enc)=true:=by cases m <;> simp [Qgq,Nat.eq_of_beq_eq_true (hw _)]
 simp only [Y5,this,if_true]
def Qub (P:Program) (ops:Array Oper) (i:Nat) (st:St):Option (Int × Int × AV × Nat × Nat) :=
 match Xy ops i st with
 | some o=>match o.op with
  | .makeSlice t x y=>match ti P t,evo (lk st.slots) x,evo (lk st.slots) y with
   | some T,some (.int _ n),some (.int _ m)=>match T.kind with
    | .slice e=>match ti P e with
     | some E=>match E.zero with
      | some z=>if Nat.beq z.flat.length E.size && Nat.blt 0 E.size && Nat.blt 0 E.bytes then some (n,m,z,E.size,E.bytes) else none
      | none=>none
     | none=>none
    | _=>none
   | _,_,_=>none
  | _=>none
 | none=>none
def Qpp (P:Program) (ops:Array Oper) (i:Nat) (st:St):Option (AV × Option AV × Option AV × Option AV × Nat) :=
 match Xy ops i st with
 | some o=>match o.op with
  | .slice t x lo hi mx=>if mx.isSome && hi.isNone then none else match ti P t,evo (lk st.slots) x,Jd (lk st.slots) lo,Jd (lk st.slots) hi,Jd (lk st.slots) mx with
   | some T,some a,some l,some h,some m=>match T.kind with
    | .slice e=>match ti P e with
     | some E=>some (a,l,h,m,E.size)
     | none=>none
    | _=>none
   | _,_,_,_,_=>none
  | _=>none
 | none=>none
theorem Qqw {a:AV} {l h m:Option AV} {w:Nat} (hi:Qpp P ops i st=some (a,l,h,m,w)):∃o,Xy ops i st=some o∧Zz o.op=false ∧
  ∀v rds,Jc st.sto w a l h m=some (v,rds)→Zr P false noC st.sto st.objs.length (lk st.slots) o=some (.val ⟨some v,[],st.objs.length,rds⟩):=by
 unfold Qpp at hi
 split at hi
 ·rename_i o ho
  split at hi
  ·rename_i t x lo hh mx hop
   split at hi
   ·cases hi
   ·rename_i hmx
    split at hi
    ·rename_i T a' l' h' m' hT hx h1 h2 h3
     split at hi
     ·rename_i e hk
      split at hi
      ·rename_i E hE
       cases hi
       refine ⟨o,ho,by rw [hop]; rfl,fun v rds hv=>?_⟩
       unfold Zr
       rw [hop]
       simp only [Zz,Bool.false_eq_true,if_false]
       unfold evalOp
       rw [hop]
       simp only [hmx,if_false,hT,hx,h1,h2,h3,hk,hE,hv,Option.map_some,Zv,Bool.false_eq_true]
      ·cases hi
     ·cases hi
    ·cases hi
  ·cases hi
 ·cases hi
theorem Qup {α:Type} {enc:α→AV} {l:List α} {w:Nat} (hw:∀a,Nat.beq (enc a).flat.length w=true):Qgq w (l.map enc)=true:=by
 cases l <;> simp [Qgq,Nat.eq_of_beq_eq_true (hw _)]
def loI:Option AV→Option Int
 | none=>some 0
 | some (.int _ a)=>some a
 | _=>none
def hiI (n:Nat):Option AV→Option Int
 | none=>some n
 | some (.int _ a)=>some a
 | _=>none
theorem Qzz {x:Option AV} {a:Int} (h:loI x=some a) (h0:0≤a):Yf x 0=some a.toNat := by
 unfold loI at h
 split at h
 ·cases h; rfl
 ·rename_i k b; cases h; simp [Yf,asN]; omega
 ·cases h
theorem Qy5 {n:Nat} {x:Option AV} {a:Int} (h:hiI n x=some a) (h0:0≤a):Yf x n=some a.toNat := by
 unfold hiI at h
 split at h
 ·cases h; simp [Yf]
 ·rename_i k b; cases h; simp [Yf,asN]; omega
 ·cases h
theorem Qvc {α R:Type} {enc:α→AV} {l:List α} {fl:Bool} {lo hi:Option AV} {a b:Int} {w:Nat} {A:Option R} {r:R} (hi':Qpp P ops i st=some (.lst fl (l.map enc),lo,hi,none,w)) (hw:∀a,Nat.beq (enc a).flat.length w=true)
  (ha:loI lo=some a) (hb:hiI l.length hi=some b) (hS:Z1 ops i st (some (.lst fl ((sub l a b).map enc))) []=some S)
  (h:(if 0≤a∧a≤b∧b≤l.length then A else none)=some r) (k:A=some r→RW P rd base ops (Zd d [([],[])]) (i+1) S Φ):RW P rd base ops d i st Φ:=by
 split at h
 ·rename_i hc
  obtain ⟨c1,c2,c3⟩:=hc
  obtain ⟨o,ho,hm,hev⟩:=Qqw hi'
  refine Vr (nf:=false) ho (hev (.lst fl ((sub l a b).map enc)) [] ?_) hS (Yk hS) (k h)
  have hb':Yf hi (l.map enc).length=some b.toNat := by rw [List.length_map]; exact Qy5 hb (by omega)
  have g1:Nat.ble a.toNat b.toNat = true:=Qbv (by omega)
  have g2:Nat.ble b.toNat (l.map enc).length=true:=Qbv (by rw [List.length_map]; omega)
  have g3:Nat.ble (l.map enc).length (l.map enc).length=true:=Qbv (Nat.le_refl _)
  have g4:Yf none (l.map enc).length=some (l.map enc).length:=rfl
  simp only [Jc]
  rw [Qzz ha c1,hb',g4]
  simp only [g1,g2,g3,Qup hw,Bool.and_self,if_true,Option.isSome_none,Bool.false_and,Bool.false_eq_true,if_false]
  simp [sub,List.map_take,List.map_drop]
 ·cases h
def Qdo (ops:Array Oper) (i:Nat) (st:St):Option (BinOp × IntKind × Int × IntKind × Int) :=
 match Xy ops i st with
 | some o=>match o.op with
  | .binOp op _ x y _=>match evo (lk st.slots) x,evo (lk st.slots) y with
   | some (.int k a),some (.int k' b)=>some (op,k,a,k',b)
   | _,_=>none
  | _=>none
 | none=>none
theorem Qbk {op:BinOp} {k k':IntKind} {a b:Int} (hi:Qdo ops i st=some (op,k,a,k',b)):∃o t x y t2,Xy ops i st=some o∧o.op=.binOp op t x y t2∧evo (lk st.slots) x=some (.int k a)∧evo (lk st.slots) y=some (.int k' b):=by
 unfold Qdo at hi
 split at hi
 ·rename_i o ho
  split at hi
  ·rename_i op' t x y t2 hop
   split at hi
   ·rename_i k1 a1 k2 b1 hx hy
    cases hi
    exact ⟨o,t,x,y,t2,ho,hop,hx,hy⟩
   ·cases hi
  ·cases hi
 ·cases hi
theorem Qkh {R:Type} {k:IntKind} {a b:Int} {A:Option R} {r:R} (hi:Qdo ops i st=some (.quo,k,a,k,b)) (hS:Z1 ops i st (some (.int k (k.wrap (a.tdiv b)))) []=some S) (h:(if b≠0 then A else none)=some r)
  (kk:A=some r→RW P rd base ops (Zd d [([],[])]) (i+1) S Φ):RW P rd base ops d i st Φ:=by
 split at h
 ·rename_i hb
  obtain ⟨o,t,x,y,t2,ho,hop,hx,hy⟩:=Qbk hi
  refine Vr (nf:=false) (v:=some (.int k (k.wrap (a.tdiv b)))) (eff:=[]) (fr:=st.objs.length) (rds:=[]) ho ?_ hS (Yk hS) (kk h)
  unfold Zr
  rw [hop]
  simp only [Zz,Bool.false_eq_true,if_false]
  unfold evalOp
  rw [hop]
  simp only [hx,hy,Qfw,if_true,Qh6,hb,if_false,Zt,Option.map_some,Zv]
 ·cases h
theorem Qdv {R:Type} {k:IntKind} {a b:Int} {A:Option R} {r:R} (hi:Qdo ops i st=some (.rem,k,a,k,b)) (hS:Z1 ops i st (some (.int k (a.tmod b))) []=some S) (h:(if b≠0 then A else none)=some r)
  (kk:A=some r→RW P rd base ops (Zd d [([],[])]) (i+1) S Φ):RW P rd base ops d i st Φ:=by
 split at h
 ·rename_i hb
  obtain ⟨o,t,x,y,t2,ho,hop,hx,hy⟩:=Qbk hi
  refine Vr (nf:=false) (v:=some (.int k (a.tmod b))) (eff:=[]) (fr:=st.objs.length) (rds:=[]) ho ?_ hS (Yk hS) (kk h)
  unfold Zr
  rw [hop]
  simp only [Zz,Bool.false_eq_true,if_false]
  unfold evalOp
  rw [hop]
  simp only [hx,hy,Qfw,if_true,Qh6,hb,if_false,Zt,Option.map_some,Zv]
 ·cases h
theorem Q0h {R:Type} {k k':IntKind} {a b:Int} {A:Option R} {r:R} (hi:Qdo ops i st=some (.shl,k,a,k',b)) (hS:Z1 ops i st (some (.int k (k.wrap (a*2^min b.toNat k.bits)))) []=some S) (h:(if 0≤b then A else none)=some r)
  (kk:A=some r→RW P rd base ops (Zd d [([],[])]) (i+1) S Φ):RW P rd base ops d i st Φ:=by
 split at h
 ·rename_i hb
  obtain ⟨o,t,x,y,t2,ho,hop,hx,hy⟩:=Qbk hi
  refine Vr (nf:=false) (v:=some (.int k (k.wrap (a*2^min b.toNat k.bits)))) (eff:=[]) (fr:=st.objs.length) (rds:=[]) ho ?_ hS (Yk hS) (kk h)
  have hb':¬ b < 0:=by omega
  unfold Zr
  rw [hop]
  simp only [Zz,Bool.false_eq_true,if_false]
  unfold evalOp
  rw [hop]
  simp only [hx,hy,Qfw,hb',if_false,Zt,Option.map_some,Zv]
 ·cases h
theorem Q2g {R:Type} {k k':IntKind} {a b:Int} {A:Option R} {r:R} (hi:Qdo ops i st=some (.shr,k,a,k',b)) (hS:Z1 ops i st (some (.int k (a.fdiv (2^min b.toNat k.bits)))) []=some S) (h:(if 0≤b then A else none)=some r)
  (kk:A=some r→RW P rd base ops (Zd d [([],[])]) (i+1) S Φ):RW P rd base ops d i st Φ:=by
 split at h
 ·rename_i hb
  obtain ⟨o,t,x,y,t2,ho,hop,hx,hy⟩:=Qbk hi
  refine Vr (nf:=false) (v:=some (.int k (a.fdiv (2^min b.toNat k.bits)))) (eff:=[]) (fr:=st.objs.length) (rds:=[]) ho ?_ hS (Yk hS) (kk h)
  have hb':¬ b < 0:=by omega
  unfold Zr
  rw [hop]
  simp only [Zz,Bool.false_eq_true,if_false]
  unfold evalOp
  rw [hop]
  simp only [hx,hy,Qfw,hb',if_false,Zt,Option.map_some,Zv]
 ·cases h
end
end Go.Ab
namespace Go.Ab
open Go.RowKit
inductive LK where
 | keep | lst (fl:Bool) | emp
def LK.ap:LK→AV→AV
 | .keep,x=>x
 | .lst fl,x=>match x with
  | .nils | .emp=>.lst fl []
  | .lst f xs=>.lst (f && fl) xs
  | x=>x
 | .emp,x=>match x with
  | .nils=>.emp
  | x=>x
def Qcy:List LK→List AV→List AV
 | h::hs,x::xs=>h.ap x::Qcy hs xs
 | _,xs=>xs
def Q3 (hs:List LK):AV→AV
 | .agg cs=>.agg (Qcy hs cs)
 | x=>match hs with
  | h::_=>h.ap x
  | []=>x
def Qe6:List (List LK)→List AV→List AV
 | h::hs,x::xs=>Q3 h x::Qe6 hs xs
 | _,xs=>xs
def Qdh (hss:List (List LK)):AV→AV
 | .tup vs=>.tup (Qe6 hss vs)
 | x=>match hss with
  | h::_=>Q3 h x
  | []=>x
theorem LK.ap_rep {M:CM} {ι:Inj} {v:Value} {x:AV} (h:LK) (hr:Qa M ι v x):Qa M ι v (h.ap x):=by
 cases h with
 | keep=>exact hr
 | emp =>
  cases x <;> simp only [LK.ap] <;> first | exact hr | (cases hr; exact .emp _)
 | lst fl =>
  cases x with
  | nils=>cases hr; exact .lst0 _ _
  | emp=>cases hr; exact .lst0 _ _
  | lst f xs =>
   cases hr with
   | lst0=>exact .lst0 _ _
   | lst b off cap w _ _ g hcap hfl hc hM hr =>
    exact .lst b off cap w _ xs g hcap (fun h=>hfl (by simp at h; exact h.1)) hc hM hr
  | _=>exact hr
theorem LK.ap_cell (h:LK) (x:AV):(h.ap x).cell=x.cell:=by
 cases h <;> cases x <;> rfl
theorem LK.ap_sc (h:LK) {x:AV} (hs:x.sc=true):(h.ap x).sc=true:=by
 cases h <;> cases x <;> first | exact hs | rfl
theorem LK.ap_nr (h:LK) {x:AV} (hs:x.nr=true):(h.ap x).nr=true:=by
 cases h <;> cases x <;> first | exact hs | rfl
theorem Qfb:∀(hs:List LK) (xs:List AV),(Qcy hs xs).length=xs.length
 | [],xs=>by cases xs <;> rfl
 | h::hs,[]=>rfl
 | h::hs,x::xs=>by simp [Qcy,Qfb hs xs]
theorem Qfl : ∀(hs:List LK) (xs:List AV) (j:Nat) (y:AV),(Qcy hs xs)[j]?=some y→∃h x,xs[j]?=some x∧y=LK.ap h x
 | [],xs,j,y,hj=>⟨.keep,y,by cases xs <;> simpa [Qcy] using hj,rfl⟩
 | h::hs,[],j,y,hj=>by simp [Qcy] at hj
 | h::hs,x::xs,0,y,hj=>by simp only [Qcy,List.getElem?_cons_zero,Option.some.injEq] at hj; exact ⟨h,x,rfl,hj.symm⟩
 | h::hs,x::xs,j+1,y,hj=>by
  simp only [Qcy,List.getElem?_cons_succ] at hj
  obtain ⟨h',x',e1,e2⟩:=Qfl hs xs j y hj
  exact ⟨h',x',by simpa using e1,e2⟩
theorem Qgo {hs:List LK} {xs:List AV} {y:AV} (hy:y∈Qcy hs xs):∃h x,x∈xs∧y=LK.ap h x:=by
 obtain ⟨j,hj,rfl⟩:=List.mem_iff_getElem.1 hy
 obtain ⟨h,x,e1,e2⟩:=Qfl hs xs j _ (List.getElem?_eq_getElem hj)
 exact ⟨h,x,List.mem_of_getElem? e1,e2⟩
theorem Qcb {M:CM} {ι:Inj} {v:Value} {x:AV} (hs:List LK) (hr:Qa M ι v x):Qa M ι v (Q3 hs x):=by
 cases x
 case agg cs =>
  simp only [Q3]
  cases hr with
  | agg cs' _ h hc hr =>
   refine .agg cs' _ (by rw [Qfb]; exact h) (fun y hy=>?_) (fun j v y hv hy=>?_)
   ·obtain ⟨h',x,hx,rfl⟩:=Qgo hy; rw [LK.ap_cell]; exact hc x hx
   ·obtain ⟨h',x,hx,rfl⟩:=Qfl hs cs j y hy; exact LK.ap_rep h' (hr j v x hv hx)
 all_goals (cases hs <;> simp only [Q3] <;> first | exact hr | exact LK.ap_rep _ hr)
theorem Ql8 : ∀(hs:List (List LK)) (xs:List AV) (j:Nat) (y:AV),(Qe6 hs xs)[j]?=some y→∃h x,xs[j]?=some x∧y=Q3 h x
 | [],xs,j,y,hj=>⟨[],y,by cases xs <;> simpa [Qe6] using hj,by cases y <;> rfl⟩
 | h::hs,[],j,y,hj=>by simp [Qe6] at hj
 | h::hs,x::xs,0,y,hj=>by simp only [Qe6,List.getElem?_cons_zero,Option.some.injEq] at hj; exact ⟨h,x,rfl,hj.symm⟩
 | h::hs,x::xs,j+1,y,hj=>by
  simp only [Qe6,List.getElem?_cons_succ] at hj
  obtain ⟨h',x',e1,e2⟩:=Ql8 hs xs j y hj
  exact ⟨h',x',by simpa using e1,e2⟩
theorem Qfa:∀(hs:List (List LK)) (xs:List AV),(Qe6 hs xs).length=xs.length
 | [],xs=>by cases xs <;> rfl
 | h::hs,[]=>rfl
 | h::hs,x::xs=>by simp [Qe6,Qfa hs xs]
theorem Qq6 {M:CM} {ι:Inj} {v:Value} {x:AV} (hs:List (List LK)) (hr:Qa M ι v x):Qa M ι v (Qdh hs x):=by
 cases x
 case tup vs =>
  simp only [Qdh]
  cases hr with
  | tup vs' _ h hr =>
   refine .tup vs' _ (by rw [Qfa]; exact h) (fun j v y hv hy=>?_)
   obtain ⟨h',x,hx,rfl⟩:=Ql8 hs vs j y hy; exact Qcb h' (hr j v x hv hx)
 all_goals (cases hs <;> simp only [Qdh] <;> first | exact hr | exact Qcb _ hr)
theorem Qbt (hs:List LK) {x:AV} (hx:x=.agg x.flat ∨ x.cell=true):∃hs',(Q3 hs x).flat = Qcy hs' x.flat ∧ (Q3 hs x=.agg (Q3 hs x).flat ∨ (Q3 hs x).cell=true):=by
 rcases hx with e | e
 ·generalize hf:x.flat = cs at e
  subst e
  exact ⟨hs,rfl,.inl rfl⟩
 ·have hf:=AV.flat_cell e
  rw [hf]
  cases hs with
  | nil=>exact ⟨[],by cases x <;> simp_all [Q3,Qcy,AV.cell,AV.flat],.inr (by cases x <;> simp_all [Q3,AV.cell])⟩
  | cons h r =>
   have hl:Q3 (h::r) x=h.ap x:=by cases x <;> simp_all [Q3,AV.cell]
   have hc:(h.ap x).cell=true:=by rw [LK.ap_cell]; exact e
   exact ⟨[h],by rw [hl,AV.flat_cell hc]; rfl,.inr (by rw [hl]; exact hc)⟩
theorem Qfi (hs:List LK) {x:AV} {w:Nat} (h:x.shaped w):(Q3 hs x).shaped w:=by
 obtain ⟨hs',e1,e2⟩:=Qbt hs h.form
 refine ⟨e2,by rw [e1,Qfb]; exact h.len,fun y hy=>?_⟩
 rw [e1] at hy
 obtain ⟨h',z,hz,rfl⟩:=Qgo hy
 rw [LK.ap_cell]; exact h.cells z hz
theorem Qtq (hs:List LK) {x:AV} (h:x.nr=true):(Q3 hs x).nr=true:=by
 cases x
 case agg cs =>
  simp only [Q3,AV.nr,Q1] at h ⊢
  intro y hy
  obtain ⟨h',z,hz,rfl⟩:=Qgo hy
  exact LK.ap_nr h' (h z hz)
 all_goals (cases hs <;> simp only [Q3] <;> first | exact h | exact LK.ap_nr _ h)
theorem Qqz (hs:List LK) {x:AV} {w:Nat} (hx:x.shaped w) (h:x.scs=true):(Q3 hs x).scs=true:=by
 obtain ⟨hs',e1,e2⟩:=Qbt hs hx.form
 rw [Qak] at *
 rw [e1]
 intro y hy
 obtain ⟨h',z,hz,rfl⟩:=Qgo hy
 exact LK.ap_sc h' (h z hz)
section
variable {P:Program} {B:Nat} {W0 W:World} {D:List Nat} {M:CM} {ι:Inj} {σ:Sto}
theorem Rel.lessRow (h:Rel P B W0 D M ι σ W) {o:Nat} {bx ro nr fl nr' fl':Bool} {w:Nat} {xs xs':List AV} (hσ:σ o=some (.row bx ro nr fl w xs)) (hl:xs'.length=xs.length)
  (hx:∀(i:Nat) (x x':AV),xs[i]?=some x→xs'[i]?=some x'→∃hs,x'=Q3 hs x) (hnr:nr'=true→AV.nrL xs'=true) (hfl:fl'=true→∀x∈xs',AV.scs x=true) :
  Rel P B W0 D M ι (σ.put o (.row bx ro nr' fl' w xs')) W:=by
 obtain ⟨p0,hp0,hrow⟩:=h.row o bx ro nr fl w xs hσ
 have hat : ∀(i:Nat) (x':AV),xs'[i]?=some x'→∃x hs,xs[i]?=some x∧x'=Q3 hs x:=fun i x' hi=>by
  have hlt:i < xs.length:=by rw [←hl]; exact (List.getElem?_eq_some_iff.1 hi).1
  obtain ⟨hs,e⟩:=hx i _ x' (List.getElem?_eq_getElem hlt) hi
  exact ⟨_,hs,List.getElem?_eq_getElem hlt,e⟩
 have hcell:∀(i j:Nat) (x' y':AV),xs'[i]?=some x'→x'.flat[j]?=some y'→∃x y,xs[i]?=some x∧x.flat[j]?=some y∧∃hk,y'=LK.ap hk y:=fun i j x' y' hi hj=>by
  obtain ⟨x,hs,e1,rfl⟩:=hat i x' hi
  obtain ⟨hs',e2,_⟩:=Qbt hs (hrow.shaped x (List.mem_of_getElem? e1)).form
  rw [e2] at hj
  obtain ⟨hk,y,e3,e4⟩:=Qfl hs' _ j y' hj
  exact ⟨x,y,e1,e3,hk,e4⟩
 refine ⟨h.size,h.below,h.defs,h.agree,fun k bx1 nr1 fl1 w1 xs1 q j hk hq hj=>?_,?_,?_,?_,?_,?_⟩
 ·by_cases e:k=o
  ·subst e; rw [Sto.put_same] at hk; cases hk; exact h.cool _ _ _ _ _ _ _ _ hσ hq hj
  ·rw [Sto.put_ne _ _ e] at hk; exact h.cool _ _ _ _ _ _ _ _ hk hq hj
 ·intro k bx1 ro1 nr1 fl1 w1 xs1 hk
  by_cases e:k=o
  ·subst e
   rw [Sto.put_same] at hk
   cases hk
   refine ⟨p0,hp0,⟨hrow.pw,hrow.pos,hrow.cpos,by rw [hl]; exact hrow.len,fun x' hx'=>?_,hnr,hfl,fun i j x' y' hi hj=>?_,hrow.own,fun hro i j x' y' hi hj=>?_⟩⟩
   ·obtain ⟨i,hi,rfl⟩:=List.mem_iff_getElem.1 hx'
    obtain ⟨x,hs,e1,e2⟩:=hat i _ (List.getElem?_eq_getElem hi)
    rw [e2]; exact Qfi hs (hrow.shaped x (List.mem_of_getElem? e1))
   ·obtain ⟨x,y,e1,e2,hk,rfl⟩:=hcell i j x' y' hi hj
    obtain ⟨v,hv,hr⟩:=hrow.cells i j x y e1 e2
    exact ⟨v,hv,LK.ap_rep hk hr⟩
   ·obtain ⟨x,y,e1,e2,hk,rfl⟩:=hcell i j x' y' hi hj
    obtain ⟨v,hv,hr⟩:=hrow.imm hro i j x y e1 e2
    exact ⟨v,hv,LK.ap_rep hk hr⟩
  ·rw [Sto.put_ne _ _ e] at hk
   exact h.row k bx1 ro1 nr1 fl1 w1 xs1 hk
 ·intro k fn sl ps as bd st pe hk
  have e:k≠o:=fun e=>by subst e; rw [Sto.put_same] at hk; cases hk
  rw [Sto.put_ne _ _ e] at hk
  exact h.loop k fn sl ps as bd st pe hk
 ·intro k k' bx1 nr1 fl1 w1 xs1 bx2 nr2 fl2 w2 xs2 q q' hkk h1 h2 hq hq'
  have g:∀k bx1 nr1 fl1 w1 xs1,σ.put o (.row bx ro nr' fl' w xs') k=some (.row bx1 false nr1 fl1 w1 xs1)→∃bx nr fl w xs,σ k=some (.row bx false nr fl w xs):=fun k bx1 nr1 fl1 w1 xs1 hk=>by
   by_cases e:k=o
   ·subst e; rw [Sto.put_same] at hk; cases hk; exact ⟨_,_,_,_,_,hσ⟩
   ·rw [Sto.put_ne _ _ e] at hk; exact ⟨_,_,_,_,_,hk⟩
  obtain ⟨_,_,_,_,_,g1⟩:=g _ _ _ _ _ _ h1
  obtain ⟨_,_,_,_,_,g2⟩:=g _ _ _ _ _ _ h2
  exact h.apart _ _ _ _ _ _ _ _ _ _ _ _ _ _ hkk g1 g2 hq hq'
 ·intro k k' fn sl ps as bd st pe fn' sl' ps' as' bd' st' pe' q q' hkk h1 h2 hq hq'
  have e:k≠o:=fun e=>by subst e; rw [Sto.put_same] at h1; cases h1
  have e':k'≠o:=fun e=>by subst e; rw [Sto.put_same] at h2; cases h2
  rw [Sto.put_ne _ _ e] at h1; rw [Sto.put_ne _ _ e'] at h2
  exact h.loops _ _ _ _ _ _ _ _ _ _ _ _ _ _ _ _ _ _ hkk h1 h2 hq hq'
 ·intro k hk
  have e:k≠o:=fun e=>by subst e; rw [hp0] at hk; cases hk
  rw [Sto.put_ne _ _ e]; exact h.used k hk
def Xv (hs:List LK) (b:Bool):List (Nat × AObj)→List (Nat × AObj)
 | []=>[]
 | (o,x)::es=>match es with
  | []=>match x with
   | .row bx ro nr fl w xs=>[(o,.row bx ro nr (b && fl) w (xs.map (Q3 hs)))]
   | x=>[(o,x)]
  | _=>(o,x)::Xv hs b es
theorem Rel.lessEff (hs:List LK) (b:Bool):∀(es:List (Nat × AObj)) (σ:Sto),Rel P B W0 D M ι (σ.puts es) W→Rel P B W0 D M ι (σ.puts (Xv hs b es)) W
 | [],σ,h=>h
 | (o,x)::es,σ,h=>by
  cases es with
  | cons e es=>exact Rel.lessEff hs b (e::es) (σ.put o x) h
  | nil =>
   cases x with
   | row bx ro nr fl w xs =>
    have h':Rel P B W0 D M ι (σ.put o (.row bx ro nr fl w xs)) W:=h
    obtain ⟨p,hp,hrow⟩:=h'.row o bx ro nr fl w xs (Sto.put_same _ _ _)
    have:=h'.lessRow (xs':=xs.map (Q3 hs)) (nr':=nr) (fl':=b && fl) (Sto.put_same _ _ _) (by simp) (fun i x x' hi hi'=>⟨hs,by simp [hi] at hi'; exact hi'.symm⟩)
     (fun hn=>by
      rw [Q1]; intro y hy
      simp only [List.mem_map] at hy
      obtain ⟨z,hz,rfl⟩:=hy
      exact Qtq hs (Q1.1 (hrow.nr hn) z hz))
     (fun hf y hy=>by
      simp only [List.mem_map] at hy
      obtain ⟨z,hz,rfl⟩:=hy
      exact Qqz hs (hrow.shaped z hz) (hrow.fl (by simp at hf; exact hf.2) z hz))
    have e:∀(σ:Sto) (x y:AObj),(σ.put o x).put o y=σ.put o y:=fun σ x y=>by
     funext k; by_cases e:k=o <;> simp [Sto.put,e]
    rw [e] at this
    exact this
   | loop=>exact h
   | dead=>exact h
   | fam=>exact h
   | refs=>exact h
theorem Qhe (hs:List LK) (b:Bool):∀(es:List (Nat × AObj)),(Xv hs b es).map (·.1)=es.map (·.1)
 | []=>rfl
 | (o,x)::es=>by
  cases es with
  | cons e es=>simp only [Xv,List.map_cons]; congr 1; exact Qhe hs b (e::es)
  | nil=>cases x <;> rfl
end
section
variable {P:Program} {rd:Option Nat} {base:Nat} {ops:Array Oper} {st st1 st' S:St} {o:Oper} {F:Foot} {out:AOut} {Φ:AOut→Prop} {d:Option (List Sk)} {i:Nat} {nf:Bool} {s:Slots} {σ:Sto} {c:Code}
theorem Qwa (hv he:List LK) (b:Bool) (h:YlL P ops o F s σ):YlL P ops o ⟨F.v.map (Q3 hv),Xv he b F.eff,F.fr,F.fr',F.rd⟩ s σ:=by
 intro s' σ' hs hσ
 rcases h s' σ' hs hσ with ⟨hw,hd⟩ | ⟨hw,h1,h2⟩
 ·refine .inl ⟨hw,?_⟩
  intro B W0 D M ι a W n Q r next hrel hsl hfree hpost
  refine hd B W0 D M ι a W n Q r next hrel hsl hfree (fun v W' M' ι' g1 g2 g3 g4 g5=>hpost v W' M' ι' g1 g2 g3 (Rel.lessEff he b _ _ g4) (fun x hx=>?_))
  simp only [Option.map_eq_some_iff] at hx
  obtain ⟨y,hy,rfl⟩:=hx
  exact Qcb hv (g5 y hy)
 ·exact .inr ⟨hw,by simp only [h1,Option.map_some]; cases hv <;> (try rename_i x _; cases x) <;> rfl,by simp [h2,Xv]⟩
theorem Qou {v:Option AV} {eff:List (Nat × AObj)} {fr:Nat} {rds:List Nat} (hv he:List LK) (b:Bool) {C:FuncId→List AV→Option Z2} (hC:Qgr P C) (ho:Xy ops i st=some o) (hev:Zr P nf C st.sto st.objs.length (lk st.slots) o=some (.val ⟨v,eff,fr,rds⟩))
  (hS:Z1 ops i st (v.map (Q3 hv)) (Xv he b eff)=some S) (hl:S.objs.length=fr) (k:RW P rd base ops (Zd d [(eff.map (·.1),rds)]) (i+1) S Φ):RW P rd base ops d i st Φ:=by
 obtain ⟨h1,h2⟩:=V7 ho
 unfold Z1 at hS
 rw [h1] at hS
 simp only at hS
 split at hS
 ·rename_i objs slots ha hp
  cases hS
  refine Qb8 (s:=(eff.map (·.1),rds)) ⟨o,⟨v.map (Q3 hv),Xv he b eff,st.objs.length,fr,rds⟩,h1,Qwp ?_ rfl hl.symm ha hp rfl,Q0v (by simp [Foot.sk,Qhe])⟩ k
  exact Qwa hv he b (ylL_ev hC h2 hev)
 ·cases hS
noncomputable def Qsu (P:Program) (nf:Bool) (ops:Array Oper) (i:Nat) (st:St) (hv he:List LK) (b:Bool):Option St :=
 match Xy ops i st with
 | some o=>match Zr P nf noC st.sto st.objs.length (lk st.slots) o with
  | some (.val ⟨v,eff,fr,rd⟩)=>match Z1 ops i st (v.map (Q3 hv)) (Xv he b eff) with
   | some S=>if Nat.beq S.objs.length fr then some S else none
   | none=>none
  | _=>none
 | none=>none
noncomputable def Qp4 (P:Program) (nf:Bool) (ops:Array Oper) (i:Nat) (st:St):Sk :=
 match Xy ops i st with
 | some o=>match Zr P nf noC st.sto st.objs.length (lk st.slots) o with
  | some (.val ⟨v,eff,fr,rd⟩)=>(eff.map (·.1),rd)
  | _=>([],[])
 | none=>([],[])
theorem sgL (nf:Bool) (hv he:List LK) (b:Bool) (h:Qsu P nf ops i st hv he b=some S) (k:RW P rd base ops (Zd d [Qp4 P nf ops i st]) (i+1) S Φ):RW P rd base ops d i st Φ:=by
 unfold Qsu at h
 unfold Qp4 at k
 split at h
 ·rename_i o ho
  rw [ho] at k
  simp only at k
  split at h
  ·rename_i v eff fr rds hev
   rw [hev] at k
   split at h
   ·rename_i S' hS
    split at h
    ·rename_i hl
     cases h
     exact Qou hv he b noC_sound ho hev hS (Nat.eq_of_beq_eq_true hl) k
    ·cases h
   ·cases h
  ·cases h
 ·cases h
theorem mkL {α R:Type} {enc:α→AV} {z:α} {z0:AV} {n m:Int} {w bytes:Nat} {A:Option R} {r:R} (he:List LK) (b:Bool) (hi:Qub P ops i st=some (n,m,z0,w,bytes)) (hz0:Q3 he z0=enc z)
  (hS:Z1 ops i st (some (.ref st.objs.length 0 (List.replicate n.toNat z).length)) [(st.objs.length,.row false false z0.nr (b && z0.scs) w ((List.replicate n.toNat z).map enc))]=some S) (hl:Nat.beq S.objs.length (st.objs.length+1)=true)
  (h:(if 0≤n∧n≤m∧m*bytes≤140737488355328 then A else none)=some r) (k:A=some r→RW P rd base ops (Zd d [([st.objs.length],[])]) (i+1) S Φ):RW P rd base ops d i st Φ:=by
 split at h
 ·rename_i hc
  obtain ⟨c1,c2,c3⟩:=hc
  unfold Qub at hi
  split at hi
  ·rename_i o ho
   split at hi
   ·rename_i t x y hop
    split at hi
    ·rename_i T k1 n' k2 m' hT hx hy
     split at hi
     ·rename_i e hk
      split at hi
      ·rename_i E hE
       split at hi
       ·rename_i z1 hz
        split at hi
        ·rename_i hb
         simp only [Bool.and_eq_true] at hb
         simp only [Option.some.injEq,Prod.mk.injEq] at hi
         obtain ⟨rfl,rfl,rfl,rfl,rfl⟩:=hi
         refine Qou (nf:=false) (v:=some (.ref st.objs.length 0 (List.replicate n'.toNat z1).length)) (eff:=[(st.objs.length,.row false false z1.nr z1.scs E.size (List.replicate n'.toNat z1))]) (fr:=st.objs.length+1) (rds:=[]) [] he b noC_sound ho ?_ ?_ (Nat.eq_of_beq_eq_true hl) (by simpa using k h)
         ·have hb0:=X0 hb.2
          have g1:¬ n' < 0:=by omega
          have g2:¬ m' < 0:=by omega
          have c3':m'.toNat * E.bytes≤140737488355328:=by
           have:((m'.toNat * E.bytes:Nat):Int)≤140737488355328:=by
            rw [Int.natCast_mul,Int.toNat_of_nonneg (by omega)]; exact c3
           omega
          have g3:=Qf6 hb0 c3'
          have g4:Nat.ble n'.toNat m'.toNat = true:=Qbv (by omega)
          have g5:Nat.ble m'.toNat 9223372036854775807=true:=by
           refine Qbv ?_
           have:=Nat.le_mul_of_pos_right m'.toNat hb0
           omega
          have g6:=hb.1.1
          have g7:=hb.1.2
          unfold Zr
          rw [hop]
          simp only [Zz,Bool.false_eq_true,if_false]
          unfold evalOp
          rw [hop]
          simp only [hT,hx,hy,hk,asN,g1,g2,if_false,hE,hz,g3,g4,g5,g6,g7,Bool.and_self,if_true,Zv,List.length_replicate]
         ·have e1:(List.replicate n'.toNat z1).map (Q3 he)=(List.replicate n'.toNat z).map enc:=by simp [List.map_replicate,hz0]
          have e2:(List.replicate n'.toNat z1).length=(List.replicate n'.toNat z).length:=by simp
          simp only [Xv,e1,e2,Option.map_some,Q3]
          exact hS
        ·cases hi
       ·cases hi
      ·cases hi
     ·cases hi
    ·cases hi
   ·cases hi
  ·cases hi
 ·cases h
def Wk (P:Program) (base:Nat) (st st':St):Prop :=
 ∀B W0 D0 dl M ι a W,Sim P B W0 D0 dl M ι st a W→∃M' ι',CM.Grow B M M'∧Inj.leB base ι ι'∧Sim P B W0 D0 dl M' ι' st' a W
theorem Qzq:Wk P base st st:=fun B W0 D0 dl M ι a W h=>⟨M,ι,.refl _ _,.refl _ _,h⟩
theorem Q9 (h1:Wk P base st st1) (h2:Wk P base st1 st'):Wk P base st st':=fun B W0 D0 dl M ι a W h=>by
 obtain ⟨M1,ι1,m1,e1,g1⟩:=h1 B W0 D0 dl M ι a W h
 obtain ⟨M2,ι2,m2,e2,g2⟩:=h2 B W0 D0 dl M1 ι1 a W g1
 exact ⟨M2,ι2,m1.trans m2,e1.trans e2,g2⟩
theorem Z5 {live keep:List Nat} (hg:Qcv base live keep st=some st'):Wk P base st st':=fun B W0 D0 dl M ι a W h=>let ⟨ι',e,g⟩:=h.gc hg; ⟨M,ι',.refl _ _,e,g⟩
theorem exec_wk (hk:Wk P base st st') (h:Xa P rd base c st' out):Xa P rd base c st out:=by
 intro B W0 D0 dl M ι a W n Q r hs hr hp
 obtain ⟨M',ι',hM,hι,hs'⟩:=hk B W0 D0 dl M ι a W hs
 exact h B W0 D0 dl M' ι' a W n Q r hs' (hr.mono hι) (hp.step hM hι (List.suffix_refl _))
theorem loopX_wk (hk:Wk P base st st') (h:Qgi P rd base c st' out):Qgi P rd base c st out:=by
 obtain ⟨m,hm⟩:=h
 refine ⟨m,?_⟩
 intro B W0 D0 dl M ι a W n Q r hs hr hp
 obtain ⟨M',ι',hM,hι,hs'⟩:=hk B W0 D0 dl M ι a W hs
 exact hm B W0 D0 dl M' ι' a W n Q r hs' (hr.mono hι) (hp.step hM hι (List.suffix_refl _))
theorem Qya (hk:Wk P base st st') (h:WP P rd base c st' Φ):WP P rd base c st Φ:=let ⟨o,h1,h2⟩:=h; ⟨o,exec_wk hk h1,h2⟩
theorem Qh8 (hk:Wk P base st st') (h:LWP P rd base c st' Φ):LWP P rd base c st Φ:=let ⟨o,h1,h2⟩:=h; ⟨o,loopX_wk hk h1,h2⟩
theorem Sim.lt {B:Nat} {W0 W:World} {D0 dl:List Nat} {M:CM} {ι:Inj} {a:Act} {o:Nat} {x:AObj} (h:Sim P B W0 D0 dl M ι st a W) (ho:st.objs[o]?=some x):o < BIG:=Nat.lt_of_lt_of_le (List.getElem?_eq_some_iff.1 ho).1 h.big
theorem Qcp {objs:List AObj} {o:Nat} {x:AObj} (hb:o < BIG) (ho:objs[o]?=some x) (hx:x.isPlain=true):sto objs o=some x:=by rw [Zh hb,ho]; simp [Qds hx]
def Qg2:AV→Bool
 | .nils | .emp=>true
 | _=>false
theorem Qho {M:CM} {ι:Inj} {v:Value} {x:AV} (h:Qg2 x=true) (hr:Qa M ι v x):∃a,v=.slice a 0 0:=by
 cases x <;> simp [Qg2] at h
 ·exact ⟨none,hr.nils_inv⟩
 ·exact hr.emp_inv
def Qr1 (t w:Nat) (nr fl:Bool) (st:St):Option St :=
 match lk st.slots t with
 | some x=>if Qg2 x && Nat.blt 0 w && Nat.blt st.objs.length BIG then some ⟨setS st.slots t (.ref st.objs.length 0 0),st.objs++[.row false false nr fl w []],st.nt⟩ else none
 | none=>none
theorem Sim.virt {B:Nat} {W0 W:World} {D0 dl:List Nat} {M:CM} {ι:Inj} {a:Act} (h:Sim P B W0 D0 dl M ι st a W) (nr fl:Bool) {w:Nat} (hw:0 < w) (hb:st.objs.length < BIG) :
  ∃p,ι st.objs.length=none∧p.cap=0∧Sim P B W0 D0 dl M (ι.put st.objs.length p) ⟨st.slots,st.objs++[.row false false nr fl w []],st.nt⟩ a W:=by
 have hn:=h.new st.objs.length (InB.not (Nat.le_refl _) hb)
 refine ⟨⟨B,0,w,0⟩,hn,rfl,⟨?_,fun k y hk=>(h.slots k y hk).mono (CM.le_refl _) (Inj.le_put _ hn),h.nt,h.df,fun k hk=>?_,by simp; omega⟩⟩
 ·show Rel P B W0 (dl++D0) M _ (sto (st.objs++[_])) W
  rw [Qfh rfl hb]
  exact h.rel.virt hn hw
 ·have hk:¬ InB (st.objs.length+1) k:=by simpa using hk
  rw [Inj.put_ne _ _ (fun e=>hk (.inl (by omega)))]; exact h.new k (fun c=>hk (c.mono (Nat.le_succ _)))
theorem Zj (t w:Nat) (nr fl:Bool) (h:Qr1 t w nr fl st=some st'):Wk P base st st':=by
 unfold Qr1 at h
 split at h
 ·rename_i x hx
  split at h
  ·rename_i hc
   simp only [Bool.and_eq_true] at hc
   cases h
   intro B W0 D0 dl M ι a W hsim
   obtain ⟨p,hn,hp,hv⟩:=hsim.virt nr fl (X0 hc.1.2) (X0 hc.2)
   obtain ⟨ad,had⟩:=Qho hc.1.1 (hsim.slots t x hx)
   refine ⟨M,_,.refl _ _,(Inj.le_put p hn).leB base,⟨hv.rel,fun k y hk=>?_,hv.nt,hv.df,hv.new,hv.big⟩⟩
   have hk:lk (setS st.slots t (.ref st.objs.length 0 0)) k=some y:=hk
   rw [Qdp] at hk
   split at hk
   ·rename_i e; cases hk; subst e; rw [had]; exact .ref0 _ _ _ (Inj.put_same _ _ _) hp
   ·exact hv.slots k y hk
  ·cases h
 ·cases h
def Quw (o i c w:Nat) (nr fl:Bool) (st:St):Option St :=
 match st.objs[o]? with
 | some (.row bx false nr0 fl0 w0 xs)=>match xs[i]? with
  | some x=>match x.flat[c]? with
   | some y=>if Qg2 y && Nat.blt 0 w && Nat.blt st.objs.length BIG then match Qca x c (.ref st.objs.length 0 0) with
     | some x'=>some ⟨st.slots,st.objs.set o (.row bx false false false w0 (xs.set i x'))++[.row false false nr fl w []],st.nt⟩
     | none=>none
    else none
   | none=>none
  | none=>none
 | _=>none
theorem Qax (o i c w:Nat) (nr fl:Bool) (h:Quw o i c w nr fl st=some st'):Wk P base st st':=by
 unfold Quw at h
 split at h
 ·rename_i bx nr0 fl0 w0 xs ho
  split at h
  ·rename_i x hx
   split at h
   ·rename_i y hy
    split at h
    ·rename_i hc
     split at h
     ·rename_i x' hx'
      simp only [Bool.and_eq_true] at hc
      cases h
      intro B W0 D0 dl M ι a W hsim
      obtain ⟨p,hn,hp,hv⟩:=hsim.virt nr fl (X0 hc.1.2) (X0 hc.2)
      have hlt:=(List.getElem?_eq_some_iff.1 ho).1
      refine ⟨M,_,.refl _ _,(Inj.le_put p hn).leB base,⟨?_,hv.slots,hv.nt,hv.df,fun k hk=>hv.new k (by simpa using hk),by simpa using hv.big⟩⟩
      show Rel P B W0 (dl++D0) M _ (sto (st.objs.set o _++[_])) W
      have hob:=hsim.lt ho
      have ho1:(st.objs++[AObj.row false false nr fl w []])[o]?=some (.row bx false nr0 fl0 w0 xs):=by rw [List.getElem?_append_left hlt]; exact ho
      have hos:=Qcp hob ho1 rfl
      have e1:sto (st.objs.set o (.row bx false false false w0 (xs.set i x'))++[AObj.row false false nr fl w []])=Sto.put (sto (st.objs++[AObj.row false false nr fl w []])) o (.row bx false false false w0 (xs.set i x')):=by
       rw [←Qb5 ho1 rfl rfl hob,List.set_append_left _ _ hlt]
      rw [e1]
      have hrel:=hv.rel
      obtain ⟨q,hq,hrow⟩:=hrel.row o bx false nr0 fl0 w0 xs hos
      have hxm:=List.mem_of_getElem? hx
      obtain ⟨g1,g2,g3⟩:=Qe0 hx' (hrow.shaped x hxm) ⟨.inr rfl,rfl,fun z hz=>by simp [AV.flat] at hz; subst hz; rfl⟩
      have hil:=(List.getElem?_eq_some_iff.1 hx).1
      have hcap:i*w0+w0≤q.cap*w0:=by
       have:(i+1)*w0≤q.cap*w0:=Nat.mul_le_mul_right _ (by have:=hrow.len; omega)
       rwa [Nat.succ_mul] at this
      have key:=hrel.write (bx':=bx) (nr':=false) (fl':=false) (xs':=xs.set i x') hos hq 0 [] (by simp) (by simpa using hrow.len)
       (fun z hz=>by
        rcases List.mem_or_eq_of_mem_set hz with hz | rfl
        ·exact hrow.shaped z hz
        ·exact g1) (by simp) (by simp)
       (fun k j z r hk hj hlo hhi=>by simp at hhi)
       (fun k j z r hk hj hout=>by
        by_cases e:k=i
        ·subst e
         rw [List.getElem?_set_self hil] at hk
         cases hk
         rcases g3 j r hj with ⟨b1,b2,b3⟩ | ⟨b1,b2⟩
         ·have hj0:j=c:=by simp [AV.flat] at b2; omega
          subst hj0
          simp [AV.flat] at b3
          subst b3
          obtain ⟨v,hv',hr⟩:=hrow.cells k j x y hx hy
          obtain ⟨ad,had⟩:=Qho hc.1.1 hr
          exact ⟨v,by rw [←Nat.add_assoc]; exact hv',by rw [had]; exact .ref0 _ _ _ (Inj.put_same _ _ _) hp⟩
         ·obtain ⟨v,hv',hr⟩:=hrow.cells k j x r hx b2
          exact ⟨v,by rw [←Nat.add_assoc]; exact hv',hr⟩
        ·rw [List.getElem?_set_ne (Ne.symm e)] at hk
         obtain ⟨v,hv',hr⟩:=hrow.cells k j z r hk hj
         exact ⟨v,by rw [←Nat.add_assoc]; exact hv',hr⟩)
      exact key
     ·cases h
    ·cases h
   ·cases h
  ·cases h
 ·cases h
noncomputable def Qkl (t:Nat) (y:AV) (ids:List Nat) (st:St):Option St :=
 match frz st.sto ids with
 | some es=>match Ye st.objs es with
  | some objs=>some ⟨setS st.slots t y,objs,st.nt⟩
  | none=>none
 | none=>none
theorem Qy9 (t:Nat) {x y:AV} {ids:List Nat} (hx:lk st.slots t=some x) (hsn:Qt st.sto Qn x=some (y,ids)) (h:Qkl t y ids st=some st'):Wk P base st st':=by
 unfold Qkl at h
 split at h
 ·rename_i es hes
  split at h
  ·rename_i objs ha
   cases h
   intro B W0 D0 dl M ι a W hsim
   obtain ⟨p1,p2,p3⟩:=Vi _ _ _ ha
   have h':=Jz hsim.rel hes
   have hg:=hsim.rel.growC ids
   refine ⟨_,ι,hg,.refl _ _,⟨?_,fun k z hk=>?_,hsim.nt,hsim.df,fun k hk=>hsim.new k (fun c=>hk (c.mono p2)),p3 hsim.big⟩⟩
   ·show Rel P B W0 (dl++D0) _ ι (sto objs) W
    rw [p1]; exact h'
   ·have hk:lk (setS st.slots t y) k=some z:=hk
    rw [Qdp] at hk
    split at hk
    ·rename_i e; cases hk; subst e
     exact (X4 hsim.rel ids Qn x y ids _ hsn (fun k hk=>hk) (hsim.slots _ x hx)).mono (CM.le_refl _) (Inj.noInj_le _)
    ·exact (hsim.slots k z hk).mono hg.le (Inj.le_refl _)
  ·cases h
 ·cases h
noncomputable def Ql2 (o i:Nat) (y:AV) (ids:List Nat) (st:St):Option St :=
 match frz st.sto ids with
 | some es=>match Ye st.objs es with
  | some objs=>match objs[o]? with
   | some (.row bx false nr fl w xs)=>some ⟨st.slots,objs.set o (.row bx false false false w (xs.set i y)),st.nt⟩
   | _=>none
  | none=>none
 | none=>none
theorem Qxe (o i:Nat) {bx ro nr fl:Bool} {w:Nat} {xs:List AV} {x y:AV} {ids:List Nat} (ho:st.sto o=some (.row bx ro nr fl w xs)) (hx:xs[i]?=some x) (hno:Qb6 ids o=false) (hsn:Qt st.sto Qn x=some (y,ids)) (h:Ql2 o i y ids st=some st'):Wk P base st st':=by
 unfold Ql2 at h
 split at h
 ·rename_i es hes
  split at h
  ·rename_i objs ha
   split at h
   ·rename_i bx' nr' fl' w' xs' ho'
    cases h
    intro B W0 D0 dl M ι a W hsim
    obtain ⟨p1,p2,p3⟩:=Vi _ _ _ ha
    have h':=Jz hsim.rel hes
    have hg:=hsim.rel.growC ids
    have hos':=Qcp (Nat.lt_of_lt_of_le (List.getElem?_eq_some_iff.1 ho').1 (p3 hsim.big)) ho' rfl
    have hob:o < BIG:=Nat.lt_of_lt_of_le (List.getElem?_eq_some_iff.1 ho').1 (p3 hsim.big)
    have hsame:sto objs o=sto st.objs o:=by
     have e1:sto objs o=Sto.puts st.sto es o:=congrFun p1 o
     rw [e1]
     exact J4 hes (Qcn hno)
    have ho:sto st.objs o=some (.row bx ro nr fl w xs):=ho
    rw [hos',ho] at hsame
    cases hsame
    have hlt:=(List.getElem?_eq_some_iff.1 ho').1
    have h'':Rel P B W0 (dl++D0) (Zg M W (inC st.sto ι ids)) ι (sto objs) W:=by rw [p1]; exact h'
    obtain ⟨p,hp,hrow⟩:=h''.row o _ false nr fl w xs hos'
    have hxm:=List.mem_of_getElem? hx
    have hil:=(List.getElem?_eq_some_iff.1 hx).1
    obtain ⟨q1,q2⟩:=V8 hsn (hrow.shaped x hxm)
    refine ⟨_,ι,hg,.refl _ _,⟨?_,hsim.slots.mono hg.le (Inj.le_refl _),hsim.nt,hsim.df,fun k hk=>hsim.new k (fun c=>hk ((c.mono p2).mono (by simp))),by simpa using p3 hsim.big⟩⟩
    show Rel P B W0 (dl++D0) _ ι (sto (objs.set o _)) W
    rw [Qb5 ho' rfl rfl hob]
    refine h''.write (c0:=0) (vs:=[]) hos' hp (by simp) (by simpa using hrow.len) (fun z hz=>?_) (by simp) (by simp) (fun k j z r hk hj hlo hhi=>by simp at hhi) (fun k j z r hk hj hout=>?_)
    ·rcases List.mem_or_eq_of_mem_set hz with hz | rfl
     ·exact hrow.shaped z hz
     ·exact q1
    ·by_cases e:k=i
     ·subst e
      rw [List.getElem?_set_self hil] at hk
      cases hk
      obtain ⟨c,d',is,e1,e2,e3,e4⟩:=q2 j r hj
      obtain ⟨q,hq,hrow0⟩:=hsim.rel.row o bx false nr fl w xs ho
      rw [hp] at hq; cases hq
      obtain ⟨v,hv,hr⟩:=hrow0.cells k j x c hx e1
      exact ⟨v,by rw [←Nat.add_assoc]; exact hv,(X4 hsim.rel ids d' c r is v e3 e4 hr).mono (CM.le_refl _) (Inj.noInj_le _)⟩
     ·rw [List.getElem?_set_ne (Ne.symm e)] at hk
      obtain ⟨v,hv,hr⟩:=hrow.cells k j z r hk hj
      exact ⟨v,by rw [←Nat.add_assoc]; exact hv,hr⟩
   ·cases h
  ·cases h
 ·cases h
end
end Go.Ab
namespace Go.Ab
open Go.RowKit
section
variable {P:Program} {rd:Option Nat} {base:Nat} {ops:Array Oper} {st st1 st' S:St} {o:Oper} {F:Foot} {out:AOut} {Φ Ψ:AOut→Prop} {d:Option (List Sk)} {i:Nat} {nf:Bool} {s:Slots} {σ:Sto} {c x y:Code}
theorem Qar {α:Type} {enc:α→AV} {l:List α} {ob w n:Nat} {bx ro fl:Bool} (hrow:σ ob=some (.row bx ro true fl w (l.map enc))):Qt σ (n+1) (.ref ob 0 l.length)=some (.lst fl (l.map enc),[ob]):=by
 have:(l.map enc).take l.length=l.map enc:=List.take_of_length_le (by simp)
 simp [Qt,hrow,this]
theorem Quk {f:AV→Option (AV × List Nat)}:Q4 f []=some ([],[]):=rfl
theorem Qgn {f:AV→Option (AV × List Nat)} {x y:AV} {xs ys:List AV} {a b c:List Nat} (h1:f x=some (y,a)) (h2:Q4 f xs=some (ys,b)) (hc:a++b=c:=by rfl):Q4 f (x::xs)=some (y::ys,c):=by
 subst hc; simp [Q4,h1,h2]
theorem Qwg {n:Nat} {cs ys:List AV} {ids:List Nat} (h:Q4 (Qt σ n) cs=some (ys,ids)):Qt σ (n+1) (.agg cs)=some (.agg ys,ids):=by simp [Qt,h]
def Xh (ops:Array Oper) (i:Nat) (st:St):Option (FuncId × List AV) :=
 match Xy ops i st with
 | some o=>match o.op with
  | .call { callee:=.value g,args,.. }=>match evo (lk st.slots) g,Ja (lk st.slots) args.toList with
   | some (.fn (.func f) first caps),some as=>some (f,first++as++caps)
   | _,_=>none
  | _=>none
 | none=>none
theorem Qc4 {f:FuncId} {as0:List AV} (h:Xh ops i st=some (f,as0)):∃o g args ts first caps as,Xy ops i st=some o∧o.op=.call { callee:=.value g,args,argTypes:=ts }∧evo (lk st.slots) g=some (.fn (.func f) first caps) ∧
  Ja (lk st.slots) args.toList=some as∧as0=first++as++caps:=by
 unfold Xh at h
 split at h
 ·rename_i o ho
  split at h
  ·rename_i g args ts hop
   split at h
   ·rename_i f' first caps as hg has
    cases h
    exact ⟨o,g,args,ts,first,caps,as,ho,hop,hg,has,rfl⟩
   ·cases h
  ·cases h
 ·cases h
def Qk7 (P:Program) (f:FuncId):Bool :=
 match P.funcs[f]? with
 | some fn=>fn.body.isSome && !(fn.name == "runtime.NumGoroutine")
 | none=>false
noncomputable def Ql4 (st:St) (ids:List Nat) (r:AV) (objs:List AObj):Option (List (Nat × AObj)) :=
 if objs.all AObj.okRow then
  if ids.isEmpty || (r.cls && objs.all AObj.flat) then some (Yg st.objs.length st.objs.length objs)
  else match frz st.sto ids with
   | some es=>some (es++Yg st.objs.length st.objs.length objs)
   | none=>none
 else none
noncomputable def Qil (ops:Array Oper) (i:Nat) (st:St) (ids:List Nat) (r:AV) (objs:List AObj):Option St :=
 match Ql4 st ids r objs with
 | some eff=>match Z1 ops i st (some (r.shift st.objs.length)) eff with
  | some S=>if Nat.beq S.objs.length (st.objs.length+objs.length) then some S else none
  | none=>none
 | none=>none
noncomputable def Qlg (st:St) (ids:List Nat) (r:AV) (objs:List AObj):Sk:=(((Ql4 st ids r objs).getD []).map (·.1),ids)
open Classical in
noncomputable def Qs6 (f:FuncId) (as:List AV) (co:Z2):FuncId→List AV→Option Z2:=fun g bs=>if g=f∧bs=as then some co else none
theorem Qtc {f:FuncId} {as:List AV} {co:Z2} (h:Zb P f as co) (hb:Qk7 P f=true):Qgr P (Qs6 f as co):=by
 intro g bs out he
 unfold Qs6 at he
 split at he
 ·rename_i hc
  obtain ⟨rfl,rfl⟩:=hc
  cases he
  refine ⟨h,?_⟩
  unfold Qk7 at hb
  split at hb
  ·rename_i fn hf
   simp only [Bool.and_eq_true,Bool.not_eq_true'] at hb
   exact ⟨fn,hf,hb.1,hb.2⟩
  ·cases hb
 ·cases he
theorem Qzv {f:FuncId} {as0 us:List AV} {ids:List Nat} {rv:AV} {ro:List AObj} (hi:Xh ops i st=some (f,as0)) (hb:Qk7 P f=true) (hsn:Q4 (Qt st.sto Qn) as0=some (us,ids)) (hc:Zb P f us (.ret rv ro))
  (hS:Qil ops i st ids rv ro=some S) (k:RW P rd base ops (Zd d [Qlg st ids rv ro]) (i+1) S Φ):RW P rd base ops d i st Φ:=by
 obtain ⟨o,g,args,ts,first,caps,as1,ho,hop,hg,has,rfl⟩:=Qc4 hi
 unfold Qil at hS
 unfold Qlg at k
 split at hS
 ·rename_i eff heff
  rw [heff] at k
  split at hS
  ·rename_i S' hS'
   split at hS
   ·rename_i hl
    cases hS
    obtain ⟨h1,h2⟩:=V7 ho
    unfold Z1 at hS'
    rw [h1] at hS'
    simp only at hS'
    split at hS'
    ·rename_i objs slots ha hp
     cases hS'
     refine Qb8 (s:=(eff.map (·.1),ids)) ⟨o,⟨some (rv.shift st.objs.length),eff,st.objs.length,st.objs.length+ro.length,ids⟩,h1,?_,Qh9 _⟩ (by simpa using k)
     refine Qf9 (nf:=false) (C:=Qs6 f us (.ret rv ro)) (Qtc hc hb) (res:=⟨some (rv.shift st.objs.length),eff,st.objs.length+ro.length,ids⟩) h2 ?_ ha hp (Nat.eq_of_beq_eq_true hl)
     unfold Zr
     rw [hop]
     simp only [Zz,if_true]
     unfold evalOp
     rw [hop]
     simp only [hg,has,Qdn,hsn,Qs6,and_self,if_true]
     unfold Ql4 at heff
     split at heff
     ·rename_i hok
      rw [if_pos hok]
      split at heff
      ·rename_i hcl
       cases heff
       rw [if_pos hcl]
      ·rename_i hcl
       rw [if_neg hcl]
       split at heff
       ·rename_i es hes
        cases heff
        rw [hes]
       ·cases heff
     ·cases heff
    ·cases hS'
   ·cases hS
  ·cases hS
 ·cases hS
theorem Q2b {α R:Type} {G:Option α} {K:α→Option R} {f:FuncId} {as0 us:List AV} {ids:List Nat} {rv:α→AV} {ro:α→List AObj} {S:α→St} {r:R} (hi:Xh ops i st=some (f,as0)) (hb:Qk7 P f=true)
  (hsn:Q4 (Qt st.sto Qn) as0=some (us,ids)) (hc:∀x,G=some x→Zb P f us (.ret (rv x) (ro x))) (hS:∀x,Qil ops i st ids (rv x) (ro x)=some (S x)) (h:G.bind K=some r)
  (k:∀x,G=some x→K x=some r→RW P rd base ops (Zd d [Qlg st ids (rv x) (ro x)]) (i+1) (S x) Φ):RW P rd base ops d i st Φ:=by
 cases hg:G with
 | none=>rw [hg] at h; cases h
 | some x=>rw [hg] at h; exact Qzv hi hb hsn (hc x hg) (hS x) (k x hg h)
theorem Zb.args {f:FuncId} {us:List AV} {co:Z2} (hss:List (List LK)) (h:Zb P f (Qe6 hss us) co):Zb P f us co:=by
 intro W M vs h1 h2 h3
 refine h W M vs h1 (by rw [Qfa]; exact h2) (fun j v y hv hy=>?_)
 obtain ⟨hs,z,hz,rfl⟩:=Ql8 hss us j y hy
 exact Qcb hs (h3 j v z hv hz)
theorem Zb.res {f:FuncId} {us:List AV} {r:AV} {objs:List AObj} (hss:List (List LK)) (h:Zb P f us (.ret r objs)):Zb P f us (.ret (Qdh hss r) objs):=by
 intro W M vs h1 h2 h3
 refine (h W M vs h1 h2 h3).mono fun e w he=>?_
 obtain ⟨v,M',ι',g1,g2,g3,g4,g5⟩:=he
 exact ⟨v,M',ι',g1,g2,g3,g4,Qq6 hss g5⟩
def Qpj (P:Program) (ops:Array Oper) (i:Nat) (st:St):Option (List (Nat × AV)) :=
 match Xy ops i st with
 | some o=>match o.op with
  | .buildSlice _ _ ps=>Jq (lk st.slots) ps.toList
  | _=>none
 | none=>none
noncomputable def Qw9 (P:Program) (ops:Array Oper) (i:Nat) (st:St) (he:List LK) (b:Bool) (parts:List (Nat × AV)) (ids:List Nat):Option (St × List (Nat × AObj)) :=
 match Xy ops i st with
 | some o=>match o.op with
  | .buildSlice t n _=>match ti P t with
   | some T=>match T.kind with
    | .slice e=>match ti P e with
     | some E=>if n=0 then none else match E.zero with
      | some z=>if Nat.beq z.flat.length E.size && Nat.blt 0 E.size && Nat.ble (n*E.size) 16777216 then
        match Qat E.size (List.replicate n z) parts,frz st.sto ids with
        | some xs,some es=>match Z1 ops i st (some (.ref st.objs.length 0 n)) (es++[(st.objs.length,.row false false (AV.nrL xs) (b && xs.all AV.scs) E.size (xs.map (Q3 he)))]) with
         | some S=>if Nat.beq S.objs.length (st.objs.length+1) then some (S,es++[(st.objs.length,.row false false (AV.nrL xs) (xs.all AV.scs) E.size xs)]) else none
         | none=>none
        | _,_=>none
       else none
      | none=>none
     | none=>none
    | _=>none
   | none=>none
  | _=>none
 | none=>none
theorem Qmb (he:List LK) (b:Bool) (es:List (Nat × AObj)) (o:Nat) (bx ro nr fl:Bool) (w:Nat) (xs:List AV):Xv he b (es++[(o,.row bx ro nr fl w xs)])=es++[(o,.row bx ro nr (b && fl) w (xs.map (Q3 he)))]:=by
 induction es with
 | nil=>rfl
 | cons e es ih =>
  obtain ⟨o',x⟩:=e
  cases es with
  | nil=>simp [Xv]
  | cons e' es=>simp only [List.cons_append,Xv] at ih ⊢; rw [ih]
theorem bsR {parts0 parts:List (Nat × AV)} {ids:List Nat} {es:List (Nat × AObj)} (he:List LK) (b:Bool) (hi:Qpj P ops i st=some parts0) (hsn:Zp st.sto parts0=some (parts,ids)) (hS:Qw9 P ops i st he b parts ids=some (S,es))
  (k:RW P rd base ops (Zd d [(es.map (·.1),ids)]) (i+1) S Φ):RW P rd base ops d i st Φ:=by
 unfold Qpj at hi
 unfold Qw9 at hS
 split at hi
 ·rename_i o ho
  rw [ho] at hS
  simp only at hS
  split at hi
  ·rename_i t n ps hop
   rw [hop] at hS
   simp only at hS
   split at hS
   ·rename_i T hT
    split at hS
    ·rename_i e hk
     split at hS
     ·rename_i E hE
      split at hS
      ·cases hS
      ·rename_i hn
       split at hS
       ·rename_i z hz
        split at hS
        ·rename_i hc
         split at hS
         ·rename_i xs es' hxs hes
          split at hS
          ·rename_i S' hS'
           split at hS
           ·rename_i hl
            cases hS
            refine Qou (nf:=false) (v:=some (.ref st.objs.length 0 n)) (eff:=es'++[(st.objs.length,.row false false (AV.nrL xs) (xs.all AV.scs) E.size xs)]) (fr:=st.objs.length+1) (rds:=ids) [] he b noC_sound ho ?_
             (by rw [Qmb]; exact hS') (Nat.eq_of_beq_eq_true hl) k
            unfold Zr
            rw [hop]
            simp only [Zz,Bool.false_eq_true,if_false]
            unfold evalOp
            rw [hop]
            simp only [hT,hk,hE,hi,hn,if_false,hz,hsn,Bool.false_eq_true,hc,if_true,hxs,hes,Zv]
           ·cases hS
          ·cases hS
         ·cases hS
        ·cases hS
       ·cases hS
     ·cases hS
    ·cases hS
   ·cases hS
  ·cases hi
 ·cases hi
theorem Qq0 {j:Nat} {x:AV} {r ys:List (Nat × AV)} {b:List Nat} (hx:x.nr=true) (h:Zp σ r=some (ys,b)):Zp σ ((j,x)::r)=some ((j,x)::ys,b):=by simp [Zp,hx,h]
theorem Qq8 {j:Nat} {x y:AV} {r ys:List (Nat × AV)} {a b c:List Nat} (hx:x.nr=false) (h1:Qt σ Qn x=some (y,a)) (h:Zp σ r=some (ys,b)) (hc:a++b=c):Zp σ ((j,x)::r)=some ((j,y)::ys,c):=by subst hc; simp [Zp,hx,h1,h]
theorem Q2c {R:Type} {b:Bool} {S:Bool→St} {A B:Option R} {r:R} (h:(if b=true then A else B)=some r) (h1:b=true→A=some r→RW P rd base ops d i (S true) Φ) (h2:b=false→B=some r→RW P rd base ops d i (S false) Φ):RW P rd base ops d i (S b) Φ:=by
 cases b
 ·exact h2 rfl (by simpa using h)
 ·exact h1 rfl (by simpa using h)
theorem Q06 {n m:Nat} {S:Nat → St} (hb:n=m) (h:RW P rd base ops d i (S m) Φ):RW P rd base ops d i (S n) Φ:=by rw [hb]; exact h
theorem ne_eq {a b:Int} {c:Bool} (h:(a != b)=c):(a==b)=!c:=by rw [←h]; simp [bne]
theorem Qwv {op:Operand} (he:evo (lk st.slots) op=some (.bool true)) (h:WP P rd base x st Φ):WP P rd base (.cond op x y) st Φ:=Qr7 he (fun _=>h) (fun e=>by cases e)
theorem Qwu {op:Operand} (he:evo (lk st.slots) op=some (.bool false)) (h:WP P rd base y st Φ):WP P rd base (.cond op x y) st Φ:=Qr7 he (fun e=>by cases e) (fun _=>h)
def Qgu {σ ρ:Type} (P:Program) (base:Nat) (I:σ→St) (Ex:ρ→AOut→Prop) (o:Qk σ ρ) (out:AOut):Prop :=
 match o with
 | .next s=>∃st1,out=.go .normal st1∧Wk P base st1 (I s)
 | .done x=>Ex x out∧out.normal=false
theorem Qns {σ ρ:Type} {body:σ→Option (Qk σ ρ)} {I:σ→St} {Ex:ρ→AOut→Prop} (round:∀s o,body s=some o→WP P rd base c (I s) (Qgu P base I Ex o)) :
  ∀(n:Nat) (s:σ) (x:ρ),Qc n body s=some x→LWP P rd base c (I s) (Ex x)
 | 0,s,x,h=>by cases h
 | n+1,s,x,h=>by
  simp only [Qc] at h
  split at h
  ·rename_i s' hb
   refine Qef ((round s _ hb).mono fun out ho=>?_)
   obtain ⟨st1,rfl,hw⟩:=ho
   exact Qh8 hw (Qns round n s' x h)
  ·rename_i x' hb
   cases h
   refine Qef ((round s _ hb).mono fun out ho=>?_)
   obtain ⟨h1,h2⟩:=ho
   cases out with
   | pan v=>exact h1
   | go e st1=>cases e <;> first | exact h1 | simp [AOut.normal] at h2
  ·cases h
theorem Qxn {σ ρ R:Type} {n:Nat} {body:σ→Option (Qk σ ρ)} {I:σ→St} {Ex:ρ→AOut→Prop} {K:ρ→Option R} {r:R} (s0:σ) (hw:Wk P base st (I s0)) (h:(Qc n body s0).bind K=some r)
  (round:∀s o,body s=some o→WP P rd base c (I s) (Qgu P base I Ex o)) (k:∀x,K x=some r→∀out,Ex x out→Φ out):WP P rd base (.loop c) st Φ:=by
 cases hx:Qc n body s0 with
 | none=>rw [hx] at h; cases h
 | some x =>
  rw [hx] at h
  obtain ⟨out,h1,h2⟩:=Qh8 hw (Qns round n s0 x hx)
  exact Qri ⟨out,h1,k x h out h2⟩
noncomputable def Qlk (P:Program) (fn:Func) (hss:List (List LK)):AOut→Option (AV × List AObj)
 | .go e st'=>if e.ends then match resultA P fn st' with
   | some x=>match Qf0 st' x with
    | some (.ret r objs)=>some (Qdh hss r,objs)
    | _=>none
   | none=>none
  else none
 | .pan _=>none
theorem Q16 {f:FuncId} {fn:Func} {c:Code} {args:List AV} {rv:AV} {ro:List AObj} (hss:List (List LK)) (hf:P.funcs[f]?=some fn) (hb:fn.body=some c) (hn:(fn.name == "runtime.NumGoroutine")=false) (hle:Nat.ble args.length fn.ntmps=true)
  (h:WP P none 0 c (st0 fn.ntmps args) (fun out=>Qlk P fn hss out=some (rv,ro))):Zb P f args (.ret rv ro):=by
 obtain ⟨co,h1,r',h2,h3⟩:=Qy4 (R:=fun co=>∃r',co=.ret r' ro∧Qdh hss r'=rv) hf hb hn (Nat.le_of_ble_eq_true hle) (h.mono fun out ho=>by
  cases out with
  | pan v=>cases ho
  | go e st' =>
   simp only [Qlk] at ho
   split at ho
   ·rename_i he
    split at ho
    ·rename_i x hx
     split at ho
     ·rename_i r objs hex
      simp only [Option.some.injEq,Prod.mk.injEq] at ho
      obtain ⟨h1,rfl⟩:=ho
      exact ⟨he,x,hx,_,hex,r,rfl,h1⟩
     ·cases ho
    ·cases ho
   ·cases ho)
 rw [←h3]
 rw [h2] at h1
 exact h1.res hss
noncomputable def Qlr (P:Program) (fn:Func) (ops:Array Oper) (i:Nat) (st:St):AOut→Option St
 | .go e st'=>if e.ends then match resultA P fn st',ops[i]? with
   | some x,some o=>match Y9 st.slots st.nt o.dst (some x) with
    | some slots=>some ⟨slots,st'.objs,st.nt⟩
    | none=>none
   | _,_=>none
  else none
 | .pan _=>none
theorem Q2i {f:FuncId} {fn:Func} {c:Code} {as0:List AV} (hi:Xh ops i st=some (f,as0)) (hf:P.funcs[f]?=some fn) (hb:fn.body=some c) (hn:(fn.name == "runtime.NumGoroutine")=false) (hle:Nat.ble as0.length fn.ntmps=true)
  (h:WP P none st.objs.length c ⟨K4 0 as0,st.objs,fn.ntmps⟩ (fun out=>∃S,Qlr P fn ops i st out=some S∧RW P rd base ops none (i+1) S Φ)):RW P rd base ops none i st Φ:=by
 obtain ⟨o,g,args,ts,first,caps,as1,ho,hop,hg,has,rfl⟩:=Qc4 hi
 obtain ⟨h1,h2⟩:=V7 ho
 obtain ⟨out,hx,S,hS,k⟩:=h
 unfold Qlr at hS
 split at hS
 ·rename_i e st'
  split at hS
  ·rename_i he
   split at hS
   ·rename_i x o' hr ho'
    rw [h1] at ho'; cases ho'
    split at hS
    ·rename_i slots hp
     cases hS
     obtain ⟨out2,k1,k2⟩:=k
     have hi':i < ops.size:=(Array.getElem?_eq_some_iff.1 h1).1
     refine ⟨out2,?_,k2⟩
     rw [Qc8 hi']
     exact Qer h1 h2 (Qtb hop hg has hf hb hn (Nat.le_of_ble_eq_true hle) hx he hr hp) k1
    ·cases hS
   ·cases hS
  ·cases hS
 ·cases hS
def Qia (ops:Array Oper) (i l:Nat) (st:St):AOut→Option St
 | .go e st'=>match st'.objs[l]?,ops[i]? with
  | some (.loop nt2 sl2 ps2 as2 bd2 .busy _),some o=>match Y9 st.slots st.nt o.dst (some (.bool e.pend.isNone)) with
   | some slots=>some ⟨slots,st'.objs.set l (.loop nt2 sl2 ps2 as2 bd2 (if e.pend.isNone then .ready else .done) e.pend),st.nt⟩
   | none=>none
  | _,_=>none
 | .pan _=>none
def Qmn (ops:Array Oper) (i:Nat) (st:St):Option (Nat × List AV) :=
 match Xy ops i st with
 | some o=>match o.op with
  | .call { callee:=.value g,args,.. }=>match evo (lk st.slots) g,Ja (lk st.slots) args.toList with
   | some (.yld l),some us=>some (l,us)
   | _,_=>none
  | _=>none
 | none=>none
def Qk8 (l nt:Nat):AOut→Option St
 | .go .normal ⟨sl,objs,n⟩=>match objs[l]? with
  | some (.loop ntL slL psL asL bdL .ready peL)=>if Nat.beq n nt then some ⟨sl,objs.set l (.loop ntL slL psL asL bdL .busy peL),nt⟩ else none
  | _=>none
 | _=>none
theorem Q2m {l nt:Nat} {us:List AV} {sl:List (Nat × AV)} {ps:List Tmp} {assign body:Code} {pe:Option Code} (hi:Qmn ops i st=some (l,us)) (hl:st.objs[l]?=some (.loop nt sl ps assign body .ready pe))
  (hlen:(Nat.beq us.length ps.length && ps.all fun t=>Nat.blt t nt)=true)
  (h:WP P (some l) st.objs.length assign ⟨Qi4 sl ps us,st.objs,nt⟩ (fun outA=>∃SA,Qk8 l nt outA=some SA∧WP P (some l) st.objs.length body SA (fun outB=>∃S,Qia ops i l st outB=some S∧RW P rd base ops none (i+1) S Φ))) :
  RW P rd base ops none i st Φ:=by
 unfold Qmn at hi
 split at hi
 ·rename_i o ho
  split at hi
  ·rename_i g args ts hop
   split at hi
   ·rename_i l' us' hg has
    simp only [Option.some.injEq,Prod.mk.injEq] at hi
    obtain ⟨rfl,rfl⟩:=hi
    obtain ⟨h1,h2⟩:=V7 ho
    simp only [Bool.and_eq_true,List.all_eq_true] at hlen
    obtain ⟨outA,hxA,SA,hSA,outB,hxB,S,hS,k⟩:=h
    unfold Qk8 at hSA
    split at hSA
    ·rename_i slA objsA n
     split at hSA
     ·rename_i ntL slL psL asL bdL peL hlA
      split at hSA
      ·rename_i hn
       cases hSA
       have hn:=Nat.eq_of_beq_eq_true hn
       subst hn
       unfold Qia at hS
       split at hS
       ·rename_i e st'
        split at hS
        ·rename_i nt2 sl2 ps2 as2 bd2 pe2 o' hlB ho'
         rw [h1] at ho'; cases ho'
         split at hS
         ·rename_i slots hp
          cases hS
          obtain ⟨out2,k1,k2⟩:=k
          have hi':i < ops.size:=(Array.getElem?_eq_some_iff.1 h1).1
          refine ⟨out2,?_,k2⟩
          rw [Qc8 hi']
          exact Qer h1 h2 (Qvi hop hg has hl (Nat.eq_of_beq_eq_true hlen.1) (fun t ht=>X0 (hlen.2 t ht)) hxA hlA hxB hlB hp) k1
         ·cases hS
        ·cases hS
       ·cases hS
      ·cases hSA
     ·cases hSA
    ·cases hSA
   ·cases hi
  ·cases hi
 ·cases hi
theorem Qw2 {g:Operand} {ps:Array Tmp} {assign body:Code} {f:FuncId} {fn:Func} {c:Code} {first caps:List AV} (hg:evo (lk st.slots) g=some (.fn (.func f) first caps)) (hf:P.funcs[f]?=some fn) (hb:fn.body=some c) (hn:(fn.name == "runtime.NumGoroutine")=false)
  (hle:Nat.ble (first++[AV.yld st.objs.length]++caps).length fn.ntmps=true) (hrd:Qxo rd st.objs=true)
  (h:WP P none (st.objs.length+1) c (Qjj st ps.toList assign body first caps fn.ntmps) (fun out0=>∃out,Vz P fn st out0=some out∧Φ out)):WP P rd base (.rangeFunc g ps assign body) st Φ:=by
 obtain ⟨out0,h0,out,h1,h2⟩:=h
 refine ⟨out,Qmz hg hf hb hn (Nat.le_of_ble_eq_true hle) (fun l hl=>?_) h0 h1,h2⟩
 subst hl
 simp only [Qxo] at hrd
 split at hrd
 ·rename_i s _ hob
  refine ⟨_,_,_,_,_,_,_,hob,fun e=>?_⟩
  subst e; cases hrd
 ·cases hrd
theorem Qu8 {α R:Type} {G:Option α} {K:α→Option R} {r:R} {X:Prop} (h:G.bind K=some r) (k:∀a,G=some a→K a=some r→X):X:=by
 cases hg:G with
 | none=>rw [hg] at h; cases h
 | some a=>rw [hg] at h; exact k a hg h
theorem Qjc {α:Type} {l:List α} {n:Int} {a:α} (b:α) (h:lkI l n=some a):lkI (l.set n.toNat b) n=some b:=by
 obtain ⟨h1,h2,h3⟩:=Vt h
 unfold lkI
 rw [if_neg (by omega),List.getElem?_set_self h2]
theorem Q18 {i:Nat} (hk:Wk P base st st') (h:RW P rd base ops none i st' Φ):RW P rd base ops none i st Φ:=by
 obtain ⟨out,h1,h2⟩:=h
 refine ⟨out,?_,h2⟩
 intro B W0 D0 dl M ι a W n Q r hs hr hp
 obtain ⟨M',ι',hM,hι,hs'⟩:=hk B W0 D0 dl M ι a W hs
 exact h1 B W0 D0 dl M' ι' a W n Q r hs' (hr.mono hι) (hp.step hM hι (List.suffix_refl _))
end
abbrev vI (n:Int):AV:=.int .i64 n
abbrev eI:Int→AV:=AV.int .i64
abbrev vB (b:Bool):AV:=.bool b
abbrev oR {α:Type} (fl:Bool) (w:Nat) (enc:α→AV) (l:List α):AObj:=.row false false true fl w (l.map enc)
abbrev oX (nr fl:Bool) (w:Nat) (x:AV):AObj:=.row true false nr fl w [x]
def Qd2:Code→List Bool→Code
 | .seq a b,false::r=>Qd2 a r
 | .seq a b,true::r=>Qd2 b r
 | .cond _ a b,false::r=>Qd2 a r
 | .cond _ a b,true::r=>Qd2 b r
 | .block _ b,_::r=>Qd2 b r
 | .loop b,_::r=>Qd2 b r
 | .scope b,_::r=>Qd2 b r
 | .rangeFunc _ _ a b,false::r=>Qd2 a r
 | .rangeFunc _ _ a b,true::r=>Qd2 b r
 | c,_=>c
def cA (fn:Func) (w:List Bool):Code:=Qd2 (fn.body.getD .skip) (w++[false])
def cB (fn:Func) (w:List Bool):Code:=Qd2 (fn.body.getD .skip) (w++[true])
end Go.Ab
namespace Go.Ab
open Go.RowKit
section
variable {P:Program} {B:Nat} {W0 W W1:World} {D:List Nat} {M M1:CM} {ι ι1:Inj} {σ σ' σ1:Sto}
end
section
variable {objs new:List AObj}
end
def Qxx (n m o:Nat):Bool:=Nat.ble n o && Nat.blt o m
def Q17 (n m:Nat):AObj→Bool
 | .row _ _ nr _ _ xs=>nr || xs.all fun x=>x.flat.all fun y=>y.ids.all (Qxx n m)
 | .refs j _=>Qxx n m j
 | .fam _ _ _=>true
 | .dead=>true
 | .loop ..=>false
def Qyl:Nat → List AObj→Bool
 | 0,_=>true
 | n+1,.dead::r=>Qyl n r
 | _,_=>false
section
variable {P:Program} {ops:Array Oper} {st st':St} {o:Oper} {rd:Option Nat} {base:Nat} {Φ:AOut→Prop} {d:Option (List Sk)} {i:Nat}
noncomputable def Quj (P:Program) (fn:Func) (ops:Array Oper) (i:Nat) (st:St):AOut→Option St
 | .go e st'=>if e.ends && Qyl st.objs.length st'.objs && Nat.ble st'.objs.length BIG && (st'.objs.drop st.objs.length).all (Q17 st.objs.length st'.objs.length) then match resultA P fn st',ops[i]? with
   | some x,some o=>match Y9 st.slots st.nt o.dst (some x) with
    | some slots=>if x.ids.all (Qxx st.objs.length st'.objs.length) then some ⟨slots,st.objs++st'.objs.drop st.objs.length,st.nt⟩ else none
    | none=>none
   | _,_=>none
  else none
 | .pan _=>none
def Qyv (st S:St):List Sk:=[(List.range' st.objs.length (S.objs.length - st.objs.length),[])]
end
end Go.Ab
