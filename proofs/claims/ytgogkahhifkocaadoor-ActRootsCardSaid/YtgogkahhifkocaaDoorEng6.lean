/- Rules. No conditions. -/
import Derived.Test.YtgogkahhifkocaaDoorEng5
set_option linter.all false
namespace Go.Ab
open Go.RowKit
def lkI {α:Type} (l:List α) (n:Int):Option α:=if n < 0 then none else l[n.toNat]?
def sub {α:Type} (l:List α) (a b:Int):List α:=(l.drop a.toNat).take (b.toNat - a.toNat)
inductive Qh (σ ρ:Type) where
 | next (s:σ)
 | done (x:ρ)
def Qc {σ ρ:Type}:Nat -> (σ->Option (Qh σ ρ))->σ->Option ρ
 | 0,_,_=>none
 | n+1,body,s=>match body s with
  | some (.next s')=>Qc n body s'
  | some (.done x)=>some x
  | none=>none
def fuel:Nat := 1152921504606846976
abbrev eL {α:Type} (fl:Bool) (enc:α->AV) (l:List α):AV:=.lst fl (l.map enc)
theorem Xm {α:Type} {l:List α} {n:Int} {a:α} (h:lkI l n=some a):0<=n/\n.toNat < l.length/\l[n.toNat]?=some a:=by
 unfold lkI at h
 split at h
 ·cases h
 rename_i hn; exact ⟨by omega,(aD.1 h).1,h⟩
section
variable {P:Program} {rd:Option Nat} {base:Nat} {ops:Array Oper} {st st1 st' S:St} {o:Oper} {F:Foot} {out:AOut} {Φ:AOut->Prop} {d:Option (List Sk)} {i:Nat} {nf:Bool}
noncomputable abbrev St.sto (st:St):Sto:=Ab.sto st.objs
def Z0 (ops:Array Oper) (i:Nat) (st:St):Option Oper :=
 match ops[i]? with
 | some o=>match Ym ops (lk st.slots) o with
  | some true=>some o
  | _=>none
 | none=>none
def Zl (ops:Array Oper) (i:Nat) (st:St) (v:Option AV) (eff:List (Nat × AObj)):Option St :=
 match ops[i]? with
 | some o=>match Z5 st.objs eff,Vv st.slots st.nt o.dst v with
  | some objs,some slots=>some ⟨slots,objs,st.nt⟩
  | _,_=>none
 | none=>none
theorem Js (h:Z0 ops i st=some o):ops[i]?=some o/\Ym ops (lk st.slots) o=some true:=by
 unfold Z0 at h
 split at h
 ·rename_i o' ho
  split at h
  ·rename_i hw; cases h; exact ⟨ho,hw⟩
  cases h
 cases h
theorem Q1z {v:Option AV} {eff:List (Nat × AObj)} {fr:Nat} {rds:List Nat} (ho:Z0 ops i st=some o) (he:Ze P nf noC st.sto st.objs.length (lk st.slots) o=some (.val ⟨v,eff,fr,rds⟩))
  (hS:Zl ops i st v eff=some S) (hl:S.objs.length=fr):Q3l P ops i st (eff.map (·.1),rds) S:=by
 obtain ⟨h1,h2⟩:=Js ho
 unfold Zl at hS
 rw [h1] at hS
 simp only at hS
 split at hS
 ·rename_i objs slots ha hp
  cases hS
  exact ⟨o,_,h1,Qjm noC_sound h2 he ha hp hl,Qk2 _⟩
 ·cases hS
theorem Q1i {v:Option AV} {eff:List (Nat × AObj)} (hS:Zl ops i st v eff=some S):∃objs,Z5 st.objs eff=some objs/\S.objs=objs:=by
 unfold Zl at hS
 split at hS
 ·split at hS
  ·rename_i objs slots ha hp; cases hS; exact ⟨objs,ha,rfl⟩
  cases hS
 cases hS
theorem Z6 {v:Option AV} (hS:Zl ops i st v []=some S):S.objs.length=st.objs.length:=by
 obtain ⟨objs,ha,he⟩:=Q1i hS
 simp only [Z5,aK] at ha
 rw [he,<-ha]
theorem X6 {v:Option AV} {eff:List (Nat × AObj)} {fr:Nat} {rds:List Nat} (ho:Z0 ops i st=some o) (he:Ze P nf noC st.sto st.objs.length (lk st.slots) o=some (.val ⟨v,eff,fr,rds⟩))
  (hS:Zl ops i st v eff=some S) (hl:S.objs.length=fr) (k:RW P rd base ops (Q1 d [(eff.map (·.1),rds)]) (i+1) S Φ):RW P rd base ops d i st Φ:=Qck (Q1z ho he hS hl) k
def Qcj (P:Program) (ops:Array Oper) (i:Nat) (st:St):Option (AV × Int × Nat) :=
 match Z0 ops i st with
 | some o=>match o.op with
  | .indexAddr t x ix=>match ti P t,evo (lk st.slots) x,evo (lk st.slots) ix with
   | some T,some a,some (.int _ n)=>match T.kind with
    | .slice e=>match ti P e with
     | some E=>some (a,n,E.size)
     | none=>none
    | _=>none
   | _,_,_=>none
  | _=>none
 | none=>none
theorem Qg3 {a:AV} {n:Int} {w:Nat} (h:Qcj P ops i st=some (a,n,w)):∃o t x ix k T e E,Z0 ops i st=some o/\o.op=.indexAddr t x ix/\ti P t=some T/\T.kind=.slice e/\ti P e=some E/\E.size=w /\
  evo (lk st.slots) x=some a/\evo (lk st.slots) ix=some (.int k n):=by
 unfold Qcj at h
 split at h
 ·rename_i o ho
  split at h
  ·rename_i t x ix hop
   split at h
   ·rename_i T a' k n' hT hx hix
    split at h
    ·rename_i e hk
     split at h
     ·rename_i E hE
      cases h
      exact ⟨o,t,x,ix,k,T,e,E,ho,hop,hT,hk,hE,rfl,hx,hix⟩
     ·cases h
    ·cases h
   ·cases h
  ·cases h
 ·cases h
theorem Qj {α:Type} {enc:α->AV} {l:List α} {n:Int} {w:Nat} {fl:Bool} {a:α} (hi:Qcj P ops i st=some (.lst fl (l.map enc),n,w)) (hw:Nat.beq (enc a).flat.length w=true)
  (hS:Zl ops i st (some (.fz (enc a).flat)) []=some S) (ha:lkI l n=some a) (k:RW P rd base ops (Q1 d [([],[])]) (i+1) S Φ):RW P rd base ops d i st Φ:=by
 obtain ⟨o,t,x,ix,kk,T,e,E,ho,hop,hT,hk,hE,rfl,hx,hix⟩:=Qg3 hi
 obtain ⟨h1,h2,h3⟩:=Xm ha
 have hw:=aJ hw
 refine X6 (nf:=false) (v:=some (.fz (enc a).flat)) (eff:=[]) (fr:=st.objs.length) (rds:=[]) ho ?_ hS (Z6 hS) k
 have hneg:¬ n < 0:=by omega
 unfold Ze
 rw [hop]
 simp only [Zq,aT,eJ]
 unfold evalOp
 rw [hop]
 simp only [hT,hx,hix,hk,asN,hneg,eJ,hE,bD,h3,bK,hw,eK,Zx,Zi]
theorem blt_true {a b:Nat} (h:a < b):Nat.blt a b=true:=by simp only [Nat.blt]; exact Nat.ble_eq_true_of_le h
theorem Qgz {a b:Nat} (h:a<=b):Nat.ble a b=true:=Nat.ble_eq_true_of_le h
theorem Qq {α:Type} {enc:α->AV} {l:List α} {n:Int} {w:Nat} {ro nr fl:Bool} {ob:Nat} {a:α} (hi:Qcj P ops i st=some (.ref ob 0 l.length,n,w)) (hrow:st.sto ob=some (.row false ro nr fl w (l.map enc)))
  (hS:Zl ops i st (some (.ptr ob n.toNat 0)) []=some S) (ha:lkI l n=some a) (k:RW P rd base ops (Q1 d [([],[ob])]) (i+1) S Φ):RW P rd base ops d i st Φ:=by
 obtain ⟨o,t,x,ix,kk,T,e,E,ho,hop,hT,hk,hE,rfl,hx,hix⟩:=Qg3 hi
 obtain ⟨h1,h2,h3⟩:=Xm ha
 refine X6 (nf:=false) (v:=some (.ptr ob n.toNat 0)) (eff:=[]) (fr:=st.objs.length) (rds:=[ob]) ho ?_ hS (Z6 hS) k
 have hneg:¬ n < 0:=by omega
 unfold Ze
 rw [hop]
 simp only [Zq,aT,eJ]
 unfold evalOp
 rw [hop]
 simp only [hT,hx,hix,hk,asN,hneg,eJ,hE,hrow,blt_true h2,dW,decide_true,eK,Zi,dR]
def Jr (ops:Array Oper) (i:Nat) (st:St):Option (Nat × Nat × Nat) :=
 match Z0 ops i st with
 | some o=>match (match o.op with | .load _ x=>evo (lk st.slots) x | .store _ x _=>evo (lk st.slots) x | _=>none) with
  | some (.ptr ob j c)=>some (ob,j,c)
  | _=>none
 | none=>none
def Qie (P:Program) (ops:Array Oper) (i:Nat) (st:St) (c:Nat) (y:AV):Option St :=
 match Z0 ops i st with
 | some o=>match o.op with
  | .load t _=>match ti P t with
   | some T=>match Kq T (y.flat.drop c) with
    | some v=>Zl ops i st (some v) []
    | none=>none
   | none=>none
  | _=>none
 | none=>none
theorem Zg {α:Type} {enc:α->AV} {l:List α} {n:Int} {w ob c:Nat} {bx ro nr fl:Bool} {a:α} (hp:Jr ops i st=some (ob,n.toNat,c)) (hrow:st.sto ob=some (.row bx ro nr fl w (l.map enc))) (ha:lkI l n=some a)
  (hS:Qie P ops i st c (enc a)=some S) (k:RW P rd base ops (Q1 d [([],[ob])]) (i+1) S Φ):RW P rd base ops d i st Φ:=by
 obtain ⟨h1,h2,h3⟩:=Xm ha
 unfold Qie at hS
 split at hS
 ·rename_i o ho
  split at hS
  ·rename_i t x hop
   split at hS
   ·rename_i T hT
    split at hS
    ·rename_i v hv
     have hx:evo (lk st.slots) x=some (.ptr ob n.toNat c):=by
      unfold Jr at hp
      rw [ho] at hp
      simp only [hop] at hp
      split at hp
      ·rename_i hx; cases hp; exact hx
      cases hp
     refine X6 (nf:=false) (v:=some v) (eff:=[]) (fr:=st.objs.length) (rds:=[ob]) ho ?_ hS (Z6 hS) k
     unfold Ze
     rw [hop]
     simp only [Zq,aT,eJ]
     unfold evalOp
     rw [hop]
     simp only [hT,hx,hrow,bD,h3,bK,hv,Zi]
    ·cases hS
   ·cases hS
  ·cases hS
 ·cases hS
def Qct (P:Program) (ops:Array Oper) (i:Nat) (st:St):Option AV :=
 match Z0 ops i st with
 | some o=>match o.op with
  | .store t _ y=>match ti P t,evo (lk st.slots) y with
   | some T,some v=>if v.okv && Nat.beq v.flat.length T.size then some v else none
   | _,_=>none
  | _=>none
 | none=>none
theorem J6 {v:AV} {ob j c:Nat} (hp:Jr ops i st=some (ob,j,c)) (hv:Qct P ops i st=some v):∃o t x y T,Z0 ops i st=some o/\o.op=.store t x y/\ti P t=some T/\evo (lk st.slots) x=some (.ptr ob j c)/\evo (lk st.slots) y=some v /\
  (v.okv && Nat.beq v.flat.length T.size)=true:=by
 unfold Qct at hv
 split at hv
 ·rename_i o ho
  split at hv
  ·rename_i t x y hop
   split at hv
   ·rename_i T v' hT hy
    split at hv
    ·rename_i hc
     cases hv
     refine ⟨o,t,x,y,T,ho,hop,hT,?_,hy,hc⟩
     unfold Jr at hp
     rw [ho] at hp
     simp only [hop] at hp
     split at hp
     ·rename_i hx; cases hp; exact hx
     ·cases hp
    ·cases hv
   ·cases hv
  ·cases hv
 ·cases hv
theorem Zm {α:Type} {enc:α->AV} {l:List α} {n:Int} {w ob c:Nat} {bx nr fl:Bool} {a a':α} {v:AV} (nf:Bool) (hp:Jr ops i st=some (ob,n.toNat,c)) (hrow:st.sto ob=some (.row bx false nr fl w (l.map enc))) (ha:lkI l n=some a)
  (hv:Qct P ops i st=some v) (hk:(bx || nf || v.nr)=true) (hput:K8 (enc a) c v=some (enc a'))
  (hS:Zl ops i st none [(ob,.row bx false (nr && v.nr) (fl && v.scs) w ((l.set n.toNat a').map enc))]=some S) (hl:Nat.beq S.objs.length st.objs.length=true) (k:RW P rd base ops (Q1 d [([ob],[ob])]) (i+1) S Φ):RW P rd base ops d i st Φ:=by
 obtain ⟨h1,h2,h3⟩:=Xm ha
 obtain ⟨o,t,x,y,T,ho,hop,hT,hx,hy,hc⟩:=J6 hp hv
 refine X6 (nf:=nf) (fr:=st.objs.length) (rds:=[ob]) ho ?_ hS (aJ hl) k
 unfold Ze
 rw [hop]
 simp only [Zq,aT,eJ]
 unfold evalOp
 rw [hop]
 simp only [hT,hx,hy,hrow,bD,h3,bK,hc,eK,hk,hput,frz,Qae,List.contains_nil,aT,eJ,cU,Zi,List.map_set]
theorem Q00 {α:Type} {enc:α->AV} {l:List α} {n:Int} {w ob c:Nat} {nr fl:Bool} {a a':α} {v0 v:AV} {ids:List Nat} {es:List (Nat × AObj)} (hp:Jr ops i st=some (ob,n.toNat,c)) (hrow:st.sto ob=some (.row false false nr fl w (l.map enc))) (ha:lkI l n=some a)
  (hv:Qct P ops i st=some v0) (hk:v0.nr=false) (hsn:Qt st.sto Qo v0=some (v,ids)) (hfz:frz st.sto ids=some es) (hno:ids.contains ob=false) (hput:K8 (enc a) c v=some (enc a'))
  (hS:Zl ops i st none (es++[(ob,.row false false (nr && v.nr) (fl && v.scs) w ((l.set n.toNat a').map enc))])=some S) (hl:Nat.beq S.objs.length st.objs.length=true)
  (k:RW P rd base ops (Q1 d [((es++[(ob,AObj.dead)]).map (·.1),ob::ids)]) (i+1) S Φ):RW P rd base ops d i st Φ:=by
 obtain ⟨h1,h2,h3⟩:=Xm ha
 obtain ⟨o,t,x,y,T,ho,hop,hT,hx,hy,hc⟩:=J6 hp hv
 refine X6 (nf:=false) (fr:=st.objs.length) (rds:=ob::ids) ho ?_ hS (aJ hl) (by simpa using k)
 unfold Ze
 rw [hop]
 simp only [Zq,aT,eJ]
 unfold evalOp
 rw [hop]
 have hno':¬ (ob∈ids):=by simpa using hno
 simp only [hT,hx,hy,hrow,bD,h3,bK,hc,eK,Bool.false_or,hk,aT,eJ,hsn,hput,hfz,List.contains_eq_mem,hno',decide_false,Zi,List.map_set]
def Qwe (P:Program) (ops:Array Oper) (i:Nat) (st:St):Option AV :=
 match Z0 ops i st with
 | some o=>match o.op with
  | .call { callee:=.builtin .len,args,argTypes }=>match args.toList,argTypes.toList with
   | [x],t::_=>match ti P t with
    | some T=>match T.kind with
     | .slice _=>evo (lk st.slots) x
     | _=>none
    | none=>none
   | _,_=>none
  | _=>none
 | none=>none
theorem Qr {α:Type} {enc:α->AV} {l:List α} {fl:Bool} (hi:Qwe P ops i st=some (.lst fl (l.map enc))) (hS:Zl ops i st (some (.int .i64 (l.length:Int))) []=some S) (k:RW P rd base ops (Q1 d [([],[])]) (i+1) S Φ):RW P rd base ops d i st Φ:=by
 unfold Qwe at hi
 split at hi
 rotate_left
 ·cases hi
 rename_i o ho
 split at hi
 rotate_left
 ·cases hi
 rename_i args ts hop
 split at hi
 rotate_left
 ·cases hi
 rename_i x t tr ha ht
 split at hi
 ·rename_i T hT
  split at hi
  ·rename_i e hk
   refine X6 (nf:=false) (v:=some (.int .i64 (l.length:Int))) (eff:=[]) (fr:=st.objs.length) (rds:=[]) ho ?_ hS (Z6 hS) k
   unfold Ze
   rw [hop]
   simp only [Zq,aT,eJ]
   unfold evalOp
   rw [hop]
   simp only [Qsg,ha,ht,hT,hi,hk,Zx,Zi,bK,bW]
  cases hi
 cases hi
def Qmj (P:Program) (ops:Array Oper) (i:Nat) (st:St):Option (AV × AV × Nat × Nat) :=
 match Z0 ops i st with
 | some o=>match o.op with
  | .call { callee:=.builtin .append,args,argTypes }=>match args.toList,argTypes.toList with
   | [x,y],t::u::_=>match ti P t,ti P u,evo (lk st.slots) x,evo (lk st.slots) y with
    | some T,some _,some a,some b=>if !Nat.beq t u then none else match T.kind with
     | .slice e=>match ti P e with
      | some E=>if E.zok && Nat.blt 0 E.bytes && Nat.blt 0 E.size then some (a,b,E.size,E.bytes) else none
      | none=>none
     | _=>none
    | _,_,_,_=>none
   | _,_=>none
  | _=>none
 | none=>none
theorem Qkn {a b:AV} {w bytes:Nat} (hi:Qmj P ops i st=some (a,b,w,bytes)):∃o E,Z0 ops i st=some o/\Zq o.op=false/\E.size=w/\E.bytes=bytes/\E.zok=true/\0 < bytes/\0 < w /\
  ∀nf ys nr fl rds r,Vf st.sto w b=some (ys,nr,fl,rds)->(nr || nf)=true->absAppend st.sto st.objs.length E a ys nr fl=some r->Ze P nf noC st.sto st.objs.length (lk st.slots) o=some (.val { r with rd:=rds++r.rd }):=by
 unfold Qmj at hi
 split at hi
 ·rename_i o ho
  split at hi
  ·rename_i args ts hop
   split at hi
   ·rename_i x y t u tr ha ht
    split at hi
    ·rename_i T U a' b' hT hU hx hy
     split at hi
     ·cases hi
     ·rename_i htu
      split at hi
      ·rename_i e hk
       split at hi
       ·rename_i E hE
        split at hi
        ·rename_i hc
         simp only [aE] at hc
         cases hi
         refine ⟨o,E,ho,by rw [hop]; rfl,rfl,rfl,hc.1.1,Y1 hc.1.2,Y1 hc.2,?_⟩
         intro nf ys nr fl rds r hel hn hr
         have htu':((!Nat.beq t u)=true)=False:=by simpa using htu
         unfold Ze
         rw [hop]
         simp only [Zq,aT,eJ]
         unfold evalOp
         rw [hop]
         simp only [Qb8,ha,ht,hT,hU,hx,hy,htu',eJ,hk,hE,hel,hn,eK,hr,bK,Zi]
        ·cases hi
       ·cases hi
      ·cases hi
    ·cases hi
   ·cases hi
  ·cases hi
 ·cases hi
theorem Qka {bytes n:Nat} (h0:0 < bytes) (h:n*bytes<=140737488355328):Vn bytes n=true:=by
 simp [Vn,blt_true h0,Qgz h]
theorem Jb {α R:Type} {enc:α->AV} {l m:List α} {w bytes ob:Nat} {nr fl nr' fl':Bool} {b:AV} {rds:List Nat} {A:Option R} {r:R} (nf:Bool) (hi:Qmj P ops i st=some (.ref ob 0 l.length,b,w,bytes)) (hrow:st.sto ob=some (.row false false nr fl w (l.map enc)))
  (hel:Vf st.sto w b=some (m.map enc,nr',fl',rds)) (hn:(nr' || nf)=true)
  (hS:Zl ops i st (some (.ref st.objs.length 0 (l++m).length)) [(ob,.dead),(st.objs.length,.row false false (nr && nr') (fl && fl') w ((l++m).map enc))]=some S) (hl:Nat.beq S.objs.length (st.objs.length+1)=true)
  (h:(if (l++m).length*bytes<=140737488355328 then A else none)=some r) (k:A=some r->RW P rd base ops (Q1 d [([ob,st.objs.length],rds++[ob])]) (i+1) S Φ):RW P rd base ops d i st Φ:=by
 split at h
 ·rename_i hroom
  obtain ⟨o,E,ho,hm,rfl,rfl,hz,hb0,hw0,hev⟩:=Qkn hi
  refine X6 (nf:=nf) ho (hev nf _ _ _ _ ⟨some (.ref st.objs.length 0 (l++m).length),[(ob,.dead),(st.objs.length,.row false false (nr && nr') (fl && fl') E.size ((l++m).map enc))],st.objs.length+1,[ob]⟩ hel hn ?_) hS (aJ hl) (k h)
  have h1:Nat.beq (0+l.length) l.length=true:=by simp
  have h2:Nat.ble (0+l.length) l.length=true:=by simp
  have h3:Vn E.bytes (l.length+m.length)=true:=by
   refine Qka hb0 ?_
   rw [<-aO]; exact hroom
  simp only [absAppend,hrow,dZ,h1,h2,hz,h3,Bool.and_self,eK,List.drop_zero,cV,aO,bW]
 ·cases h
theorem Qnj {α R:Type} {enc:α->AV} {m:List α} {w bytes:Nat} {nr' fl':Bool} {a b:AV} {rds:List Nat} {A:Option R} {r:R} (nf:Bool) (hi:Qmj P ops i st=some (a,b,w,bytes)) (ha:a=.nils\/a=.emp)
  (hel:Vf st.sto w b=some (m.map enc,nr',fl',rds)) (hn:(nr' || nf)=true)
  (hS:Zl ops i st (some (.ref st.objs.length 0 m.length)) [(st.objs.length,.row false false nr' fl' w (m.map enc))]=some S) (hl:Nat.beq S.objs.length (st.objs.length+1)=true)
  (h:(if m.length*bytes<=140737488355328 then A else none)=some r) (k:A=some r->RW P rd base ops (Q1 d [([st.objs.length],rds)]) (i+1) S Φ):RW P rd base ops d i st Φ:=by
 split at h
 ·rename_i hroom
  obtain ⟨o,E,ho,hm,rfl,rfl,hz,hb0,hw0,hev⟩:=Qkn hi
  refine X6 (nf:=nf) ho (hev nf _ _ _ _ ⟨some (.ref st.objs.length 0 m.length),[(st.objs.length,.row false false nr' fl' E.size (m.map enc))],st.objs.length+1,[]⟩ hel hn ?_) hS (aJ hl) (by simpa using k h)
  have h3:Vn E.bytes m.length=true:=Qka hb0 hroom
  rcases ha with rfl | rfl <;> simp only [absAppend,hz,h3,blt_true hw0,Bool.and_self,eK,bW]
 ·cases h
theorem Qed {σ:Sto} {α:Type} {enc:α->AV} {m:List α} {w:Nat} {fl:Bool} (hw:∀a,Nat.beq (enc a).flat.length w=true):Vf σ w (.lst fl (m.map enc))=some (m.map enc,true,fl,[]):=by
 have:Qoi w (m.map enc)=true:=by cases m <;> simp [Qoi,aJ (hw _)]
 simp only [Vf,this,eK]
def Qyr (P:Program) (ops:Array Oper) (i:Nat) (st:St):Option (Int × Int × AV × Nat × Nat) :=
 match Z0 ops i st with
 | some o=>match o.op with
  | .makeSlice t x y=>match ti P t,evo (lk st.slots) x,evo (lk st.slots) y with
   | some T,some (.int _ n),some (.int _ m)=>match T.kind with
    | .slice e=>match ti P e with
     | some E=>match E.zero with
      | some z=>if Nat.beq z.flat.length E.size && Nat.blt 0 E.size && Nat.blt 0 E.bytes then some (n,m,z,E.size,E.bytes) else none
      | none=>none
     | none=>none
    | _=>none
   | _,_,_=>none
  | _=>none
 | none=>none
def Qo7 (P:Program) (ops:Array Oper) (i:Nat) (st:St):Option (AV × Option AV × Option AV × Option AV × Nat) :=
 match Z0 ops i st with
 | some o=>match o.op with
  | .slice t x lo hi mx=>if mx.isSome && hi.isNone then none else match ti P t,evo (lk st.slots) x,Kt (lk st.slots) lo,Kt (lk st.slots) hi,Kt (lk st.slots) mx with
   | some T,some a,some l,some h,some m=>match T.kind with
    | .slice e=>match ti P e with
     | some E=>some (a,l,h,m,E.size)
     | none=>none
    | _=>none
   | _,_,_,_,_=>none
  | _=>none
 | none=>none
theorem Qvi {a:AV} {l h m:Option AV} {w:Nat} (hi:Qo7 P ops i st=some (a,l,h,m,w)):∃o,Z0 ops i st=some o/\Zq o.op=false /\
  ∀v rds,Kv st.sto w a l h m=some (v,rds)->Ze P false noC st.sto st.objs.length (lk st.slots) o=some (.val ⟨some v,[],st.objs.length,rds⟩):=by
 unfold Qo7 at hi
 split at hi
 ·rename_i o ho
  split at hi
  ·rename_i t x lo hh mx hop
   split at hi
   ·cases hi
   ·rename_i hmx
    split at hi
    ·rename_i T a' l' h' m' hT hx h1 h2 h3
     split at hi
     ·rename_i e hk
      split at hi
      ·rename_i E hE
       cases hi
       refine ⟨o,ho,by rw [hop]; rfl,fun v rds hv=>?_⟩
       unfold Ze
       rw [hop]
       simp only [Zq,aT,eJ]
       unfold evalOp
       rw [hop]
       simp only [hmx,eJ,hT,hx,h1,h2,h3,hk,hE,hv,bK,Zi,aT]
      ·cases hi
     ·cases hi
    ·cases hi
  ·cases hi
 ·cases hi
def loI:Option AV->Option Int
 | none=>some 0
 | some (.int _ a)=>some a
 | _=>none
def hiI (n:Nat):Option AV->Option Int
 | none=>some n
 | some (.int _ a)=>some a
 | _=>none
theorem Q3t {x:Option AV} {a:Int} (h:loI x=some a) (h0:0<=a):Vq x 0=some a.toNat := by
 unfold loI at h
 split at h
 ·cases h; rfl
 ·rename_i k b; cases h; simp [Vq,asN]; omega
 cases h
theorem Q4u {n:Nat} {x:Option AV} {a:Int} (h:hiI n x=some a) (h0:0<=a):Vq x n=some a.toNat := by
 unfold hiI at h
 split at h
 ·cases h; simp [Vq]
 ·rename_i k b; cases h; simp [Vq,asN]; omega
 cases h
theorem Q7n {α R:Type} {enc:α->AV} {l:List α} {ob:Nat} {ro nr fl:Bool} {lo hi:Option AV} {a b:Int} {w:Nat} {A:Option R} {r:R} (hi':Qo7 P ops i st=some (.ref ob 0 l.length,lo,hi,none,w)) (hrow:st.sto ob=some (.row false ro nr fl w (l.map enc)))
  (ha:loI lo=some a) (hb:hiI l.length hi=some b) (hS:Zl ops i st (some (.ref ob a.toNat (b.toNat - a.toNat))) []=some S)
  (h:(if 0<=a/\a<=b/\b<=l.length then A else none)=some r) (k:A=some r->RW P rd base ops (Q1 d [([],[ob])]) (i+1) S Φ):RW P rd base ops d i st Φ:=by
 split at h
 ·rename_i hc
  obtain ⟨c1,c2,c3⟩:=hc
  obtain ⟨o,ho,hm,hev⟩:=Qvi hi'
  refine X6 (nf:=false) ho (hev (.ref ob a.toNat (b.toNat - a.toNat)) [ob] ?_) hS (Z6 hS) (k h)
  have g1:Nat.ble a.toNat b.toNat = true:=Qgz (by omega)
  have g2:Nat.ble b.toNat (l.map enc).length=true:=Qgz (by rw [bW]; omega)
  simp only [Kv,hrow,Q3t ha c1,Q4u hb (by omega),dR,g1,g2,dZ,Bool.and_self,eK]
 ·cases h
def Qf3 (ops:Array Oper) (i:Nat) (st:St):Option (BinOp × IntKind × Int × IntKind × Int) :=
 match Z0 ops i st with
 | some o=>match o.op with
  | .binOp op _ x y _=>match evo (lk st.slots) x,evo (lk st.slots) y with
   | some (.int k a),some (.int k' b)=>some (op,k,a,k',b)
   | _,_=>none
  | _=>none
 | none=>none
theorem Qc6 {op:BinOp} {k k':IntKind} {a b:Int} (hi:Qf3 ops i st=some (op,k,a,k',b)):∃o t x y t2,Z0 ops i st=some o/\o.op=.binOp op t x y t2/\evo (lk st.slots) x=some (.int k a)/\evo (lk st.slots) y=some (.int k' b):=by
 unfold Qf3 at hi
 split at hi
 ·rename_i o ho
  split at hi
  ·rename_i op' t x y t2 hop
   split at hi
   ·rename_i k1 a1 k2 b1 hx hy
    cases hi
    exact ⟨o,t,x,y,t2,ho,hop,hx,hy⟩
   cases hi
  cases hi
 cases hi
theorem Qt8 {R:Type} {k:IntKind} {a b:Int} {A:Option R} {r:R} (hi:Qf3 ops i st=some (.quo,k,a,k,b)) (hS:Zl ops i st (some (.int k (k.wrap (a.tdiv b)))) []=some S) (h:(if b≠0 then A else none)=some r)
  (kk:A=some r->RW P rd base ops (Q1 d [([],[])]) (i+1) S Φ):RW P rd base ops d i st Φ:=by
 split at h
 ·rename_i hb
  obtain ⟨o,t,x,y,t2,ho,hop,hx,hy⟩:=Qc6 hi
  refine X6 (nf:=false) (v:=some (.int k (k.wrap (a.tdiv b)))) (eff:=[]) (fr:=st.objs.length) (rds:=[]) ho ?_ hS (Z6 hS) (kk h)
  unfold Ze
  rw [hop]
  simp only [Zq,aT,eJ]
  unfold evalOp
  rw [hop]
  simp only [hx,hy,Qif,eK,Ql6,hb,eJ,Zx,bK,Zi]
 ·cases h
theorem Qc7 {R:Type} {k:IntKind} {a b:Int} {A:Option R} {r:R} (hi:Qf3 ops i st=some (.rem,k,a,k,b)) (hS:Zl ops i st (some (.int k (a.tmod b))) []=some S) (h:(if b≠0 then A else none)=some r)
  (kk:A=some r->RW P rd base ops (Q1 d [([],[])]) (i+1) S Φ):RW P rd base ops d i st Φ:=by
 split at h
 ·rename_i hb
  obtain ⟨o,t,x,y,t2,ho,hop,hx,hy⟩:=Qc6 hi
  refine X6 (nf:=false) (v:=some (.int k (a.tmod b))) (eff:=[]) (fr:=st.objs.length) (rds:=[]) ho ?_ hS (Z6 hS) (kk h)
  unfold Ze
  rw [hop]
  simp only [Zq,aT,eJ]
  unfold evalOp
  rw [hop]
  simp only [hx,hy,Qif,eK,Ql6,hb,eJ,Zx,bK,Zi]
 ·cases h
theorem Qdp {R:Type} {k k':IntKind} {a b:Int} {A:Option R} {r:R} (hi:Qf3 ops i st=some (.shl,k,a,k',b)) (hS:Zl ops i st (some (.int k (k.wrap (a*2^min b.toNat k.bits)))) []=some S) (h:(if 0<=b then A else none)=some r)
  (kk:A=some r->RW P rd base ops (Q1 d [([],[])]) (i+1) S Φ):RW P rd base ops d i st Φ:=by
 split at h
 ·rename_i hb
  obtain ⟨o,t,x,y,t2,ho,hop,hx,hy⟩:=Qc6 hi
  refine X6 (nf:=false) (v:=some (.int k (k.wrap (a*2^min b.toNat k.bits)))) (eff:=[]) (fr:=st.objs.length) (rds:=[]) ho ?_ hS (Z6 hS) (kk h)
  have hb':¬ b < 0:=by omega
  unfold Ze
  rw [hop]
  simp only [Zq,aT,eJ]
  unfold evalOp
  rw [hop]
  simp only [hx,hy,Qif,hb',eJ,Zx,bK,Zi]
 ·cases h
theorem Yh {R:Type} {k k':IntKind} {a b:Int} {A:Option R} {r:R} (hi:Qf3 ops i st=some (.shr,k,a,k',b)) (hS:Zl ops i st (some (.int k (a.fdiv (2^min b.toNat k.bits)))) []=some S) (h:(if 0<=b then A else none)=some r)
  (kk:A=some r->RW P rd base ops (Q1 d [([],[])]) (i+1) S Φ):RW P rd base ops d i st Φ:=by
 split at h
 ·rename_i hb
  obtain ⟨o,t,x,y,t2,ho,hop,hx,hy⟩:=Qc6 hi
  refine X6 (nf:=false) (v:=some (.int k (a.fdiv (2^min b.toNat k.bits)))) (eff:=[]) (fr:=st.objs.length) (rds:=[]) ho ?_ hS (Z6 hS) (kk h)
  have hb':¬ b < 0:=by omega
  unfold Ze
  rw [hop]
  simp only [Zq,aT,eJ]
  unfold evalOp
  rw [hop]
  simp only [hx,hy,Qif,hb',eJ,Zx,bK,Zi]
 ·cases h
end
end Go.Ab
namespace Go.Ab
open Go.RowKit
inductive LK where
 | keep | lst (fl:Bool) | emp
def LK.ap:LK->AV->AV
 | .keep,x=>x
 | .lst fl,x=>match x with
  | .nils | .emp=>.lst fl []
  | .lst f xs=>.lst (f && fl) xs
  | x=>x
 | .emp,x=>match x with
  | .nils=>.emp
  | x=>x
def Qd0:List LK->List AV->List AV
 | h::hs,x::xs=>h.ap x::Qd0 hs xs
 | _,xs=>xs
def Qy (hs:List LK):AV->AV
 | .agg cs=>.agg (Qd0 hs cs)
 | x=>match hs with
  | h::_=>h.ap x
  | []=>x
def Qhy:List (List LK)->List AV->List AV
 | h::hs,x::xs=>Qy h x::Qhy hs xs
 | _,xs=>xs
def Qgc (hss:List (List LK)):AV->AV
 | .tup vs=>.tup (Qhy hss vs)
 | x=>match hss with
  | h::_=>Qy h x
  | []=>x
theorem LK.ap_rep {M:CM} {ι:Inj} {v:Value} {x:AV} (h:LK) (hr:Qa M ι v x):Qa M ι v (h.ap x):=by
 cases h with
 | keep=>exact hr
 | emp =>
  cases x <;> simp only [LK.ap] <;> first | exact hr | (cases hr; exact .emp _)
 | lst fl =>
  cases x with
  | nils=>cases hr; exact .lst0 _ _
  | emp=>cases hr; exact .lst0 _ _
  | lst f xs =>
   cases hr with
   | lst0=>exact .lst0 _ _
   | lst b off cap w _ _ g hcap hfl hc hM hr =>
    exact .lst b off cap w _ xs g hcap (fun h=>hfl (by simp at h; exact h.1)) hc hM hr
  | _=>exact hr
theorem LK.ap_cell (h:LK) (x:AV):(h.ap x).cell=x.cell:=by
 cases h <;> cases x <;> rfl
theorem LK.ap_sc (h:LK) {x:AV} (hs:x.sc=true):(h.ap x).sc=true:=by
 cases h <;> cases x <;> first | exact hs | rfl
theorem LK.ap_nr (h:LK) {x:AV} (hs:x.nr=true):(h.ap x).nr=true:=by
 cases h <;> cases x <;> first | exact hs | rfl
theorem Qh3:∀(hs:List LK) (xs:List AV),(Qd0 hs xs).length=xs.length
 | [],xs=>by cases xs <;> rfl
 | h::hs,[]=>rfl
 | h::hs,x::xs=>by simp [Qd0,Qh3 hs xs]
theorem Qi0 : ∀(hs:List LK) (xs:List AV) (j:Nat) (y:AV),(Qd0 hs xs)[j]?=some y->∃h x,xs[j]?=some x/\y=LK.ap h x
 | [],xs,j,y,hj=>⟨.keep,y,by cases xs <;> simpa [Qd0] using hj,rfl⟩
 | h::hs,[],j,y,hj=>by simp [Qd0] at hj
 | h::hs,x::xs,0,y,hj=>by simp only [Qd0,eN,aK] at hj; exact ⟨h,x,rfl,hj.symm⟩
 | h::hs,x::xs,j+1,y,hj=>by
  simp only [Qd0,List.getElem?_cons_succ] at hj
  obtain ⟨h',x',e1,e2⟩:=Qi0 hs xs j y hj
  exact ⟨h',x',by simpa using e1,e2⟩
theorem Qj5 {hs:List LK} {xs:List AV} {y:AV} (hy:y∈Qd0 hs xs):∃h x,x∈xs/\y=LK.ap h x:=by
 obtain ⟨j,hj,rfl⟩:=bB.1 hy
 obtain ⟨h,x,e1,e2⟩:=Qi0 hs xs j _ (aG hj)
 exact ⟨h,x,aF e1,e2⟩
theorem Qea {M:CM} {ι:Inj} {v:Value} {x:AV} (hs:List LK) (hr:Qa M ι v x):Qa M ι v (Qy hs x):=by
 cases x
 case agg cs =>
  simp only [Qy]
  cases hr with
  | agg cs' _ h hc hr =>
   refine .agg cs' _ (by rw [Qh3]; exact h) (fun y hy=>?_) (fun j v y hv hy=>?_)
   ·obtain ⟨h',x,hx,rfl⟩:=Qj5 hy; rw [LK.ap_cell]; exact hc x hx
   obtain ⟨h',x,hx,rfl⟩:=Qi0 hs cs j y hy; exact LK.ap_rep h' (hr j v x hv hx)
 all_goals (cases hs <;> simp only [Qy] <;> first | exact hr | exact LK.ap_rep _ hr)
theorem Qqn : ∀(hs:List (List LK)) (xs:List AV) (j:Nat) (y:AV),(Qhy hs xs)[j]?=some y->∃h x,xs[j]?=some x/\y=Qy h x
 | [],xs,j,y,hj=>⟨[],y,by cases xs <;> simpa [Qhy] using hj,by cases y <;> rfl⟩
 | h::hs,[],j,y,hj=>by simp [Qhy] at hj
 | h::hs,x::xs,0,y,hj=>by simp only [Qhy,eN,aK] at hj; exact ⟨h,x,rfl,hj.symm⟩
 | h::hs,x::xs,j+1,y,hj=>by
  simp only [Qhy,List.getElem?_cons_succ] at hj
  obtain ⟨h',x',e1,e2⟩:=Qqn hs xs j y hj
  exact ⟨h',x',by simpa using e1,e2⟩
theorem Qh6:∀(hs:List (List LK)) (xs:List AV),(Qhy hs xs).length=xs.length
 | [],xs=>by cases xs <;> rfl
 | h::hs,[]=>rfl
 | h::hs,x::xs=>by simp [Qhy,Qh6 hs xs]
theorem Qvc {M:CM} {ι:Inj} {v:Value} {x:AV} (hs:List (List LK)) (hr:Qa M ι v x):Qa M ι v (Qgc hs x):=by
 cases x
 case tup vs =>
  simp only [Qgc]
  cases hr with
  | tup vs' _ h hr =>
   refine .tup vs' _ (by rw [Qh6]; exact h) (fun j v y hv hy=>?_)
   obtain ⟨h',x,hx,rfl⟩:=Qqn hs vs j y hy; exact Qea h' (hr j v x hv hx)
 all_goals (cases hs <;> simp only [Qgc] <;> first | exact hr | exact Qea _ hr)
theorem Qc1 (hs:List LK) {x:AV} (hx:x=.agg x.flat \/ x.cell=true):∃hs',(Qy hs x).flat = Qd0 hs' x.flat /\ (Qy hs x=.agg (Qy hs x).flat \/ (Qy hs x).cell=true):=by
 rcases hx with e | e
 ·generalize hf:x.flat = cs at e
  subst e
  exact ⟨hs,rfl,.inl rfl⟩
 have hf:=AV.flat_cell e
 rw [hf]
 cases hs with
 | nil=>exact ⟨[],by cases x <;> simp_all [Qy,Qd0,AV.cell,AV.flat],.inr (by cases x <;> simp_all [Qy,AV.cell])⟩
 | cons h r =>
  have hl:Qy (h::r) x=h.ap x:=by cases x <;> simp_all [Qy,AV.cell]
  have hc:(h.ap x).cell=true:=by rw [LK.ap_cell]; exact e
  exact ⟨[h],by rw [hl,AV.flat_cell hc]; rfl,.inr (by rw [hl]; exact hc)⟩
theorem Qic (hs:List LK) {x:AV} {w:Nat} (h:x.shaped w):(Qy hs x).shaped w:=by
 obtain ⟨hs',e1,e2⟩:=Qc1 hs h.form
 refine ⟨e2,by rw [e1,Qh3]; exact h.len,fun y hy=>?_⟩
 rw [e1] at hy
 obtain ⟨h',z,hz,rfl⟩:=Qj5 hy
 rw [LK.ap_cell]; exact h.cells z hz
theorem Qxi (hs:List LK) {x:AV} (h:x.nr=true):(Qy hs x).nr=true:=by
 cases x
 case agg cs =>
  simp only [Qy,AV.nr,Q2] at h ⊢
  intro y hy
  obtain ⟨h',z,hz,rfl⟩:=Qj5 hy
  exact LK.ap_nr h' (h z hz)
 all_goals (cases hs <;> simp only [Qy] <;> first | exact h | exact LK.ap_nr _ h)
theorem Qu3 (hs:List LK) {x:AV} {w:Nat} (hx:x.shaped w) (h:x.scs=true):(Qy hs x).scs=true:=by
 obtain ⟨hs',e1,e2⟩:=Qc1 hs hx.form
 rw [Qbz] at *
 rw [e1]
 intro y hy
 obtain ⟨h',z,hz,rfl⟩:=Qj5 hy
 exact LK.ap_sc h' (h z hz)
section
variable {P:Program} {B:Nat} {W0 W:World} {D:List Nat} {M:CM} {ι:Inj} {σ:Sto}
theorem Rel.lessRow (h:Rel P B W0 D M ι σ W) {o:Nat} {bx ro nr fl nr' fl':Bool} {w:Nat} {xs xs':List AV} (hσ:σ o=some (.row bx ro nr fl w xs)) (hl:xs'.length=xs.length)
  (hx:∀(i:Nat) (x x':AV),xs[i]?=some x->xs'[i]?=some x'->∃hs,x'=Qy hs x) (hnr:nr'=true->AV.nrL xs'=true) (hfl:fl'=true->∀x∈xs',AV.scs x=true) :
  Rel P B W0 D M ι (σ.put o (.row bx ro nr' fl' w xs')) W:=by
 obtain ⟨p0,hp0,hrow⟩:=h.row o bx ro nr fl w xs hσ
 have hat : ∀(i:Nat) (x':AV),xs'[i]?=some x'->∃x hs,xs[i]?=some x/\x'=Qy hs x:=fun i x' hi=>by
  have hlt:i < xs.length:=by rw [<-hl]; exact (aD.1 hi).1
  obtain ⟨hs,e⟩:=hx i _ x' (aG hlt) hi
  exact ⟨_,hs,aG hlt,e⟩
 have hcell:∀(i j:Nat) (x' y':AV),xs'[i]?=some x'->x'.flat[j]?=some y'->∃x y,xs[i]?=some x/\x.flat[j]?=some y/\∃hk,y'=LK.ap hk y:=fun i j x' y' hi hj=>by
  obtain ⟨x,hs,e1,rfl⟩:=hat i x' hi
  obtain ⟨hs',e2,_⟩:=Qc1 hs (hrow.shaped x (aF e1)).form
  rw [e2] at hj
  obtain ⟨hk,y,e3,e4⟩:=Qi0 hs' _ j y' hj
  exact ⟨x,y,e1,e3,hk,e4⟩
 refine ⟨h.size,h.below,h.defs,h.agree,fun k bx1 nr1 fl1 w1 xs1 q j hk hq hj=>?_,?_,?_,?_,?_,?_⟩
 ·by_cases e:k=o
  ·subst e; rw [Sto.put_same] at hk; cases hk; exact h.cool _ _ _ _ _ _ _ _ hσ hq hj
  ·rw [Sto.put_ne _ _ e] at hk; exact h.cool _ _ _ _ _ _ _ _ hk hq hj
 ·intro k bx1 ro1 nr1 fl1 w1 xs1 hk
  by_cases e:k=o
  ·subst e
   rw [Sto.put_same] at hk
   cases hk
   refine ⟨p0,hp0,⟨hrow.pw,hrow.pos,hrow.cpos,by rw [hl]; exact hrow.len,fun x' hx'=>?_,hnr,hfl,fun i j x' y' hi hj=>?_,hrow.own,fun hro i j x' y' hi hj=>?_⟩⟩
   ·obtain ⟨i,hi,rfl⟩:=bB.1 hx'
    obtain ⟨x,hs,e1,e2⟩:=hat i _ (aG hi)
    rw [e2]; exact Qic hs (hrow.shaped x (aF e1))
   ·obtain ⟨x,y,e1,e2,hk,rfl⟩:=hcell i j x' y' hi hj
    obtain ⟨v,hv,hr⟩:=hrow.cells i j x y e1 e2
    exact ⟨v,hv,LK.ap_rep hk hr⟩
   ·obtain ⟨x,y,e1,e2,hk,rfl⟩:=hcell i j x' y' hi hj
    obtain ⟨v,hv,hr⟩:=hrow.imm hro i j x y e1 e2
    exact ⟨v,hv,LK.ap_rep hk hr⟩
  ·rw [Sto.put_ne _ _ e] at hk
   exact h.row k bx1 ro1 nr1 fl1 w1 xs1 hk
 ·intro k fn sl ps as bd st pe hk
  have e:k≠o:=fun e=>by subst e; rw [Sto.put_same] at hk; cases hk
  rw [Sto.put_ne _ _ e] at hk
  exact h.loop k fn sl ps as bd st pe hk
 ·intro k k' bx1 nr1 fl1 w1 xs1 bx2 nr2 fl2 w2 xs2 q q' hkk h1 h2 hq hq'
  have g:∀k bx1 nr1 fl1 w1 xs1,σ.put o (.row bx ro nr' fl' w xs') k=some (.row bx1 false nr1 fl1 w1 xs1)->∃bx nr fl w xs,σ k=some (.row bx false nr fl w xs):=fun k bx1 nr1 fl1 w1 xs1 hk=>by
   by_cases e:k=o
   ·subst e; rw [Sto.put_same] at hk; cases hk; exact ⟨_,_,_,_,_,hσ⟩
   rw [Sto.put_ne _ _ e] at hk; exact ⟨_,_,_,_,_,hk⟩
  obtain ⟨_,_,_,_,_,g1⟩:=g _ _ _ _ _ _ h1
  obtain ⟨_,_,_,_,_,g2⟩:=g _ _ _ _ _ _ h2
  exact h.apart _ _ _ _ _ _ _ _ _ _ _ _ _ _ hkk g1 g2 hq hq'
 ·intro k k' fn sl ps as bd st pe fn' sl' ps' as' bd' st' pe' q q' hkk h1 h2 hq hq'
  have e:k≠o:=fun e=>by subst e; rw [Sto.put_same] at h1; cases h1
  have e':k'≠o:=fun e=>by subst e; rw [Sto.put_same] at h2; cases h2
  rw [Sto.put_ne _ _ e] at h1; rw [Sto.put_ne _ _ e'] at h2
  exact h.loops _ _ _ _ _ _ _ _ _ _ _ _ _ _ _ _ _ _ hkk h1 h2 hq hq'
 ·intro k hk
  have e:k≠o:=fun e=>by subst e; rw [hp0] at hk; cases hk
  rw [Sto.put_ne _ _ e]; exact h.used k hk
def X8 (hs:List LK) (b:Bool):List (Nat × AObj)->List (Nat × AObj)
 | []=>[]
 | (o,x)::es=>match es with
  | []=>match x with
   | .row bx ro nr fl w xs=>[(o,.row bx ro nr (b && fl) w (xs.map (Qy hs)))]
   | x=>[(o,x)]
  | _=>(o,x)::X8 hs b es
theorem Rel.lessEff (hs:List LK) (b:Bool):∀(es:List (Nat × AObj)) (σ:Sto),Rel P B W0 D M ι (σ.puts es) W->Rel P B W0 D M ι (σ.puts (X8 hs b es)) W
 | [],σ,h=>h
 | (o,x)::es,σ,h=>by
  cases es with
  | cons e es=>exact Rel.lessEff hs b (e::es) (σ.put o x) h
  | nil =>
   cases x with
   | row bx ro nr fl w xs =>
    have h':Rel P B W0 D M ι (σ.put o (.row bx ro nr fl w xs)) W:=h
    obtain ⟨p,hp,hrow⟩:=h'.row o bx ro nr fl w xs (Sto.put_same _ _ _)
    have:=h'.lessRow (xs':=xs.map (Qy hs)) (nr':=nr) (fl':=b && fl) (Sto.put_same _ _ _) (by simp) (fun i x x' hi hi'=>⟨hs,by simp [hi] at hi'; exact hi'.symm⟩)
     (fun hn=>by
      rw [Q2]; intro y hy
      simp only [cD] at hy
      obtain ⟨z,hz,rfl⟩:=hy
      exact Qxi hs (Q2.1 (hrow.nr hn) z hz))
     (fun hf y hy=>by
      simp only [cD] at hy
      obtain ⟨z,hz,rfl⟩:=hy
      exact Qu3 hs (hrow.shaped z hz) (hrow.fl (by simp at hf; exact hf.2) z hz))
    have e:∀(σ:Sto) (x y:AObj),(σ.put o x).put o y=σ.put o y:=fun σ x y=>by
     funext k; by_cases e:k=o <;> simp [Sto.put,e]
    rw [e] at this
    exact this
   | loop=>exact h
   | dead=>exact h
   | fam=>exact h
   | refs=>exact h
theorem Qke (hs:List LK) (b:Bool):∀(es:List (Nat × AObj)),(X8 hs b es).map (·.1)=es.map (·.1)
 | []=>rfl
 | (o,x)::es=>by
  cases es with
  | cons e es=>simp only [X8,dE]; congr 1; exact Qke hs b (e::es)
  | nil=>cases x <;> rfl
end
section
variable {P:Program} {rd:Option Nat} {base:Nat} {ops:Array Oper} {st st1 st' S:St} {o:Oper} {F:Foot} {out:AOut} {Φ:AOut->Prop} {d:Option (List Sk)} {i:Nat} {nf:Bool} {s:Slots} {σ:Sto} {c:Code}
theorem Q0u (hv he:List LK) (b:Bool) (h:YlL P ops o F s σ):YlL P ops o ⟨F.v.map (Qy hv),X8 he b F.eff,F.fr,F.fr',F.rd⟩ s σ:=by
 intro s' σ' hs hσ
 rcases h s' σ' hs hσ with ⟨hw,hd⟩ | ⟨hw,h1,h2⟩
 ·refine .inl ⟨hw,?_⟩
  intro B W0 D M ι a W n Q r next hrel hsl hfree hpost
  refine hd B W0 D M ι a W n Q r next hrel hsl hfree (fun v W' M' ι' g1 g2 g3 g4 g5=>hpost v W' M' ι' g1 g2 g3 (Rel.lessEff he b _ _ g4) (fun x hx=>?_))
  simp only [aR] at hx
  obtain ⟨y,hy,rfl⟩:=hx
  exact Qea hv (g5 y hy)
 exact .inr ⟨hw,by simp only [h1,bK]; cases hv <;> (try rename_i x _; cases x) <;> rfl,by simp [h2,X8]⟩
theorem Qo9 {v:Option AV} {eff:List (Nat × AObj)} {fr:Nat} {rds:List Nat} (hv he:List LK) (b:Bool) {C:FuncId->List AV->Option Xk} (hC:Qj9 P C) (ho:Z0 ops i st=some o) (hev:Ze P nf C st.sto st.objs.length (lk st.slots) o=some (.val ⟨v,eff,fr,rds⟩))
  (hS:Zl ops i st (v.map (Qy hv)) (X8 he b eff)=some S) (hl:S.objs.length=fr) (k:RW P rd base ops (Q1 d [(eff.map (·.1),rds)]) (i+1) S Φ):RW P rd base ops d i st Φ:=by
 obtain ⟨h1,h2⟩:=Js ho
 unfold Zl at hS
 rw [h1] at hS
 simp only at hS
 split at hS
 ·rename_i objs slots ha hp
  cases hS
  refine Qck (s:=(eff.map (·.1),rds)) ⟨o,⟨v.map (Qy hv),X8 he b eff,st.objs.length,fr,rds⟩,h1,Qtu ?_ rfl hl.symm ha hp rfl,Qzo (by simp [Foot.sk,Qke])⟩ k
  exact Q0u hv he b (ylL_ev hC h2 hev)
 ·cases hS
noncomputable def Qxe (P:Program) (nf:Bool) (ops:Array Oper) (i:Nat) (st:St) (hv he:List LK) (b:Bool):Option St :=
 match Z0 ops i st with
 | some o=>match Ze P nf noC st.sto st.objs.length (lk st.slots) o with
  | some (.val ⟨v,eff,fr,rd⟩)=>match Zl ops i st (v.map (Qy hv)) (X8 he b eff) with
   | some S=>if Nat.beq S.objs.length fr then some S else none
   | none=>none
  | _=>none
 | none=>none
noncomputable def Quf (P:Program) (nf:Bool) (ops:Array Oper) (i:Nat) (st:St):Sk :=
 match Z0 ops i st with
 | some o=>match Ze P nf noC st.sto st.objs.length (lk st.slots) o with
  | some (.val ⟨v,eff,fr,rd⟩)=>(eff.map (·.1),rd)
  | _=>([],[])
 | none=>([],[])
theorem sgL (nf:Bool) (hv he:List LK) (b:Bool) (h:Qxe P nf ops i st hv he b=some S) (k:RW P rd base ops (Q1 d [Quf P nf ops i st]) (i+1) S Φ):RW P rd base ops d i st Φ:=by
 unfold Qxe at h
 unfold Quf at k
 split at h
 rotate_left
 ·cases h
 rename_i o ho
 rw [ho] at k
 simp only at k
 split at h
 ·rename_i v eff fr rds hev
  rw [hev] at k
  split at h
  ·rename_i S' hS
   split at h
   ·rename_i hl
    cases h
    exact Qo9 hv he b noC_sound ho hev hS (aJ hl) k
   cases h
  cases h
 cases h
theorem mkL {α R:Type} {enc:α->AV} {z:α} {z0:AV} {n m:Int} {w bytes:Nat} {A:Option R} {r:R} (he:List LK) (b:Bool) (hi:Qyr P ops i st=some (n,m,z0,w,bytes)) (hz0:Qy he z0=enc z)
  (hS:Zl ops i st (some (.ref st.objs.length 0 (List.replicate n.toNat z).length)) [(st.objs.length,.row false false z0.nr (b && z0.scs) w ((List.replicate n.toNat z).map enc))]=some S) (hl:Nat.beq S.objs.length (st.objs.length+1)=true)
  (h:(if 0<=n/\n<=m/\m*bytes<=140737488355328 then A else none)=some r) (k:A=some r->RW P rd base ops (Q1 d [([st.objs.length],[])]) (i+1) S Φ):RW P rd base ops d i st Φ:=by
 split at h
 ·rename_i hc
  obtain ⟨c1,c2,c3⟩:=hc
  unfold Qyr at hi
  split at hi
  ·rename_i o ho
   split at hi
   ·rename_i t x y hop
    split at hi
    ·rename_i T k1 n' k2 m' hT hx hy
     split at hi
     ·rename_i e hk
      split at hi
      ·rename_i E hE
       split at hi
       ·rename_i z1 hz
        split at hi
        ·rename_i hb
         simp only [aE] at hb
         simp only [aK,aV] at hi
         obtain ⟨rfl,rfl,rfl,rfl,rfl⟩:=hi
         refine Qo9 (nf:=false) (v:=some (.ref st.objs.length 0 (List.replicate n'.toNat z1).length)) (eff:=[(st.objs.length,.row false false z1.nr z1.scs E.size (List.replicate n'.toNat z1))]) (fr:=st.objs.length+1) (rds:=[]) [] he b noC_sound ho ?_ ?_ (aJ hl) (by simpa using k h)
         ·have hb0:=Y1 hb.2
          have g1:¬ n' < 0:=by omega
          have g2:¬ m' < 0:=by omega
          have c3':m'.toNat * E.bytes<=140737488355328:=by
           have:((m'.toNat * E.bytes:Nat):Int)<=140737488355328:=by
            rw [Int.natCast_mul,Int.toNat_of_nonneg (by omega)]; exact c3
           omega
          have g3:=Qka hb0 c3'
          have g4:Nat.ble n'.toNat m'.toNat = true:=Qgz (by omega)
          have g5:Nat.ble m'.toNat 9223372036854775807=true:=by
           refine Qgz ?_
           have:=Nat.le_mul_of_pos_right m'.toNat hb0
           omega
          have g6:=hb.1.1
          have g7:=hb.1.2
          unfold Ze
          rw [hop]
          simp only [Zq,aT,eJ]
          unfold evalOp
          rw [hop]
          simp only [hT,hx,hy,hk,asN,g1,g2,eJ,hE,hz,g3,g4,g5,g6,g7,Bool.and_self,eK,Zi,cE]
         ·have e1:(List.replicate n'.toNat z1).map (Qy he)=(List.replicate n'.toNat z).map enc:=by simp [List.map_replicate,hz0]
          have e2:(List.replicate n'.toNat z1).length=(List.replicate n'.toNat z).length:=by simp
          simp only [X8,e1,e2,bK,Qy]
          exact hS
        ·cases hi
       ·cases hi
      ·cases hi
     ·cases hi
    ·cases hi
   ·cases hi
  ·cases hi
 ·cases h
theorem Qy3 {α:Type} {enc:α->AV} {l:List α} {n:Int} {w ob c:Nat} {bx nr fl:Bool} {a a':α} {v:AV} (hs:List LK) (nf:Bool) (hp:Jr ops i st=some (ob,n.toNat,c)) (hrow:st.sto ob=some (.row bx false nr fl w (l.map enc))) (ha:lkI l n=some a)
  (hv:Qct P ops i st=some v) (hk:(bx || nf || v.nr)=true) (x1:AV) (hput:K8 (enc a) c v=some x1) (hx1:Qy hs x1=enc a') (hid:∀b,Qy hs (enc b)=enc b)
  (hS:Zl ops i st none [(ob,.row bx false (nr && v.nr) (fl && v.scs) w ((l.set n.toNat a').map enc))]=some S) (hl:Nat.beq S.objs.length st.objs.length=true) (k:RW P rd base ops (Q1 d [([ob],[ob])]) (i+1) S Φ):RW P rd base ops d i st Φ:=by
 obtain ⟨h1,h2,h3⟩:=Xm ha
 obtain ⟨o,t,x,y,T,ho,hop,hT,hx,hy,hc⟩:=J6 hp hv
 refine Qo9 (nf:=nf) (v:=none) (eff:=[(ob,.row bx false (nr && v.nr) (fl && v.scs) w ((l.map enc).set n.toNat x1))]) (fr:=st.objs.length) (rds:=[ob]) [] hs true noC_sound ho ?_ ?_ (aJ hl) k
 ·unfold Ze
  rw [hop]
  simp only [Zq,aT,eJ]
  unfold evalOp
  rw [hop]
  simp only [hT,hx,hy,hrow,bD,h3,bK,hc,eK,hk,hput,frz,Qae,List.contains_nil,aT,eJ,cU,Zi]
 ·have e1:((l.map enc).set n.toNat x1).map (Qy hs)=(l.set n.toNat a').map enc:=by
   rw [List.map_set,hx1,List.map_map,List.map_set]
   congr 1
   exact List.map_congr_left fun b _=>hid b
  simp only [X8,e1,dW,Option.map_none]
  exact hS
def Wk (P:Program) (base:Nat) (st st':St):Prop :=
 ∀B W0 D0 dl M ι a W,Sim P B W0 D0 dl M ι st a W->∃M' ι',CM.Grow B M M'/\Inj.leB base ι ι'/\Sim P B W0 D0 dl M' ι' st' a W
theorem Qwi:Wk P base st st:=fun B W0 D0 dl M ι a W h=>⟨M,ι,.refl _ _,.refl _ _,h⟩
theorem Zf (h1:Wk P base st st1) (h2:Wk P base st1 st'):Wk P base st st':=fun B W0 D0 dl M ι a W h=>by
 obtain ⟨M1,ι1,m1,e1,g1⟩:=h1 B W0 D0 dl M ι a W h
 obtain ⟨M2,ι2,m2,e2,g2⟩:=h2 B W0 D0 dl M1 ι1 a W g1
 exact ⟨M2,ι2,m1.trans m2,e1.trans e2,g2⟩
theorem Vo {live keep:List Nat} (hg:Qe1 base live keep st=some st'):Wk P base st st':=fun B W0 D0 dl M ι a W h=>let ⟨ι',e,g⟩:=h.gc hg; ⟨M,ι',.refl _ _,e,g⟩
theorem exec_wk (hk:Wk P base st st') (h:Xi P rd base c st' out):Xi P rd base c st out:=by
 intro B W0 D0 dl M ι a W n Q r hs hr hp
 obtain ⟨M',ι',hM,hι,hs'⟩:=hk B W0 D0 dl M ι a W hs
 exact h B W0 D0 dl M' ι' a W n Q r hs' (hr.mono hι) (hp.step hM hι (List.suffix_refl _))
theorem loopX_wk (hk:Wk P base st st') (h:Qja P rd base c st' out):Qja P rd base c st out:=by
 obtain ⟨m,hm⟩:=h
 refine ⟨m,?_⟩
 intro B W0 D0 dl M ι a W n Q r hs hr hp
 obtain ⟨M',ι',hM,hι,hs'⟩:=hk B W0 D0 dl M ι a W hs
 exact hm B W0 D0 dl M' ι' a W n Q r hs' (hr.mono hι) (hp.step hM hι (List.suffix_refl _))
theorem Q7u (hk:Wk P base st st') (h:WP P rd base c st' Φ):WP P rd base c st Φ:=let ⟨o,h1,h2⟩:=h; ⟨o,exec_wk hk h1,h2⟩
theorem Qly (hk:Wk P base st st') (h:LWP P rd base c st' Φ):LWP P rd base c st Φ:=let ⟨o,h1,h2⟩:=h; ⟨o,loopX_wk hk h1,h2⟩
theorem Sim.lt {B:Nat} {W0 W:World} {D0 dl:List Nat} {M:CM} {ι:Inj} {a:Act} {o:Nat} {x:AObj} (h:Sim P B W0 D0 dl M ι st a W) (ho:st.objs[o]?=some x):o < BIG:=bM (aD.1 ho).1 h.big
theorem Qc8 {objs:List AObj} {o:Nat} {x:AObj} (hb:o < BIG) (ho:objs[o]?=some x) (hx:x.isPlain=true):sto objs o=some x:=by rw [Zo hb,ho]; simp [Qgp hx]
def Qhp:AV->Bool
 | .nils | .emp=>true
 | _=>false
theorem Qk9 {M:CM} {ι:Inj} {v:Value} {x:AV} (h:Qhp x=true) (hr:Qa M ι v x):∃a,v=.slice a 0 0:=by
 cases x <;> simp [Qhp] at h
 ·exact ⟨none,hr.nils_inv⟩
 exact hr.emp_inv
def Qwl (t w:Nat) (nr fl:Bool) (st:St):Option St :=
 match lk st.slots t with
 | some x=>if Qhp x && Nat.blt 0 w && Nat.blt st.objs.length BIG then some ⟨setS st.slots t (.ref st.objs.length 0 0),st.objs++[.row false false nr fl w []],st.nt⟩ else none
 | none=>none
theorem Sim.virt {B:Nat} {W0 W:World} {D0 dl:List Nat} {M:CM} {ι:Inj} {a:Act} (h:Sim P B W0 D0 dl M ι st a W) (nr fl:Bool) {w:Nat} (hw:0 < w) (hb:st.objs.length < BIG) :
  ∃p,ι st.objs.length=none/\p.cap=0/\Sim P B W0 D0 dl M (ι.put st.objs.length p) ⟨st.slots,st.objs++[.row false false nr fl w []],st.nt⟩ a W:=by
 have hn:=h.new st.objs.length (InB.not (aZ _) hb)
 refine ⟨⟨B,0,w,0⟩,hn,rfl,⟨?_,fun k y hk=>(h.slots k y hk).mono (CM.le_refl _) (Inj.le_put _ hn),h.nt,h.df,fun k hk=>?_,by simp; omega⟩⟩
 ·show Rel P B W0 (dl++D0) M _ (sto (st.objs++[_])) W
  rw [Qiw rfl hb]
  exact h.rel.virt hn hw
 ·have hk:¬ InB (st.objs.length+1) k:=by simpa using hk
  rw [Inj.put_ne _ _ (fun e=>hk (.inl (by omega)))]; exact h.new k (fun c=>hk (c.mono (Nat.le_succ _)))
theorem Xd (t w:Nat) (nr fl:Bool) (h:Qwl t w nr fl st=some st'):Wk P base st st':=by
 unfold Qwl at h
 split at h
 rotate_left
 ·cases h
 rename_i x hx
 split at h
 ·rename_i hc
  simp only [aE] at hc
  cases h
  intro B W0 D0 dl M ι a W hsim
  obtain ⟨p,hn,hp,hv⟩:=hsim.virt nr fl (Y1 hc.1.2) (Y1 hc.2)
  obtain ⟨ad,had⟩:=Qk9 hc.1.1 (hsim.slots t x hx)
  refine ⟨M,_,.refl _ _,(Inj.le_put p hn).leB base,⟨hv.rel,fun k y hk=>?_,hv.nt,hv.df,hv.new,hv.big⟩⟩
  have hk:lk (setS st.slots t (.ref st.objs.length 0 0)) k=some y:=hk
  rw [Qf5] at hk
  split at hk
  ·rename_i e; cases hk; subst e; rw [had]; exact .ref0 _ _ _ (Inj.put_same _ _ _) hp
  exact hv.slots k y hk
 cases h
def Qsl (o i c w:Nat) (nr fl:Bool) (st:St):Option St :=
 match st.objs[o]? with
 | some (.row bx false nr0 fl0 w0 xs)=>match xs[i]? with
  | some x=>match x.flat[c]? with
   | some y=>if Qhp y && Nat.blt 0 w && Nat.blt st.objs.length BIG then match K8 x c (.ref st.objs.length 0 0) with
     | some x'=>some ⟨st.slots,st.objs.set o (.row bx false false false w0 (xs.set i x'))++[.row false false nr fl w []],st.nt⟩
     | none=>none
    else none
   | none=>none
  | none=>none
 | _=>none
theorem Qmm (o i c w:Nat) (nr fl:Bool) (h:Qsl o i c w nr fl st=some st'):Wk P base st st':=by
 unfold Qsl at h
 split at h
 rotate_left
 ·cases h
 rename_i bx nr0 fl0 w0 xs ho
 split at h
 rotate_left
 ·cases h
 rename_i x hx
 split at h
 rotate_left
 ·cases h
 rename_i y hy
 split at h
 rotate_left
 ·cases h
 rename_i hc
 split at h
 rotate_left
 ·cases h
 rename_i x' hx'
 simp only [aE] at hc
 cases h
 intro B W0 D0 dl M ι a W hsim
 obtain ⟨p,hn,hp,hv⟩:=hsim.virt nr fl (Y1 hc.1.2) (Y1 hc.2)
 have hlt:=(aD.1 ho).1
 refine ⟨M,_,.refl _ _,(Inj.le_put p hn).leB base,⟨?_,hv.slots,hv.nt,hv.df,fun k hk=>hv.new k (by simpa using hk),by simpa using hv.big⟩⟩
 show Rel P B W0 (dl++D0) M _ (sto (st.objs.set o _++[_])) W
 have hob:=hsim.lt ho
 have ho1:(st.objs++[AObj.row false false nr fl w []])[o]?=some (.row bx false nr0 fl0 w0 xs):=by rw [aW hlt]; exact ho
 have hos:=Qc8 hob ho1 rfl
 have e1:sto (st.objs.set o (.row bx false false false w0 (xs.set i x'))++[AObj.row false false nr fl w []])=Sto.put (sto (st.objs++[AObj.row false false nr fl w []])) o (.row bx false false false w0 (xs.set i x')):=by
  rw [<-Qcg ho1 rfl rfl hob,List.set_append_left _ _ hlt]
 rw [e1]
 have hrel:=hv.rel
 obtain ⟨q,hq,hrow⟩:=hrel.row o bx false nr0 fl0 w0 xs hos
 have hxm:=aF hx
 obtain ⟨g1,g2,g3⟩:=Qia hx' (hrow.shaped x hxm) ⟨.inr rfl,rfl,fun z hz=>by simp [AV.flat] at hz; subst hz; rfl⟩
 have hil:=(aD.1 hx).1
 have hcap:i*w0+w0<=q.cap*w0:=by
  have:(i+1)*w0<=q.cap*w0:=aS _ (by have:=hrow.len; omega)
  rwa [dS] at this
 have key:=hrel.write (bx':=bx) (nr':=false) (fl':=false) (xs':=xs.set i x') hos hq 0 [] (by simp) (by simpa using hrow.len)
  (fun z hz=>by
   rcases dN hz with hz | rfl
   ·exact hrow.shaped z hz
   exact g1) (by simp) (by simp)
  (fun k j z r hk hj hlo hhi=>by simp at hhi)
  (fun k j z r hk hj hout=>by
   by_cases e:k=i
   ·subst e
    rw [bY hil] at hk
    cases hk
    rcases g3 j r hj with ⟨b1,b2,b3⟩ | ⟨b1,b2⟩
    ·have hj0:j=c:=by simp [AV.flat] at b2; omega
     subst hj0
     simp [AV.flat] at b3
     subst b3
     obtain ⟨v,hv',hr⟩:=hrow.cells k j x y hx hy
     obtain ⟨ad,had⟩:=Qk9 hc.1.1 hr
     exact ⟨v,by rw [<-cH]; exact hv',by rw [had]; exact .ref0 _ _ _ (Inj.put_same _ _ _) hp⟩
    obtain ⟨v,hv',hr⟩:=hrow.cells k j x r hx b2
    exact ⟨v,by rw [<-cH]; exact hv',hr⟩
   rw [bZ (Ne.symm e)] at hk
   obtain ⟨v,hv',hr⟩:=hrow.cells k j z r hk hj
   exact ⟨v,by rw [<-cH]; exact hv',hr⟩)
 exact key
noncomputable def Qnt (t:Nat) (y:AV) (ids:List Nat) (st:St):Option St :=
 match frz st.sto ids with
 | some es=>match Z5 st.objs es with
  | some objs=>some ⟨setS st.slots t y,objs,st.nt⟩
  | none=>none
 | none=>none
theorem Q30 (t:Nat) {x y:AV} {ids:List Nat} (hx:lk st.slots t=some x) (hsn:Qt st.sto Qo x=some (y,ids)) (h:Qnt t y ids st=some st'):Wk P base st st':=by
 unfold Qnt at h
 split at h
 rotate_left
 ·cases h
 rename_i es hes
 split at h
 rotate_left
 ·cases h
 rename_i objs ha
 cases h
 intro B W0 D0 dl M ι a W hsim
 obtain ⟨p1,p2,p3⟩:=Vr _ _ _ ha
 have h':=Qai hsim.rel hes
 have hg:=hsim.rel.growC ids
 refine ⟨_,ι,hg,.refl _ _,⟨?_,fun k z hk=>?_,hsim.nt,hsim.df,fun k hk=>hsim.new k (fun c=>hk (c.mono p2)),p3 hsim.big⟩⟩
 ·show Rel P B W0 (dl++D0) _ ι (sto objs) W
  rw [p1]; exact h'
 have hk:lk (setS st.slots t y) k=some z:=hk
 rw [Qf5] at hk
 split at hk
 ·rename_i e; cases hk; subst e
  exact (Yv hsim.rel ids Qo x y ids _ hsn (fun k hk=>hk) (hsim.slots _ x hx)).mono (CM.le_refl _) (Inj.noInj_le _)
 exact (hsim.slots k z hk).mono hg.le (Inj.le_refl _)
noncomputable def Qi5 (o i:Nat) (y:AV) (ids:List Nat) (st:St):Option St :=
 match frz st.sto ids with
 | some es=>match Z5 st.objs es with
  | some objs=>match objs[o]? with
   | some (.row bx false nr fl w xs)=>some ⟨st.slots,objs.set o (.row bx false false false w (xs.set i y)),st.nt⟩
   | _=>none
  | none=>none
 | none=>none
theorem Qt5 (o i:Nat) {bx ro nr fl:Bool} {w:Nat} {xs:List AV} {x y:AV} {ids:List Nat} (ho:st.sto o=some (.row bx ro nr fl w xs)) (hx:xs[i]?=some x) (hno:Qb3 ids o=false) (hsn:Qt st.sto Qo x=some (y,ids)) (h:Qi5 o i y ids st=some st'):Wk P base st st':=by
 unfold Qi5 at h
 split at h
 rotate_left
 ·cases h
 rename_i es hes
 split at h
 rotate_left
 ·cases h
 rename_i objs ha
 split at h
 rotate_left
 ·cases h
 rename_i bx' nr' fl' w' xs' ho'
 cases h
 intro B W0 D0 dl M ι a W hsim
 obtain ⟨p1,p2,p3⟩:=Vr _ _ _ ha
 have h':=Qai hsim.rel hes
 have hg:=hsim.rel.growC ids
 have hos':=Qc8 (bM (aD.1 ho').1 (p3 hsim.big)) ho' rfl
 have hob:o < BIG:=bM (aD.1 ho').1 (p3 hsim.big)
 have hsame:sto objs o=sto st.objs o:=by
  have e1:sto objs o=Sto.puts st.sto es o:=congrFun p1 o
  rw [e1]
  exact Qak hes (Qep hno)
 have ho:sto st.objs o=some (.row bx ro nr fl w xs):=ho
 rw [hos',ho] at hsame
 cases hsame
 have hlt:=(aD.1 ho').1
 have h'':Rel P B W0 (dl++D0) (Zr M W (inC st.sto ι ids)) ι (sto objs) W:=by rw [p1]; exact h'
 obtain ⟨p,hp,hrow⟩:=h''.row o _ false nr fl w xs hos'
 have hxm:=aF hx
 have hil:=(aD.1 hx).1
 obtain ⟨q1,q2⟩:=Kj hsn (hrow.shaped x hxm)
 refine ⟨_,ι,hg,.refl _ _,⟨?_,hsim.slots.mono hg.le (Inj.le_refl _),hsim.nt,hsim.df,fun k hk=>hsim.new k (fun c=>hk ((c.mono p2).mono (by simp))),by simpa using p3 hsim.big⟩⟩
 show Rel P B W0 (dl++D0) _ ι (sto (objs.set o _)) W
 rw [Qcg ho' rfl rfl hob]
 refine h''.write (c0:=0) (vs:=[]) hos' hp (by simp) (by simpa using hrow.len) (fun z hz=>?_) (by simp) (by simp) (fun k j z r hk hj hlo hhi=>by simp at hhi) (fun k j z r hk hj hout=>?_)
 ·rcases dN hz with hz | rfl
  ·exact hrow.shaped z hz
  exact q1
 by_cases e:k=i
 ·subst e
  rw [bY hil] at hk
  cases hk
  obtain ⟨c,d',is,e1,e2,e3,e4⟩:=q2 j r hj
  obtain ⟨q,hq,hrow0⟩:=hsim.rel.row o bx false nr fl w xs ho
  rw [hp] at hq; cases hq
  obtain ⟨v,hv,hr⟩:=hrow0.cells k j x c hx e1
  exact ⟨v,by rw [<-cH]; exact hv,(Yv hsim.rel ids d' c r is v e3 e4 hr).mono (CM.le_refl _) (Inj.noInj_le _)⟩
 rw [bZ (Ne.symm e)] at hk
 obtain ⟨v,hv,hr⟩:=hrow.cells k j z r hk hj
 exact ⟨v,by rw [<-cH]; exact hv,hr⟩
end
end Go.Ab
namespace Go.Ab
open Go.RowKit
section
variable {P:Program} {rd:Option Nat} {base:Nat} {ops:Array Oper} {st st1 st' S:St} {o:Oper} {F:Foot} {out:AOut} {Φ Ψ:AOut->Prop} {d:Option (List Sk)} {i:Nat} {nf:Bool} {s:Slots} {σ:Sto} {c x y:Code}
theorem Xg {α:Type} {enc:α->AV} {l:List α} {ob w n:Nat} {bx ro fl:Bool} (hrow:σ ob=some (.row bx ro true fl w (l.map enc))):Qt σ (n+1) (.ref ob 0 l.length)=some (.lst fl (l.map enc),[ob]):=by
 have:(l.map enc).take l.length=l.map enc:=List.take_of_length_le (by simp)
 simp [Qt,hrow,this]
theorem V4 {f:AV->Option (AV × List Nat)}:Qx f []=some ([],[]):=rfl
theorem Q6 {f:AV->Option (AV × List Nat)} {x y:AV} {xs ys:List AV} {a b c:List Nat} (h1:f x=some (y,a)) (h2:Qx f xs=some (ys,b)) (hc:a++b=c:=by rfl):Qx f (x::xs)=some (y::ys,c):=by
 subst hc; simp [Qx,h1,h2]
theorem Qdt {n:Nat} {cs ys:List AV} {ids:List Nat} (h:Qx (Qt σ n) cs=some (ys,ids)):Qt σ (n+1) (.agg cs)=some (.agg ys,ids):=by simp [Qt,h]
theorem Quj {n:Nat} {cs ys:List AV} {ids:List Nat} (h:Qx (Qt σ n) cs=some (ys,ids)):Qt σ (n+1) (.tup cs)=some (.tup ys,ids):=by simp [Qt,h]
def Zk (ops:Array Oper) (i:Nat) (st:St):Option (FuncId × List AV) :=
 match Z0 ops i st with
 | some o=>match o.op with
  | .call { callee:=.value g,args,.. }=>match evo (lk st.slots) g,J3 (lk st.slots) args.toList with
   | some (.fn (.func f) first caps),some as=>some (f,first++as++caps)
   | _,_=>none
  | _=>none
 | none=>none
theorem Qbr {f:FuncId} {as0:List AV} (h:Zk ops i st=some (f,as0)):∃o g args ts first caps as,Z0 ops i st=some o/\o.op=.call { callee:=.value g,args,argTypes:=ts }/\evo (lk st.slots) g=some (.fn (.func f) first caps) /\
  J3 (lk st.slots) args.toList=some as/\as0=first++as++caps:=by
 unfold Zk at h
 split at h
 ·rename_i o ho
  split at h
  ·rename_i g args ts hop
   split at h
   ·rename_i f' first caps as hg has
    cases h
    exact ⟨o,g,args,ts,first,caps,as,ho,hop,hg,has,rfl⟩
   ·cases h
  ·cases h
 ·cases h
def Qhj (P:Program) (f:FuncId):Bool :=
 match P.funcs[f]? with
 | some fn=>fn.body.isSome && !(fn.name == "runtime.NumGoroutine")
 | none=>false
noncomputable def Qpy (st:St) (ids:List Nat) (r:AV) (objs:List AObj):Option (List (Nat × AObj)) :=
 if objs.all AObj.okRow then
  if ids.isEmpty || (r.cls && objs.all AObj.flat) then some (Vd st.objs.length st.objs.length objs)
  else match frz st.sto ids with
   | some es=>some (es++Vd st.objs.length st.objs.length objs)
   | none=>none
 else none
noncomputable def Qdj (ops:Array Oper) (i:Nat) (st:St) (ids:List Nat) (r:AV) (objs:List AObj):Option St :=
 match Qpy st ids r objs with
 | some eff=>match Zl ops i st (some (r.shift st.objs.length)) eff with
  | some S=>if Nat.beq S.objs.length (st.objs.length+objs.length) then some S else none
  | none=>none
 | none=>none
noncomputable def Qir (st:St) (ids:List Nat) (r:AV) (objs:List AObj):Sk:=(((Qpy st ids r objs).getD []).map (·.1),ids)
open Classical in
noncomputable def Qw3 (f:FuncId) (as:List AV) (co:Xk):FuncId->List AV->Option Xk:=fun g bs=>if g=f/\bs=as then some co else none
theorem Qw4 {f:FuncId} {as:List AV} {co:Xk} (h:Q3 P f as co) (hb:Qhj P f=true):Qj9 P (Qw3 f as co):=by
 intro g bs out he
 unfold Qw3 at he
 split at he
 ·rename_i hc
  obtain ⟨rfl,rfl⟩:=hc
  cases he
  refine ⟨h,?_⟩
  unfold Qhj at hb
  split at hb
  ·rename_i fn hf
   simp only [aE,bG] at hb
   exact ⟨fn,hf,hb.1,hb.2⟩
  cases hb
 cases he
theorem Qpx {f:FuncId} {as0 us:List AV} {ids:List Nat} {rv:AV} {ro:List AObj} (hi:Zk ops i st=some (f,as0)) (hb:Qhj P f=true) (hsn:Qx (Qt st.sto Qo) as0=some (us,ids)) (hc:Q3 P f us (.ret rv ro))
  (hS:Qdj ops i st ids rv ro=some S) (k:RW P rd base ops (Q1 d [Qir st ids rv ro]) (i+1) S Φ):RW P rd base ops d i st Φ:=by
 obtain ⟨o,g,args,ts,first,caps,as1,ho,hop,hg,has,rfl⟩:=Qbr hi
 unfold Qdj at hS
 unfold Qir at k
 split at hS
 ·rename_i eff heff
  rw [heff] at k
  split at hS
  ·rename_i S' hS'
   split at hS
   ·rename_i hl
    cases hS
    obtain ⟨h1,h2⟩:=Js ho
    unfold Zl at hS'
    rw [h1] at hS'
    simp only at hS'
    split at hS'
    ·rename_i objs slots ha hp
     cases hS'
     refine Qck (s:=(eff.map (·.1),ids)) ⟨o,⟨some (rv.shift st.objs.length),eff,st.objs.length,st.objs.length+ro.length,ids⟩,h1,?_,Qk2 _⟩ (by simpa using k)
     refine Qjm (nf:=false) (C:=Qw3 f us (.ret rv ro)) (Qw4 hc hb) (res:=⟨some (rv.shift st.objs.length),eff,st.objs.length+ro.length,ids⟩) h2 ?_ ha hp (aJ hl)
     unfold Ze
     rw [hop]
     simp only [Zq,eK]
     unfold evalOp
     rw [hop]
     simp only [hg,has,Qgh,hsn,Qw3,and_self,eK]
     unfold Qpy at heff
     split at heff
     ·rename_i hok
      rw [aH hok]
      split at heff
      ·rename_i hcl
       cases heff
       rw [aH hcl]
      ·rename_i hcl
       rw [aI hcl]
       split at heff
       ·rename_i es hes
        cases heff
        rw [hes]
       ·cases heff
     ·cases heff
    ·cases hS'
   ·cases hS
  ·cases hS
 ·cases hS
theorem Qw2 {α R:Type} {G:Option α} {K:α->Option R} {f:FuncId} {as0 us:List AV} {ids:List Nat} {rv:α->AV} {ro:α->List AObj} {S:α->St} {r:R} (hi:Zk ops i st=some (f,as0)) (hb:Qhj P f=true)
  (hsn:Qx (Qt st.sto Qo) as0=some (us,ids)) (hc:∀x,G=some x->Q3 P f us (.ret (rv x) (ro x))) (hS:∀x,Qdj ops i st ids (rv x) (ro x)=some (S x)) (h:G.bind K=some r)
  (k:∀x,G=some x->K x=some r->RW P rd base ops (Q1 d [Qir st ids (rv x) (ro x)]) (i+1) (S x) Φ):RW P rd base ops d i st Φ:=by
 cases hg:G with
 | none=>rw [hg] at h; cases h
 | some x=>rw [hg] at h; exact Qpx hi hb hsn (hc x hg) (hS x) (k x hg h)
theorem Q3.args {f:FuncId} {us:List AV} {co:Xk} (hss:List (List LK)) (h:Q3 P f (Qhy hss us) co):Q3 P f us co:=by
 intro W M vs h1 h2 h3
 refine h W M vs h1 (by rw [Qh6]; exact h2) (fun j v y hv hy=>?_)
 obtain ⟨hs,z,hz,rfl⟩:=Qqn hss us j y hy
 exact Qea hs (h3 j v z hv hz)
theorem Q3.res {f:FuncId} {us:List AV} {r:AV} {objs:List AObj} (hss:List (List LK)) (h:Q3 P f us (.ret r objs)):Q3 P f us (.ret (Qgc hss r) objs):=by
 intro W M vs h1 h2 h3
 refine (h W M vs h1 h2 h3).mono fun e w he=>?_
 obtain ⟨v,M',ι',g1,g2,g3,g4,g5⟩:=he
 exact ⟨v,M',ι',g1,g2,g3,g4,Qvc hss g5⟩
def Qtb (P:Program) (ops:Array Oper) (i:Nat) (st:St):Option (List (Nat × AV)) :=
 match Z0 ops i st with
 | some o=>match o.op with
  | .buildSlice _ _ ps=>K2 (lk st.slots) ps.toList
  | _=>none
 | none=>none
noncomputable def Q1k (P:Program) (ops:Array Oper) (i:Nat) (st:St) (he:List LK) (b:Bool) (parts:List (Nat × AV)) (ids:List Nat):Option (St × List (Nat × AObj)) :=
 match Z0 ops i st with
 | some o=>match o.op with
  | .buildSlice t n _=>match ti P t with
   | some T=>match T.kind with
    | .slice e=>match ti P e with
     | some E=>if n=0 then none else match E.zero with
      | some z=>if Nat.beq z.flat.length E.size && Nat.blt 0 E.size && Nat.ble (n*E.size) 16777216 then
        match Qcn E.size (List.replicate n z) parts,frz st.sto ids with
        | some xs,some es=>match Zl ops i st (some (.ref st.objs.length 0 n)) (es++[(st.objs.length,.row false false (AV.nrL xs) (b && xs.all AV.scs) E.size (xs.map (Qy he)))]) with
         | some S=>if Nat.beq S.objs.length (st.objs.length+1) then some (S,es++[(st.objs.length,.row false false (AV.nrL xs) (xs.all AV.scs) E.size xs)]) else none
         | none=>none
        | _,_=>none
       else none
      | none=>none
     | none=>none
    | _=>none
   | none=>none
  | _=>none
 | none=>none
theorem Qp7 (he:List LK) (b:Bool) (es:List (Nat × AObj)) (o:Nat) (bx ro nr fl:Bool) (w:Nat) (xs:List AV):X8 he b (es++[(o,.row bx ro nr fl w xs)])=es++[(o,.row bx ro nr (b && fl) w (xs.map (Qy he)))]:=by
 induction es with
 | nil=>rfl
 | cons e es ih =>
  obtain ⟨o',x⟩:=e
  cases es with
  | nil=>simp [X8]
  | cons e' es=>simp only [dJ,X8] at ih ⊢; rw [ih]
theorem bsR {parts0 parts:List (Nat × AV)} {ids:List Nat} {es:List (Nat × AObj)} (he:List LK) (b:Bool) (hi:Qtb P ops i st=some parts0) (hsn:Z3 st.sto parts0=some (parts,ids)) (hS:Q1k P ops i st he b parts ids=some (S,es))
  (k:RW P rd base ops (Q1 d [(es.map (·.1),ids)]) (i+1) S Φ):RW P rd base ops d i st Φ:=by
 unfold Qtb at hi
 unfold Q1k at hS
 split at hi
 ·rename_i o ho
  rw [ho] at hS
  simp only at hS
  split at hi
  ·rename_i t n ps hop
   rw [hop] at hS
   simp only at hS
   split at hS
   ·rename_i T hT
    split at hS
    ·rename_i e hk
     split at hS
     ·rename_i E hE
      split at hS
      ·cases hS
      ·rename_i hn
       split at hS
       ·rename_i z hz
        split at hS
        ·rename_i hc
         split at hS
         ·rename_i xs es' hxs hes
          split at hS
          ·rename_i S' hS'
           split at hS
           ·rename_i hl
            cases hS
            refine Qo9 (nf:=false) (v:=some (.ref st.objs.length 0 n)) (eff:=es'++[(st.objs.length,.row false false (AV.nrL xs) (xs.all AV.scs) E.size xs)]) (fr:=st.objs.length+1) (rds:=ids) [] he b noC_sound ho ?_
             (by rw [Qp7]; exact hS') (aJ hl) k
            unfold Ze
            rw [hop]
            simp only [Zq,aT,eJ]
            unfold evalOp
            rw [hop]
            simp only [hT,hk,hE,hi,hn,eJ,hz,hsn,aT,hc,eK,hxs,hes,Zi]
           ·cases hS
          ·cases hS
         ·cases hS
        ·cases hS
       ·cases hS
     ·cases hS
    ·cases hS
   ·cases hS
  ·cases hi
 ·cases hi
theorem Qvj {j:Nat} {x:AV} {r ys:List (Nat × AV)} {b:List Nat} (hx:x.nr=true) (h:Z3 σ r=some (ys,b)):Z3 σ ((j,x)::r)=some ((j,x)::ys,b):=by simp [Z3,hx,h]
theorem Qve {j:Nat} {x y:AV} {r ys:List (Nat × AV)} {a b c:List Nat} (hx:x.nr=false) (h1:Qt σ Qo x=some (y,a)) (h:Z3 σ r=some (ys,b)) (hc:a++b=c):Z3 σ ((j,x)::r)=some ((j,y)::ys,c):=by subst hc; simp [Z3,hx,h1,h]
theorem Q7x {R:Type} {b:Bool} {S:Bool->St} {A B:Option R} {r:R} (h:(if b=true then A else B)=some r) (h1:b=true->A=some r->RW P rd base ops d i (S true) Φ) (h2:b=false->B=some r->RW P rd base ops d i (S false) Φ):RW P rd base ops d i (S b) Φ:=by
 cases b
 ·exact h2 rfl (by simpa using h)
 exact h1 rfl (by simpa using h)
theorem Q6a {n m:Nat} {S:Nat -> St} (hb:n=m) (h:RW P rd base ops d i (S m) Φ):RW P rd base ops d i (S n) Φ:=by rw [hb]; exact h
theorem ne_eq {a b:Int} {c:Bool} (h:(a != b)=c):(a==b)=!c:=by rw [<-h]; simp [bne]
theorem Q28 {a b:Int} {c:Bool} (h:(a==b)=c):(a != b)=!c:=by rw [<-h]; rfl
theorem Q2f {op:Operand} (he:evo (lk st.slots) op=some (.bool true)) (h:WP P rd base x st Φ):WP P rd base (.cond op x y) st Φ:=Qwm he (fun _=>h) (fun e=>by cases e)
theorem Q1l {op:Operand} (he:evo (lk st.slots) op=some (.bool false)) (h:WP P rd base y st Φ):WP P rd base (.cond op x y) st Φ:=Qwm he (fun e=>by cases e) (fun _=>h)
def Qjx {σ ρ:Type} (P:Program) (base:Nat) (I:σ->St) (Ex:ρ->AOut->Prop) (o:Qh σ ρ) (out:AOut):Prop :=
 match o with
 | .next s=>∃st1,out=.go .normal st1/\Wk P base st1 (I s)
 | .done x=>Ex x out/\out.normal=false
theorem Qrb {σ ρ:Type} {body:σ->Option (Qh σ ρ)} {I:σ->St} {Ex:ρ->AOut->Prop} (round:∀s o,body s=some o->WP P rd base c (I s) (Qjx P base I Ex o)) :
  ∀(n:Nat) (s:σ) (x:ρ),Qc n body s=some x->LWP P rd base c (I s) (Ex x)
 | 0,s,x,h=>by cases h
 | n+1,s,x,h=>by
  simp only [Qc] at h
  split at h
  ·rename_i s' hb
   refine Qg2 ((round s _ hb).mono fun out ho=>?_)
   obtain ⟨st1,rfl,hw⟩:=ho
   exact Qly hw (Qrb round n s' x h)
  ·rename_i x' hb
   cases h
   refine Qg2 ((round s _ hb).mono fun out ho=>?_)
   obtain ⟨h1,h2⟩:=ho
   cases out with
   | pan v=>exact h1
   | go e st1=>cases e <;> first | exact h1 | simp [AOut.normal] at h2
  cases h
theorem Q1a {σ ρ R:Type} {n:Nat} {body:σ->Option (Qh σ ρ)} {I:σ->St} {Ex:ρ->AOut->Prop} {K:ρ->Option R} {r:R} (s0:σ) (hw:Wk P base st (I s0)) (h:(Qc n body s0).bind K=some r)
  (round:∀s o,body s=some o->WP P rd base c (I s) (Qjx P base I Ex o)) (k:∀x,K x=some r->∀out,Ex x out->Φ out):WP P rd base (.loop c) st Φ:=by
 cases hx:Qc n body s0 with
 | none=>rw [hx] at h; cases h
 | some x =>
  rw [hx] at h
  obtain ⟨out,h1,h2⟩:=Qly hw (Qrb round n s0 x hx)
  exact Qvt ⟨out,h1,k x h out h2⟩
noncomputable def Qfa (P:Program) (fn:Func) (hss:List (List LK)):AOut->Option (AV × List AObj)
 | .go e st'=>if e.ends then match resultA P fn st' with
   | some x=>match Qix st' x with
    | some (.ret r objs)=>some (Qgc hss r,objs)
    | _=>none
   | none=>none
  else none
 | .pan _=>none
theorem Q7s {f:FuncId} {fn:Func} {c:Code} {args:List AV} {rv:AV} {ro:List AObj} (hss:List (List LK)) (hf:P.funcs[f]?=some fn) (hb:fn.body=some c) (hn:(fn.name == "runtime.NumGoroutine")=false) (hle:Nat.ble args.length fn.ntmps=true)
  (h:WP P none 0 c (st0 fn.ntmps args) (fun out=>Qfa P fn hss out=some (rv,ro))):Q3 P f args (.ret rv ro):=by
 obtain ⟨co,h1,r',h2,h3⟩:=Q4g (R:=fun co=>∃r',co=.ret r' ro/\Qgc hss r'=rv) hf hb hn (bN hle) (h.mono fun out ho=>by
  cases out with
  | pan v=>cases ho
  | go e st' =>
   simp only [Qfa] at ho
   split at ho
   ·rename_i he
    split at ho
    ·rename_i x hx
     split at ho
     ·rename_i r objs hex
      simp only [aK,aV] at ho
      obtain ⟨h1,rfl⟩:=ho
      exact ⟨he,x,hx,_,hex,r,rfl,h1⟩
     cases ho
    cases ho
   cases ho)
 rw [<-h3]
 rw [h2] at h1
 exact h1.res hss
noncomputable def Qij (P:Program) (fn:Func) (ops:Array Oper) (i:Nat) (st:St):AOut->Option St
 | .go e st'=>if e.ends then match resultA P fn st',ops[i]? with
   | some x,some o=>match Vv st.slots st.nt o.dst (some x) with
    | some slots=>some ⟨slots,st'.objs,st.nt⟩
    | none=>none
   | _,_=>none
  else none
 | .pan _=>none
theorem Q7a {f:FuncId} {fn:Func} {c:Code} {as0:List AV} (hi:Zk ops i st=some (f,as0)) (hf:P.funcs[f]?=some fn) (hb:fn.body=some c) (hn:(fn.name == "runtime.NumGoroutine")=false) (hle:Nat.ble as0.length fn.ntmps=true)
  (h:WP P none st.objs.length c ⟨Vm 0 as0,st.objs,fn.ntmps⟩ (fun out=>∃S,Qij P fn ops i st out=some S/\RW P rd base ops none (i+1) S Φ)):RW P rd base ops none i st Φ:=by
 obtain ⟨o,g,args,ts,first,caps,as1,ho,hop,hg,has,rfl⟩:=Qbr hi
 obtain ⟨h1,h2⟩:=Js ho
 obtain ⟨out,hx,S,hS,k⟩:=h
 unfold Qij at hS
 split at hS
 ·rename_i e st'
  split at hS
  ·rename_i he
   split at hS
   ·rename_i x o' hr ho'
    rw [h1] at ho'; cases ho'
    split at hS
    ·rename_i slots hp
     cases hS
     obtain ⟨out2,k1,k2⟩:=k
     have hi':i < ops.size:=(aY.1 h1).1
     refine ⟨out2,?_,k2⟩
     rw [Qfu hi']
     exact Qhe h1 h2 (Qxp hop hg has hf hb hn (bN hle) hx he hr hp) k1
    ·cases hS
   ·cases hS
  ·cases hS
 ·cases hS
def Qk1 (ops:Array Oper) (i l:Nat) (st:St):AOut->Option St
 | .go e st'=>match st'.objs[l]?,ops[i]? with
  | some (.loop nt2 sl2 ps2 as2 bd2 .busy _),some o=>match Vv st.slots st.nt o.dst (some (.bool e.pend.isNone)) with
   | some slots=>some ⟨slots,st'.objs.set l (.loop nt2 sl2 ps2 as2 bd2 (if e.pend.isNone then .ready else .done) e.pend),st.nt⟩
   | none=>none
  | _,_=>none
 | .pan _=>none
def Qqq (ops:Array Oper) (i:Nat) (st:St):Option (Nat × List AV) :=
 match Z0 ops i st with
 | some o=>match o.op with
  | .call { callee:=.value g,args,.. }=>match evo (lk st.slots) g,J3 (lk st.slots) args.toList with
   | some (.yld l),some us=>some (l,us)
   | _,_=>none
  | _=>none
 | none=>none
def Qoc (l nt:Nat):AOut->Option St
 | .go .normal ⟨sl,objs,n⟩=>match objs[l]? with
  | some (.loop ntL slL psL asL bdL .ready peL)=>if Nat.beq n nt then some ⟨sl,objs.set l (.loop ntL slL psL asL bdL .busy peL),nt⟩ else none
  | _=>none
 | _=>none
theorem Q8q {l nt:Nat} {us:List AV} {sl:List (Nat × AV)} {ps:List Tmp} {assign body:Code} {pe:Option Code} (hi:Qqq ops i st=some (l,us)) (hl:st.objs[l]?=some (.loop nt sl ps assign body .ready pe))
  (hlen:(Nat.beq us.length ps.length && ps.all fun t=>Nat.blt t nt)=true)
  (h:WP P (some l) st.objs.length assign ⟨Qmx sl ps us,st.objs,nt⟩ (fun outA=>∃SA,Qoc l nt outA=some SA/\WP P (some l) st.objs.length body SA (fun outB=>∃S,Qk1 ops i l st outB=some S/\RW P rd base ops none (i+1) S Φ))) :
  RW P rd base ops none i st Φ:=by
 unfold Qqq at hi
 split at hi
 ·rename_i o ho
  split at hi
  ·rename_i g args ts hop
   split at hi
   ·rename_i l' us' hg has
    simp only [aK,aV] at hi
    obtain ⟨rfl,rfl⟩:=hi
    obtain ⟨h1,h2⟩:=Js ho
    simp only [aE,bO] at hlen
    obtain ⟨outA,hxA,SA,hSA,outB,hxB,S,hS,k⟩:=h
    unfold Qoc at hSA
    split at hSA
    ·rename_i slA objsA n
     split at hSA
     ·rename_i ntL slL psL asL bdL peL hlA
      split at hSA
      ·rename_i hn
       cases hSA
       have hn:=aJ hn
       subst hn
       unfold Qk1 at hS
       split at hS
       ·rename_i e st'
        split at hS
        ·rename_i nt2 sl2 ps2 as2 bd2 pe2 o' hlB ho'
         rw [h1] at ho'; cases ho'
         split at hS
         ·rename_i slots hp
          cases hS
          obtain ⟨out2,k1,k2⟩:=k
          have hi':i < ops.size:=(aY.1 h1).1
          refine ⟨out2,?_,k2⟩
          rw [Qfu hi']
          exact Qhe h1 h2 (Qys hop hg has hl (aJ hlen.1) (fun t ht=>Y1 (hlen.2 t ht)) hxA hlA hxB hlB hp) k1
         ·cases hS
        ·cases hS
       ·cases hS
      ·cases hSA
     ·cases hSA
    ·cases hSA
   ·cases hi
  ·cases hi
 ·cases hi
theorem Q08 {g:Operand} {ps:Array Tmp} {assign body:Code} {f:FuncId} {fn:Func} {c:Code} {first caps:List AV} (hg:evo (lk st.slots) g=some (.fn (.func f) first caps)) (hf:P.funcs[f]?=some fn) (hb:fn.body=some c) (hn:(fn.name == "runtime.NumGoroutine")=false)
  (hle:Nat.ble (first++[AV.yld st.objs.length]++caps).length fn.ntmps=true) (hrd:Q1e rd st.objs=true)
  (h:WP P none (st.objs.length+1) c (Qmh st ps.toList assign body first caps fn.ntmps) (fun out0=>∃out,J7 P fn st out0=some out/\Φ out)):WP P rd base (.rangeFunc g ps assign body) st Φ:=by
 obtain ⟨out0,h0,out,h1,h2⟩:=h
 refine ⟨out,Qqs hg hf hb hn (bN hle) (fun l hl=>?_) h0 h1,h2⟩
 subst hl
 simp only [Q1e] at hrd
 split at hrd
 ·rename_i s _ hob
  refine ⟨_,_,_,_,_,_,_,hob,fun e=>?_⟩
  subst e; cases hrd
 ·cases hrd
theorem Qzk {α R:Type} {G:Option α} {K:α->Option R} {r:R} {X:Prop} (h:G.bind K=some r) (k:∀a,G=some a->K a=some r->X):X:=by
 cases hg:G with
 | none=>rw [hg] at h; cases h
 | some a=>rw [hg] at h; exact k a hg h
theorem Qf7 {α:Type} {l:List α} {n:Int} {a:α} (b:α) (h:lkI l n=some a):lkI (l.set n.toNat b) n=some b:=by
 obtain ⟨h1,h2,h3⟩:=Xm h
 unfold lkI
 rw [aI (by omega),bY h2]
theorem Q8f {i:Nat} (hk:Wk P base st st') (h:RW P rd base ops none i st' Φ):RW P rd base ops none i st Φ:=by
 obtain ⟨out,h1,h2⟩:=h
 refine ⟨out,?_,h2⟩
 intro B W0 D0 dl M ι a W n Q r hs hr hp
 obtain ⟨M',ι',hM,hι,hs'⟩:=hk B W0 D0 dl M ι a W hs
 exact h1 B W0 D0 dl M' ι' a W n Q r hs' (hr.mono hι) (hp.step hM hι (List.suffix_refl _))
end
abbrev vI (n:Int):AV:=.int .i64 n
abbrev eI:Int->AV:=AV.int .i64
abbrev vB (b:Bool):AV:=.bool b
abbrev oR {α:Type} (fl:Bool) (w:Nat) (enc:α->AV) (l:List α):AObj:=.row false false true fl w (l.map enc)
abbrev oX (nr fl:Bool) (w:Nat) (x:AV):AObj:=.row true false nr fl w [x]
def Qg5:Code->List Bool->Code
 | .seq a b,false::r=>Qg5 a r
 | .seq a b,true::r=>Qg5 b r
 | .cond _ a b,false::r=>Qg5 a r
 | .cond _ a b,true::r=>Qg5 b r
 | .block _ b,_::r=>Qg5 b r
 | .loop b,_::r=>Qg5 b r
 | .scope b,_::r=>Qg5 b r
 | .rangeFunc _ _ a b,false::r=>Qg5 a r
 | .rangeFunc _ _ a b,true::r=>Qg5 b r
 | c,_=>c
def cA (fn:Func) (w:List Bool):Code:=Qg5 (fn.body.getD .skip) (w++[false])
def cB (fn:Func) (w:List Bool):Code:=Qg5 (fn.body.getD .skip) (w++[true])
end Go.Ab
namespace Go.Ab
open Go.RowKit
section
variable {P:Program} {B:Nat} {W0 W W1:World} {D:List Nat} {M M1:CM} {ι ι1:Inj} {σ σ' σ1:Sto}
end
section
variable {objs new:List AObj}
end
def Q1g (n m o:Nat):Bool:=Nat.ble n o && Nat.blt o m
def Q76 (n m:Nat):AObj->Bool
 | .row _ _ nr _ _ xs=>nr || xs.all fun x=>x.flat.all fun y=>y.ids.all (Q1g n m)
 | .refs j _=>Q1g n m j
 | .fam _ _ _=>true
 | .dead=>true
 | .loop ..=>false
def Q22:Nat -> List AObj->Bool
 | 0,_=>true
 | n+1,.dead::r=>Q22 n r
 | _,_=>false
section
variable {P:Program} {ops:Array Oper} {st st':St} {o:Oper} {rd:Option Nat} {base:Nat} {Φ:AOut->Prop} {d:Option (List Sk)} {i:Nat}
noncomputable def Qz7 (P:Program) (fn:Func) (ops:Array Oper) (i:Nat) (st:St):AOut->Option St
 | .go e st'=>if e.ends && Q22 st.objs.length st'.objs && Nat.ble st'.objs.length BIG && (st'.objs.drop st.objs.length).all (Q76 st.objs.length st'.objs.length) then match resultA P fn st',ops[i]? with
   | some x,some o=>match Vv st.slots st.nt o.dst (some x) with
    | some slots=>if x.ids.all (Q1g st.objs.length st'.objs.length) then some ⟨slots,st.objs++st'.objs.drop st.objs.length,st.nt⟩ else none
    | none=>none
   | _,_=>none
  else none
 | .pan _=>none
def Q20 (st S:St):List Sk:=[(List.range' st.objs.length (S.objs.length - st.objs.length),[])]
end
end Go.Ab
