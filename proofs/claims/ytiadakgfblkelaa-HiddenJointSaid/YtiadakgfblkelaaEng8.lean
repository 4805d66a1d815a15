/- Rules. No conditions. -/
import Derived.Test.YtiadakgfblkelaaEng7
import Derived.ChangeArms
import Derived.OpenShut
import Derived.WideKeyArgs
import Derived.Test.YtiadakgfblkelaaEng6
import Derived.KernelRfl
set_option linter.all false
namespace Go.Ab
open Go.RowKit
theorem Qwu {M:CM} {ι:Inj} {v:Value} {fl:Bool} (h:Qa M ι v (.lst fl [])):Qa M ι v .nils∨Qa M ι v .emn:=by
 cases h with
 | lst0 a =>
  cases a with
  | none=>exact .inl .nils
  | some a=>exact .inr (.emn a 0)
 | lst b off cap=>exact .inr (.emn _ cap)
theorem Zd.nil {P:Program} {f:FuncId} {l1 l2:List AV} {fl:Bool} {out:Xp} (h1:Zd P f (l1++.nils::l2) out) (h2:Zd P f (l1++.emn::l2) out):Zd P f (l1++.lst fl []::l2) out:=by
 intro W M vs hM hsz hr
 have hlt:l1.length < vs.size:=by simp at hsz; omega
 have h0:=hr l1.length vs[l1.length] (.lst fl []) (by simp [hlt]) (by simp)
 have other:∀y,Qa M noInj vs[l1.length] y→∀(j:Nat) (v:Value) (a:AV),vs[j]?=some v→(l1++y::l2)[j]?=some a→Qa M noInj v a:=by
  intro y hy j v a hv ha
  rcases Nat.lt_trichotomy j l1.length with c | c | c
  ·refine hr j v a hv ?_
   rw [List.getElem?_append_left c] at ha ⊢; exact ha
  ·subst c
   rw [List.getElem?_append_right (Nat.le_refl _)] at ha
   simp at ha; subst ha
   rw [Array.getElem?_eq_getElem hlt] at hv; cases hv; exact hy
  ·refine hr j v a hv ?_
   rw [List.getElem?_append_right (by omega)] at ha ⊢
   rw [show j - l1.length=(j - l1.length - 1)+1 by omega] at ha ⊢
   simpa using ha
 rcases Qwu h0 with e | e
 ·exact h1 W M vs hM (by simpa using hsz) (other _ e)
 ·exact h2 W M vs hM (by simpa using hsz) (other _ e)
theorem Qa.lin_inv {M:CM} {ι:Inj} {v:Value} {o i n:Nat} (h:Qa M ι v (.lin o i n)):Qa M ι v (.ref (fid o i) 0 n):=by cases h; assumption
section
variable {P:Program} {base:Nat} {st st':St}
theorem Qcm (t:Nat) {o i n:Nat} (h:lk st.slots t=some (.ref (fid o i) 0 n)) (hS:(⟨setS st.slots t (.lin o i n),st.objs,st.nt⟩:St)=st'):Wk P base st st':=by
 subst hS
 intro B W0 D0 dl M ι a W hs
 refine ⟨M,ι,.refl _ _,.refl _ _,⟨hs.rel,fun k y hk=>?_,hs.nt,hs.df,hs.new,hs.big⟩⟩
 have hk:lk (setS st.slots t (.lin o i n)) k=some y:=hk
 rw [Qca] at hk
 split at hk
 ·rename_i e; cases hk; subst e; exact .lin _ _ _ (hs.slots _ _ h)
 ·exact hs.slots k y hk
theorem Qdv (t:Nat) {o i n:Nat} (h:lk st.slots t=some (.lin o i n)) (hS:(⟨setS st.slots t (.ref (fid o i) 0 n),st.objs,st.nt⟩:St)=st'):Wk P base st st':=by
 subst hS
 intro B W0 D0 dl M ι a W hs
 refine ⟨M,ι,.refl _ _,.refl _ _,⟨hs.rel,fun k y hk=>?_,hs.nt,hs.df,hs.new,hs.big⟩⟩
 have hk:lk (setS st.slots t (.ref (fid o i) 0 n)) k=some y:=hk
 rw [Qca] at hk
 split at hk
 ·rename_i e; cases hk; subst e
  exact (hs.slots _ _ h).lin_inv
 ·exact hs.slots k y hk
end
theorem Zd.froz {P:Program} {f:FuncId} {args:List AV} {v y:AV} {objs:List AObj} {ids:List Nat} (h:Zd P f args (.ret v objs)) (hs:Qu (fun k=>objs[k]?) Qs v=some (y,ids)):Zd P f args (.ret y []):=by
 intro W M vs hM hsz hr
 refine (h W M vs hM hsz hr).mono fun e W' he=>?_
 obtain ⟨u,M',ι',rfl,hg,hrel,hout,hv⟩:=he
 refine ⟨u,_,noInj,rfl,hg.trans (hrel.growC ids),⟨hrel.size,hrel.below,hrel.defs,Qde hrel.agree,fun o bx nr fl w xs p k ho=>(by simp at ho),fun o bx ro nr fl w xs ho=>(by simp at ho),fun o fn sl ps as bd st pe ho=>(by simp at ho),fun o o' bx nr fl w xs bx' nr' fl' w' xs' p p' _ ho=>(by simp at ho),fun o o' fn sl ps as bd st pe fn' sl' ps' as' bd' st' pe' p p' _ ho=>(by simp at ho),fun o _=>.inl (by simp)⟩,fun _ _=>rfl,Ys hrel ids Qs v y ids u hs (fun k hk=>hk) hv⟩
def ovr {α:Type} (l:List α) (i:Nat):List α→List α
 | []=>l
 | y::ys=>ovr (l.set i y) (i+1) ys
theorem Qqa {α:Type}:∀(m l:List α) (i:Nat),l.length=(ovr l i m).length
 | [],l,i=>rfl
 | y::ys,l,i=>by simp only [ovr]; rw [←Qqa ys (l.set i y) (i+1),List.length_set]
theorem Qvr {α:Type} (enc:α→AV):∀(m l:List α) (i:Nat),Vv (l.map enc) i (m.map enc)=(ovr l i m).map enc
 | [],l,i=>rfl
 | y::ys,l,i=>by
  simp only [List.map_cons,Vv,ovr]
  rw [←Qvr enc ys (l.set i y) (i+1),List.map_set]
section
variable {P:Program} {rd:Option Nat} {base:Nat} {ops:Array Oper} {st S:St} {Φ:AOut→Prop} {d:Option (List Sk)} {i:Nat}
def Qsj (P:Program) (ops:Array Oper) (i:Nat) (st:St):Option (AV × AV × Nat) :=
 match X2 ops i st with
 | some o=>match o.op with
  | .call { callee:=.builtin .copy,args,argTypes }=>match args.toList,argTypes.toList with
   | [x,y],t::_=>match ti P t,evo (lk st.slots) x,evo (lk st.slots) y with
    | some T,some a,some b=>match T.kind with
     | .slice e=>match ti P e with
      | some E=>some (a,b,E.size)
      | none=>none
     | _=>none
    | _,_,_=>none
   | _,_=>none
  | _=>none
 | none=>none
theorem Qu8 {b:AV} {w ob i0 n0:Nat} (hi:Qsj P ops i st=some (.ref ob i0 n0,b,w)):∃o,X2 ops i st=some o ∧
  ∀ys fl rds nr' fl' xs,Yh st.sto w b=some (ys,true,fl,rds)→st.sto ob=some (.row false false nr' fl' w xs)→i0+n0≤xs.length →
   Z0 P false noC st.sto st.objs.length (lk st.slots) o=some (.val ⟨some (.int .i64 (min ys.length n0:Nat)),[(ob,.row false false (nr' && true) (fl' && fl) w (Vv xs i0 (ys.take n0)))],st.objs.length,ob::rds⟩):=by
 unfold Qsj at hi
 split at hi
 ·rename_i o ho
  split at hi
  ·rename_i args ts hop
   split at hi
   ·rename_i x y t tr ha ht
    split at hi
    ·rename_i T a' b' hT hx hy
     split at hi
     ·rename_i e hk
      split at hi
      ·rename_i E hE
       cases hi
       refine ⟨o,ho,?_⟩
       intro ys fl rds nr' fl' xs hel hrow hc
       unfold Z0
       rw [hop]
       simp only [Xd,Bool.false_eq_true,if_false]
       unfold evalOp
       rw [hop]
       have h2:Nat.ble (i0+n0) xs.length=true:=Nat.ble_eq_true_of_le hc
       simp only [Qf0,ha,ht,hT,hx,hy,hk,hE,hel,hrow,Nat.beq_refl,h2,Bool.and_self,Bool.true_or,if_true,Z7]
      ·cases hi
     ·cases hi
    ·cases hi
   ·cases hi
  ·cases hi
 ·cases hi
theorem cpR {α:Type} {enc:α→AV} {l m:List α} {w ob i0 n0:Nat} {nr fl fl':Bool} {b:AV} {rds:List Nat} (hi:Qsj P ops i st=some (.ref ob i0 n0,b,w)) (hrow:st.sto ob=some (.row false false nr fl w (l.map enc)))
  (hel:Yh st.sto w b=some (m.map enc,true,fl',rds)) (hc:i0+n0≤l.length)
  (hS:Z5 ops i st (some (.int .i64 (min m.length n0:Nat))) [(ob,.row false false (nr && true) (fl && fl') w ((ovr l i0 (m.take n0)).map enc))]=some S) (hl:Nat.beq S.objs.length st.objs.length=true)
  (k:RW P rd base ops (Zf d [([ob],ob::rds)]) (i+1) S Φ):RW P rd base ops d i st Φ:=by
 obtain ⟨o,ho,hev⟩:=Qu8 hi
 have:=hev (m.map enc) fl' rds nr fl (l.map enc) hel hrow (by simpa using hc)
 rw [List.length_map,←List.map_take,Qvr] at this
 exact Vq ho this hS (Nat.eq_of_beq_eq_true hl) k
theorem Qwd {σ:Sto} {α:Type} {enc:α→AV} {l:List α} {w ob:Nat} {a b:Int} {ro nr fl:Bool} (hrow:σ ob=some (.row false ro nr fl w (l.map enc))) (hc:0≤a∧a≤b∧b≤(l.length:Int)) :
  Yh σ w (.ref ob a.toNat (b.toNat - a.toNat))=some ((sub l a b).map enc,nr,fl,[ob]):=by
 have h1:Nat.ble (a.toNat + (b.toNat - a.toNat)) (l.map enc).length=true:=Nat.ble_eq_true_of_le (by simp; omega)
 simp [Yh,hrow,sub]
 omega
theorem Q3h {α:Type} {l:List α} {a b:Int} (hc:0≤a∧a≤b∧b≤(l.length:Int)):a.toNat + (b.toNat - a.toNat)≤l.length:=by omega
theorem Q3j {α:Type} {l:List α}:0+l.length≤l.length:=by omega
theorem Qrr {γ R:Type} {enc:γ→AV} {ls:List (List γ)} {x:List γ} {y:γ} {n c:Int} {w j m:Nat} {fl:Bool} {A:Option R} {r:R} (hi:Qck P ops i st=some (.ref (fid j n.toNat) 0 m,c,w)) (hj:st.objs[j]?=some (.fam w fl (eF enc ls)))
  (ha:lkI ls n=some x) (hy:lkI x c=some y) (hb:Nat.blt j BIG=true) (hS:Z5 ops i st (some (.ptr (fid j n.toNat) c.toNat 0)) []=some S) (h:(if c < (m:Int) then A else none)=some r)
  (k:A=some r→RW P rd base ops (Zf d [([],[j])]) (i+1) S Φ):RW P rd base ops d i st Φ:=by
 split at h
 ·rename_i hc
  obtain ⟨h1,h2,_⟩:=V6 hy
  exact Qz6 hi (Qht hj ha) h1 (by omega) (.inr ⟨Yc hb,_,rfl⟩) hS (k h)
 ·cases h
theorem Q3c {R:Type} {n m:Nat} {S:Nat → St} {A:Option R} {r:R} (h:(if n=m then A else none)=some r) (k:A=some r→RW P rd base ops d i (S m) Φ):RW P rd base ops d i (S n) Φ:=by
 split at h
 ·rename_i e; rw [e]; exact k h
 ·cases h
end
end Go.Ab
namespace Go.Ab
open Go.RowKit
theorem Qng {P:Program} {t u ty e:TypeId} {ts:Array TypeId} {i:TypeInfo} {z:Value} {k ku:IntKind} (h0:ts[0]?=some t) (h1:ts[1]?=some u) (ht:P.underlying t=some (.slice e)) (hu:P.underlying u=some (.int ku)) (hi:P.info? e=some i) (hz:i.zero=some z)
  (n:Nat) (hn:0 < n) (hs:0 < i.size) (h63:(n:Int)≤140737488355328) (hb:n*i.bytes≤140737488355328) (W:World) :
  (Builtin.append_ ts ty #[.slice none 0 0,.int k n]).run P W=.ok (.slice (some ⟨W.heap.size,0,none⟩) n (grownCap W n 0 e)) (W.drew.alloc (.cells (Builtin.zeroCells z.cells n++Builtin.zeroCells z.cells (grownCap W n 0 e - n)) e)):=by
 have hn0:n≠0:=by omega
 have hs0:i.size≠0:=by omega
 have hw:IntKind.i64.wrap (n:Int)=n:=by
  simp only [IntKind.wrap,IntKind.signed,IntKind.bits]
  simp; omega
 have h63':¬ (9223372036854775807 < (n:Int)):=by omega
 have hneg:¬ ((n:Int) < 0):=by omega
 have hb2:¬ (281474976710656 < (n:Int)*(i.bytes:Int)):=by
  have:((n*i.bytes:Nat):Int)≤140737488355328:=by omega
  rw [Int.natCast_mul] at this; omega
 have h48':¬ (281474976710656 < Builtin.nextslicecap n 0*i.bytes):=by rw [nextslicecap_zero hn]; omega
 simp [Builtin.append_,h0,h1,run_underlying ht,run_underlying hu,sizeOf,typeInfo,zeroValue,hi,hz,asInt,asIntOf,hw,hneg,hb2,hn0,hs0,h63',h48',Question.forced,run_firstCells_none,newRow,grownCap]
 intro he
 exact absurd he (Nat.mul_ne_zero hn0 hs0)
theorem Qnl {P:Program} {t u ty e:TypeId} {ts:Array TypeId} {i:TypeInfo} {k ku:IntKind} (h0:ts[0]?=some t) (h1:ts[1]?=some u) (ht:P.underlying t=some (.slice e)) (hu:P.underlying u=some (.int ku)) (hi:P.info? e=some i) (W:World) :
  (Builtin.append_ ts ty #[.slice none 0 0,.int k 0]).run P W=.ok (.slice none 0 0) W:=by
 have hw:IntKind.i64.wrap (0:Int)=0:=by decide
 simp [Builtin.append_,h0,h1,run_underlying ht,run_underlying hu,sizeOf,typeInfo,hi,asInt,asIntOf,hw]
section
variable {P:Program} {rd:Option Nat} {base:Nat} {ops:Array Oper} {st S:St} {Φ:AOut→Prop} {d:Option (List Sk)} {i:Nat}
theorem Qw9 {B:Nat} {W0 W:World} {D:List Nat} {M:CM} {ι:Inj} {σ:Sto} {a:Act} {fr:Nat} {o:Oper} {x y:Operand} {ts:Array TypeId} {t u e:TypeId} {E:TI} {z:AV} {k ku:IntKind} {n:Nat} (h:Rel P B W0 D M ι σ W)
  (ho:o.op=.call { callee:=.builtin .append,args:=#[x,y],argTypes:=ts }) (h0:ts[0]?=some t) (h1:ts[1]?=some u) (ht:P.underlying t=some (.slice e)) (hu:P.underlying u=some (.int ku)) (hE:ti P e=some E) (hz:E.zero=some z)
  (hzok:E.zok=true) (hx:a.eval x=.slice none 0 0) (hy:a.eval y=.int k n) (hroom:Yu E.bytes n=true) (hpos:0 < E.size) (hfr:ι fr=none) :
  Zc P B W0 D M ι σ fr a o W ⟨some (.ref fr 0 n),[(fr,.row false false z.nr z.scs E.size (List.replicate n z))],fr+1,[]⟩:=by
 obtain ⟨cs,hrun⟩:=Y6 (P:=P) (W:=W) (a:=a) ho
 obtain ⟨i,zv,hi,hzv,h4,hrep,hsh⟩:=Qa1 hE hz
 obtain ⟨i',zv',hi',hzv',hsz,hby,hzs⟩:=Qy0 hE hzok
 rw [hi] at hi'; cases hi'
 rw [hzv] at hzv'; cases hzv'
 obtain ⟨r1,r2⟩:=Qv4 hroom
 rcases Nat.eq_zero_or_pos n with hn | hn
 ·subst hn
  refine ⟨.slice none 0 0,W,M,ι.put fr ⟨B,0,E.size,0⟩,.inl ?_,.refl _ _,Inj.le_put _ hfr,fun k hk=>Inj.put_ne _ _ (by simp at hk; omega),h.virt hfr hpos,fun y hy=>by cases hy; exact .ref0 _ _ _ (Inj.put_same _ _ _) rfl⟩
  rw [hrun]
  simp only [builtin,List.map_toArray,List.map_cons,List.map_nil,Sem.run_bind,hx,hy]
  have:=Qnl (P:=P) (ty:=o.type) (k:=k) h0 h1 ht hu hi W
  simp only [Int.natCast_zero] at *
  simp only [this,Result.andThen_ok,Sem.run_pure]
 ·have hap:=Qng (P:=P) (ty:=o.type) (k:=k) h0 h1 ht hu hi hzv n hn (by rw [←h4]; exact hpos) (by omega) (by rw [←hby]; exact r1) W
  have hge:=grownCap_ge W n 0 e
  have key:=h.drew.allocRow (o:=fr) (bx:=false) (nr:=z.nr) (fl:=z.scs) hfr (Builtin.zeroCells zv.cells n++Builtin.zeroCells zv.cells (grownCap W n 0 e - n)) e (w:=E.size) (cap:=grownCap W n 0 e) (xs:=List.replicate n z) hpos (by omega)
   (by simp only [Array.size_append,size_zeroCells,hzs]; rw [←Nat.add_mul]; congr 1; omega) (by simpa using hge)
   (fun x hx=>by have:=List.eq_of_mem_replicate hx; subst this; rw [←hzs]; exact hsh)
   (fun hnr=>by rw [Qx]; intro x hx; have:=List.eq_of_mem_replicate hx; subst this; exact hnr)
   (fun hf x hx=>by have:=List.eq_of_mem_replicate hx; subst this; exact hf)
   (fun a' j y q hi' hj=>by
    obtain ⟨w,hw,hr⟩:=Qir (hrep M ι) hsh (Nat.le_refl n) a' j y q hi' hj
    rw [hzs] at hw
    have hlt:=(Array.getElem?_eq_some_iff.1 hw).1
    refine ⟨w,?_,hr⟩
    rw [Array.getElem?_append_left (by simp only [size_zeroCells,hzs]; simpa [hzs] using hlt)]
    simp only [Builtin.zeroCells,hzs]
    exact hw)
  refine ⟨.slice (some ⟨W.heap.size,0,none⟩) n (grownCap W n 0 e),_,M,_,.inl ?_,.refl _ _,Inj.le_put _ hfr,fun k hk=>Inj.put_ne _ _ (by simp at hk; omega),key,fun y hy=>?_⟩
  ·rw [hrun]
   simp only [builtin,List.map_toArray,List.map_cons,List.map_nil,Sem.run_bind,hx,hy,hap,Result.andThen_ok,Sem.run_pure]
  ·cases hy
   exact .ref fr 0 _ ⟨W.drew.heap.size,0,E.size,grownCap W n 0 e⟩ 0 _ (Inj.put_same _ _ _) (by simpa using hge) (by simp) (.inl (by simp))
def Qvy (P:Program) (ops:Array Oper) (i:Nat) (st:St):Option (AV × Int × AV × Nat × Nat) :=
 match X2 ops i st with
 | some o=>match o.op with
  | .call { callee:=.builtin .append,args,argTypes }=>match args.toList,argTypes.toList with
   | [x,y],t::u::_=>match ti P t,ti P u,evo (lk st.slots) x,evo (lk st.slots) y with
    | some T,some U,some a,some (.int _ n)=>match T.kind,U.kind with
     | .slice e,.int _=>match ti P e with
      | some E=>match E.zero with
       | some z=>if E.zok && Nat.blt 0 E.bytes && Nat.blt 0 E.size then some (a,n,z,E.size,E.bytes) else none
       | none=>none
      | none=>none
     | _,_=>none
    | _,_,_,_=>none
   | _,_=>none
  | _=>none
 | none=>none
theorem Q5c {α R:Type} {enc:α→AV} {z:α} {z0:AV} {n:Int} {w bytes:Nat} {A:Option R} {r:R} (he:List LK) (b:Bool) (hi:Qvy P ops i st=some (.nils,n,z0,w,bytes)) (hz0:Q2 he z0=enc z)
  (hS:Z5 ops i st (some (.ref st.objs.length 0 (List.replicate n.toNat z).length)) [(st.objs.length,.row false false z0.nr (b && z0.scs) w ((List.replicate n.toNat z).map enc))]=some S) (hl:Nat.beq S.objs.length (st.objs.length+1)=true)
  (h:(if 0≤n∧n*bytes≤140737488355328 then A else none)=some r) (k:A=some r→RW P rd base ops (Zf d [([st.objs.length],[])]) (i+1) S Φ):RW P rd base ops d i st Φ:=by
 split at h
 ·rename_i hc
  obtain ⟨c1,c2⟩:=hc
  have k:=k h
  unfold Qvy at hi
  split at hi
  ·rename_i o ho
   split at hi
   ·rename_i args ts hop
    split at hi
    ·rename_i x y t u tr ha hts
     split at hi
     ·rename_i T U a' kk n' hT hU hx hy
      split at hi
      ·rename_i e ku hk hku
       split at hi
       ·rename_i E hE
        split at hi
        ·rename_i zz hz
         split at hi
         ·rename_i hcc
          simp only [Bool.and_eq_true] at hcc
          obtain ⟨⟨q1,q2⟩,q3⟩:=hcc
          cases hi
          obtain ⟨d1,i1,g1,g2,g3,_⟩:=Zy hT
          obtain ⟨d2,i2,g1',g2',g3',_⟩:=Zy hU
          rw [g3] at hk; rw [Zt hk] at g1
          have hku':P.underlying u=some (.int ku):=by
           rw [g3'] at hku
           cases d2 <;> simp [Yz] at hku
           rw [g1',hku]
          have hargs:=Q02 ha
          subst hargs
          obtain ⟨o1,o2⟩:=Vt ho
          have hroom:Yu E.bytes n.toNat = true:=by
           refine Qfj (Yd q2) ?_
           have:((n.toNat * E.bytes:Nat):Int)≤140737488355328:=by rw [Int.natCast_mul,Int.toNat_of_nonneg c1]; exact c2
           omega
          unfold Z5 at hS
          rw [o1] at hS
          simp only at hS
          split at hS
          ·rename_i objs slots hap hp
           cases hS
           have hlen:=Nat.eq_of_beq_eq_true hl
           simp only at hlen
           refine Qat (st1:=⟨slots,objs,st.nt⟩) (s:=([st.objs.length],[])) ⟨o,⟨some (.ref st.objs.length 0 (List.replicate n.toNat z).length),[(st.objs.length,.row false false z0.nr (b && z0.scs) E.size ((List.replicate n.toNat z).map enc))],st.objs.length,st.objs.length+1,[]⟩,o1,Qtw ?_ rfl hlen.symm hap hp rfl,Qhw _⟩ k
           have hy0:YlL P ops o ⟨some (.ref st.objs.length 0 n.toNat),[(st.objs.length,.row false false z0.nr z0.scs E.size (List.replicate n.toNat z0))],st.objs.length,st.objs.length+1,[]⟩ (lk st.slots) (sto st.objs):=?_
           ·have e1:(List.replicate n.toNat z0).map (Q2 he)=(List.replicate n.toNat z).map enc:=by simp [List.map_replicate,hz0]
            have hy1:=Qqk [] he b hy0
            simp only [X6,e1,Option.map_some,Q2,List.length_replicate] at hy1
            rw [List.length_replicate]
            exact hy1
           intro s' σ' hs' hσ'
           have hloc:=Qlm (ops:=ops) hs'
           rw [hop] at hloc
           refine .inl ⟨by rw [Qbk hs']; exact o2,?_⟩
           intro B W0 D M ι a W nn Q r' next hrel hsl hfree hpost
           have hx':=Qg hsl (show evo s' x=some AV.nils by rw [hloc x (by simp [Op.operands,Call.operands])]; exact hx)
           have hy':=Qg hsl (show evo s' y=some (AV.int kk n) by rw [hloc y (by simp [Op.operands,Call.operands])]; exact hy)
           have hn:a.eval y=.int kk (n.toNat : Int):=by rw [hy'.int_inv,Int.toNat_of_nonneg c1]
           have hdone:=Qw9 (fr:=st.objs.length) hrel hop (by have:=congrArg (fun l=>l[0]?) hts; simpa using this) (by have:=congrArg (fun l=>l[1]?) hts; simpa using this) g1 hku' hE hz q1 hx'.nils_inv hn hroom (Yd q3) (hfree _ (.inl ⟨Nat.le_refl _,Nat.lt_succ_self _⟩))
           refine Qnz hdone (by rw [hop]; simp) ⟨fun res hr v W' M' ι' g1 g2 g3 g4 g5=>?_,fun pv hpv=>by cases hpv⟩
           cases hr
           exact hpost v W' M' ι' g1 g2 (fun k hk=>g3 k (Nat.lt_or_ge k st.objs.length |>.imp_right fun h1=>Nat.le_of_not_lt fun h2=>hk (.inl ⟨h1,h2⟩))) g4 g5
          ·cases hS
         ·cases hi
        ·cases hi
       ·cases hi
      ·cases hi
     ·cases hi
    ·cases hi
   ·cases hi
  ·cases hi
 ·cases h
end
end Go.Ab
namespace Go.Ab
open Go.RowKit
inductive Sh where
 | int (k:IntKind)
 | bool
 | str
 | slice (fl ag:Bool) (w:Nat) (e:Sh)
 | cat (a b:Sh)
 | unit
def Sh.scal:Sh→Bool
 | .slice ..=>false
 | .cat a b=>a.scal && b.scal
 | _=>true
def Sh.width:Sh→Nat
 | .cat a b=>a.width+b.width
 | .unit=>0
 | _=>1
def WT:Sh→List AV→Prop
 | .int k,cs=>∃n,cs=[.int k n]∧(Lit.int k n).wf=true
 | .bool,cs=>∃b,cs=[.bool b]
 | .str,cs=>∃s,cs=[.str s]∧s.size≤maxLen
 | .slice fl ag w e,cs=>∃xs,cs=[.lst fl xs]∧xs.length≤maxLen∧∀x∈xs,WT e x.flat ∧ (if ag then x=.agg x.flat else x.cell=true)
 | .cat a b,cs=>∃x y,cs=x++y∧WT a x∧WT b y
 | .unit,cs=>cs=[]
def Qho (P:Program) (t:TypeId):Bool:=match P.underlying t with | some (.struct _)=>true | some (.array _ _)=>true | _=>false
def Qxq (s:Sh):Nat → Sh
 | 0=>.unit
 | n+1=>.cat s (Qxq s n)
def Qih (P:Program) (rec:TypeId→Option Sh):List Field→Nat → Option Sh
 | [],_=>some .unit
 | f::r,o=>match rec f.type with
  | some s=>if Nat.beq f.offset o && Nat.beq s.width (P.cellsOf f.type) then (match Qih P rec r (o+s.width) with | some q=>some (.cat s q) | none=>none) else none
  | none=>none
def Qjh (P:Program):Nat → TypeId→Option Sh
 | 0,_=>none
 | n+1,t=>match P.underlying t with
  | some .bool=>some .bool
  | some (.int k)=>some (.int k)
  | some .string=>some .str
  | some (.slice e)=>match Qjh P n e with
   | some s=>if Nat.beq s.width (P.cellsOf e) && Nat.blt 0 (P.cellsOf e) && (Qho P e || Nat.beq s.width 1) then some (.slice s.scal (Qho P e) (P.cellsOf e) s) else none
   | none=>none
  | some (.struct fs)=>match Qih P (Qjh P n) fs.toList 0 with
   | some s=>if Nat.beq s.width (P.cellsOf t) then some s else none
   | none=>none
  | some (.array m e)=>match Qjh P n e with
   | some s=>if Nat.beq s.width (P.cellsOf e) && Nat.beq (m*s.width) (P.cellsOf t) then some (Qxq s m) else none
   | none=>none
  | _=>none
theorem Qtk:∀{s:Sh} {cs:List AV},WT s cs→cs.length=s.width
 | .int k,cs,h=>by obtain ⟨n,rfl,_⟩:=h; rfl
 | .bool,cs,h=>by obtain ⟨n,rfl⟩:=h; rfl
 | .str,cs,h=>by obtain ⟨n,rfl,_⟩:=h; rfl
 | .slice _ _ _ _,cs,h=>by obtain ⟨n,rfl,_⟩:=h; rfl
 | .cat a b,cs,h=>by obtain ⟨x,y,rfl,h1,h2⟩:=h; simp [Sh.width,Qtk h1,Qtk h2]
 | .unit,cs,h=>by cases h; rfl
theorem Qpz:∀{s:Sh} {cs:List AV},WT s cs→s.scal=true→cs.all AV.sc=true
 | .int k,cs,h,_=>by obtain ⟨n,rfl,_⟩:=h; rfl
 | .bool,cs,h,_=>by obtain ⟨n,rfl⟩:=h; rfl
 | .str,cs,h,_=>by obtain ⟨n,rfl,_⟩:=h; rfl
 | .slice _ _ _ _,cs,h,hs=>by cases hs
 | .cat a b,cs,h,hs=>by
  obtain ⟨x,y,rfl,h1,h2⟩:=h
  simp only [Sh.scal,Bool.and_eq_true] at hs
  rw [List.all_append,Qpz h1 hs.1,Qpz h2 hs.2]; rfl
 | .unit,cs,h,_=>by cases h; rfl
def Qay (M:CM) (cs:List Value) (avs:List AV):Prop:=avs.length=cs.length∧∀(j:Nat) (v:Value) (y:AV),cs[j]?=some v→avs[j]?=some y→Qa M noInj v y∧y.cell=true
theorem Kz {M:CM} {v:Value} {y:AV} (h:Qa M noInj v y) (hc:y.cell=true):Qay M [v] [y]:=by
 refine ⟨rfl,fun j v' y' h1 h2=>?_⟩
 cases j with
 | zero=>cases h1; cases h2; exact ⟨h,hc⟩
 | succ j=>simp at h1
theorem Qhq {M:CM} {a b:List Value} {x y:List AV} (h1:Qay M a x) (h2:Qay M b y):Qay M (a++b) (x++y):=by
 refine ⟨by simp [h1.1,h2.1],fun j v z hv hz=>?_⟩
 rcases Nat.lt_or_ge j a.length with hj | hj
 ·rw [List.getElem?_append_left hj] at hv
  rw [List.getElem?_append_left (by rw [h1.1]; exact hj)] at hz
  exact h1.2 j v z hv hz
 ·rw [List.getElem?_append_right hj] at hv
  rw [List.getElem?_append_right (by rw [h1.1]; exact hj),h1.1] at hz
  exact h2.2 _ v z hv hz
theorem Qu3 {α:Type} {n:Nat} {Q:Nat → α→Prop} (h:∀i,i < n→∃x,Q i x):∃xs:List α,xs.length=n∧∀i x,xs[i]?=some x→Q i x:=by
 induction n with
 | zero=>exact ⟨[],rfl,fun i x hx=>by simp at hx⟩
 | succ n ih =>
  obtain ⟨xs,h1,h2⟩:=ih fun i hi=>h i (by omega)
  obtain ⟨x,hx⟩:=h n (by omega)
  refine ⟨xs++[x],by simp [h1],fun i y hy=>?_⟩
  rcases Nat.lt_or_ge i xs.length with hi | hi
  ·rw [List.getElem?_append_left hi] at hy; exact h2 i y hy
  ·rw [List.getElem?_append_right hi] at hy
   cases hk:i - xs.length with
   | zero =>
    rw [hk] at hy
    cases hy
    rw [show i=n by omega]; exact hx
   | succ k=>rw [hk] at hy; simp at hy
def Qbq (w:World) (hg:Qkc w):CM:=⟨fun b o=>w.cell? ⟨b,o,none⟩,hg,fun _=>none,fun _ _=>none⟩
theorem Q0g {w:World} {hg:Qkc w} {b o:Nat}:Qbq w hg b o=w.cell? ⟨b,o,none⟩:=rfl
theorem Qqv {α β:Type} {f:α→Option β}:∀{l:List α} {r:List β},l.mapM f=some r→r.length=l.length∧∀(i:Nat) (a:α),l[i]?=some a→f a=r[i]?
 | [],r,h=>by simp at h; subst h; simp
 | a::l,r,h=>by
  simp only [List.mapM_cons,Option.pure_def,Option.bind_eq_bind,Option.bind_eq_some_iff] at h
  obtain ⟨b,hb,bs,hbs,h⟩:=h
  cases h
  obtain ⟨h1,h2⟩:=Qqv hbs
  refine ⟨by simp [h1],fun i x hx=>?_⟩
  cases i with
  | zero=>cases hx; simpa using hb
  | succ i=>simpa using h2 i x (by simpa using hx)
theorem Qt0 {w:World} {base:Nat} {a:Addr} {n:Nat} {row:List Value} (h:w.cells? base a n=some row):row.length=n∧∀i,i < n→w.cell? (a.add i)=row[i]?:=by
 unfold World.cells? at h
 split at h
 ·obtain ⟨h1,h2⟩:=Qqv h
  refine ⟨by simpa using h1,fun i hi=>h2 i i (by simp [hi])⟩
 ·cases h
theorem Qxr {w:World} {a:Addr} {v:Value} (h:w.cell? a=some v):a.spot=none:=by
 unfold World.cell? at h
 cases hs:a.spot with
 | none=>rfl
 | some s =>
  simp only [hs] at h
  split at h <;> simp at h
theorem Qk5 (a:Addr):a.add 0=a:=by simp [Addr.add]
theorem Qul (b off k:Nat):(⟨b,off,none⟩:Addr).add k=⟨b,off+k,none⟩:=by
 unfold Addr.add
 split
 ·rename_i h; subst h; rfl
 ·rfl
section
variable {H:Type} {enc:TypeId × Value→H} {P:Program} {w:World} {base:Nat} {hg:Qkc w}
theorem Qo0 {cs:List Value} {m:Nat} {rec:TypeId→Option Sh} (ih:∀(t:TypeId) (s:Sh),rec t=some s→∀(cs:List Value) (x:DataW H × List MemPlace),DataW.trod enc P w base (fun _=>true) true m t cs=some x→∃avs,Qay (Qbq w hg) cs avs∧WT s avs) :
  ∀(l:List Field) (o:Nat) (s:Sh),Qih P rec l o=some s→(∀f∈l,∃x,DataW.trod enc P w base (fun _=>true) true m f.type ((cs.drop f.offset).take (P.cellsOf f.type))=some x)→∃avs,Qay (Qbq w hg) ((cs.drop o).take s.width) avs∧WT s avs
 | [],o,s,h,_=>by
  cases h
  exact ⟨[],⟨by simp [Sh.width],fun j v y h1 h2=>by simp at h2⟩,rfl⟩
 | f::l,o,s,h,hf=>by
  unfold Qih at h
  split at h
  ·rename_i s1 hs1
   split at h
   ·rename_i hc
    split at h
    ·rename_i q hq
     cases h
     simp only [Bool.and_eq_true] at hc
     have h1:=Nat.eq_of_beq_eq_true hc.1
     have h2:=Nat.eq_of_beq_eq_true hc.2
     obtain ⟨x,hx⟩:=hf f (by simp)
     rw [h1,←h2] at hx
     obtain ⟨a1,c1,w1⟩:=ih _ _ hs1 _ _ hx
     obtain ⟨a2,c2,w2⟩:=Qo0 ih l (o+s1.width) q hq (fun g hg=>hf g (by simp [hg]))
     refine ⟨a1++a2,?_,a1,a2,rfl,w1,w2⟩
     have e:(cs.drop o).take (s1.width+q.width)=(cs.drop o).take s1.width++(cs.drop (o+s1.width)).take q.width:=by
      rw [List.take_add,List.drop_drop]
     simp only [Sh.width]
     rw [e]
     exact Qhq c1 c2
    ·cases h
   ·cases h
  ·cases h
theorem Qvb {cs:List Value} {M:CM} {s:Sh} {n:Nat} (h:∀i,i < n→∃avs,Qay M ((cs.drop (i*s.width)).take s.width) avs∧WT s avs):∀(k o:Nat),o+k=n→∃avs,Qay M ((cs.drop (o*s.width)).take (k*s.width)) avs∧WT (Qxq s k) avs
 | 0,o,_=>⟨[],⟨by simp,fun j v y h1 h2=>by simp at h2⟩,rfl⟩
 | k+1,o,hk=>by
  obtain ⟨a1,c1,w1⟩:=h o (by omega)
  obtain ⟨a2,c2,w2⟩:=Qvb h k (o+1) (by omega)
  refine ⟨a1++a2,?_,a1,a2,rfl,w1,w2⟩
  have e:(cs.drop (o*s.width)).take ((k+1)*s.width)=(cs.drop (o*s.width)).take s.width++(cs.drop ((o+1)*s.width)).take (k*s.width):=by
   rw [Nat.succ_mul k,Nat.add_comm,List.take_add,List.drop_drop,Nat.succ_mul o]
  rw [e]
  exact Qhq c1 c2
theorem Qsc (cs:List AV):(AV.agg cs).flat = cs:=rfl
theorem Qf3:∀(n:Nat) (t:TypeId) (s:Sh),Qjh P n t=some s→∀(m:Nat) (cs:List Value) (x:DataW H × List MemPlace),DataW.trod enc P w base (fun _=>true) true m t cs=some x→∃avs,Qay (Qbq w hg) cs avs∧WT s avs
 | 0,t,s,h=>by simp [Qjh] at h
 | n+1,t,s,h=>by
  intro m cs x hx
  unfold Qjh at h
  split at h
  ·rename_i ht
   cases h
   obtain ⟨b,rfl,_⟩:=DataW.trod_bool ht hx
   exact ⟨[.bool b],Kz (.bool b) rfl,b,rfl⟩
  ·rename_i k ht
   cases h
   obtain ⟨z,rfl,_,hw⟩:=DataW.trod_int ht hx
   exact ⟨[.int k z],Kz (.int k z) rfl,z,rfl,hw⟩
  ·rename_i ht
   cases h
   obtain ⟨z,rfl,_,hw⟩:=DataW.trod_string ht hx
   exact ⟨[.str z],Kz (.str z) rfl,z,rfl,hw⟩
  ·rename_i e ht
   split at h
   ·rename_i s1 hs1
    split at h
    ·rename_i hc
     cases h
     simp only [Bool.and_eq_true,Bool.or_eq_true] at hc
     obtain ⟨⟨hw,hpos⟩,hag⟩:=hc
     have hw:=Nat.eq_of_beq_eq_true hw
     have hpos:0 < P.cellsOf e:=by simpa using hpos
     rcases DataW.trod_slice ht hx with ⟨rfl,_⟩ | ⟨a,len,cap,elems,rest,n',_,rfl,_,hb,hl,hm,hlen,hel,hsp,_⟩
     ·exact ⟨[.lst s1.scal []],Kz (.lst0 none _) rfl,[],rfl,by simp,fun x hx=>by cases hx⟩
     ·have hsp:=hsp rfl
      have hspot:0 < cap→a.spot=none:=fun hcap=>by
       have key:∃row,w.cells? base a (P.cellsOf e)=some row:=by
        rcases Nat.eq_zero_or_pos len with h0 | h0
        ·have:=hsp.2 0 (by omega)
         rw [List.getElem?_eq_getElem (by omega)] at this
         obtain ⟨row,h1,_⟩:=Option.bind_eq_some_iff.1 this
         rw [h0,Nat.add_zero,Nat.zero_mul,Qk5] at h1
         exact ⟨row,h1⟩
        ·have:=hel 0 h0
         rw [List.getElem?_eq_getElem (by omega)] at this
         obtain ⟨row,h1,_⟩:=Option.bind_eq_some_iff.1 this
         rw [Nat.zero_mul,Qk5] at h1
         exact ⟨row,h1⟩
       obtain ⟨row,hk⟩:=key
       obtain ⟨h1,h2⟩:=Qt0 hk
       have h3:=h2 0 hpos
       rw [List.getElem?_eq_getElem (by omega),Qk5] at h3
       exact Qxr h3
      rcases Nat.eq_zero_or_pos cap with h0 | h0
      ·have hl0:len=0:=by omega
       subst h0; subst hl0
       exact ⟨[.lst s1.scal []],Kz (.lst0 _ _) rfl,[],rfl,by simp,fun x hx=>by cases hx⟩
      ·have hspot:=hspot h0
       obtain ⟨blk,off,spot⟩:=a
       simp only at hspot
       subst hspot
       have each:∀i,i < len→∃z:AV,z.shaped (P.cellsOf e)∧WT s1 z.flat ∧ (if Qho P e then z=.agg z.flat else z.cell=true)∧∀(j:Nat) (y:AV),z.flat[j]?=some y→∃v,w.cell? ⟨blk,off+i*P.cellsOf e+j,none⟩=some v∧Qa (Qbq w hg) noInj v y:=by
        intro i hi
        have h1:=hel i hi
        rw [List.getElem?_eq_getElem (by omega)] at h1
        obtain ⟨row,h2,h3⟩:=Option.bind_eq_some_iff.1 h1
        obtain ⟨avs,c1,w1⟩:=Qf3 n e s1 hs1 _ _ _ h3
        obtain ⟨g1,g2⟩:=Qt0 h2
        have hlen':=Qtk w1
        have cellv:∀(j:Nat) (y:AV),avs[j]?=some y→∃v,w.cell? ⟨blk,off+i*P.cellsOf e+j,none⟩=some v∧Qa (Qbq w hg) noInj v y∧y.cell=true:=fun j y hy=>by
         have hj:=(List.getElem?_eq_some_iff.1 hy).1
         have h5:=g2 j (by omega)
         have h6:row[j]?=some row[j]:=List.getElem?_eq_getElem (by rw [←c1.1]; exact hj)
         rw [h6] at h5
         refine ⟨_,?_,c1.2 j _ y h6 hy⟩
         rw [Qul,Qul] at h5
         exact h5
        by_cases ha:Qho P e=true
        ·refine ⟨.agg avs,⟨.inl rfl,by rw [Qsc]; omega,fun y hy=>?_⟩,w1,by rw [if_pos ha]; rfl,fun j y hy=>?_⟩
         ·rw [Qsc] at hy
          obtain ⟨j,hj⟩:=List.mem_iff_getElem?.1 hy
          obtain ⟨_,_,_,h⟩:=cellv j y hj
          exact h
         ·obtain ⟨v,h1,h2,_⟩:=cellv j y hy
          exact ⟨v,h1,h2⟩
        ·have h1:s1.width=1:=by
          rcases hag with h | h
          ·exact absurd h ha
          ·exact Nat.eq_of_beq_eq_true h
         obtain ⟨z,rfl⟩:∃z,avs=[z]:=by
          match avs,hlen' with
          | [z],_=>exact ⟨z,rfl⟩
          | [],h=>simp [h1] at h
          | _::_::_,h=>simp [h1] at h
         obtain ⟨v,hv,hr,hcell⟩:=cellv 0 z rfl
         have hflat : z.flat = [z]:=by cases z <;> simp_all [AV.flat,AV.cell]
         refine ⟨z,⟨.inr hcell,by rw [hflat]; simp; omega,fun y hy=>by rw [hflat] at hy; simp at hy; rw [hy]; exact hcell⟩,by rw [hflat]; exact w1,by rw [if_neg ha]; exact hcell,fun j y hy=>?_⟩
         rw [hflat] at hy
         cases j with
         | zero=>cases hy; exact ⟨v,by simpa using hv,hr⟩
         | succ j=>simp at hy
       obtain ⟨xs,hxl,hxs⟩:=Qu3 each
       refine ⟨[.lst s1.scal xs],Kz ?_ rfl,xs,rfl,by omega,fun z hz=>?_⟩
       ·have:=Qa.lst (M:=Qbq w hg) (ι:=noInj) blk off cap (P.cellsOf e) s1.scal xs (fun i j=>(w.cell? ⟨blk,off+i*P.cellsOf e+j,none⟩).getD default) (by omega)
         (fun hfl z hz=>by
          obtain ⟨i,hi⟩:=List.mem_iff_getElem?.1 hz
          exact Qpz (hxs i z hi).2.1 hfl)
         (fun z hz=>by
          obtain ⟨i,hi⟩:=List.mem_iff_getElem?.1 hz
          exact (hxs i z hi).1)
         (fun i j z y hz hy=>by
          obtain ⟨v,h1,h2⟩:=(hxs i z hz).2.2.2 j y hy
          simp only [Q0g]
          rw [h1]; rfl)
         (fun i j z y hz hy=>by
          obtain ⟨v,h1,h2⟩:=(hxs i z hz).2.2.2 j y hy
          rw [h1]; exact h2)
        rwa [hxl] at this
       ·obtain ⟨i,hi⟩:=List.mem_iff_getElem?.1 hz
        exact ⟨(hxs i z hi).2.1,(hxs i z hi).2.2.1⟩
    ·cases h
   ·cases h
  ·rename_i fs ht
   split at h
   ·rename_i s1 hs1
    split at h
    ·rename_i hw
     cases h
     have hw:=Nat.eq_of_beq_eq_true hw
     obtain ⟨xs,n',_,_,hl,hxs,hf⟩:=DataW.trod_struct ht hx
     obtain ⟨avs,c1,w1⟩:=Qo0 (cs:=cs) (m:=n') (rec:=Qjh P n) (fun t s hs cs x hx=>Qf3 n t s hs _ _ _ hx) fs.toList 0 s hs1 (fun f hf'=>by
      obtain ⟨i,hi⟩:=List.mem_iff_getElem?.1 hf'
      have h1:=hf i f (by simpa using hi)
      have hi':=(List.getElem?_eq_some_iff.1 hi).1
      rw [List.getElem?_eq_getElem (by rw [hxs]; simpa using hi')] at h1
      exact ⟨_,h1⟩)
     refine ⟨avs,?_,w1⟩
     rw [List.drop_zero,List.take_of_length_le (by omega)] at c1
     exact c1
    ·cases h
   ·cases h
  ·rename_i m0 e ht
   split at h
   ·rename_i s1 hs1
    split at h
    ·rename_i hw
     cases h
     simp only [Bool.and_eq_true] at hw
     have h1:=Nat.eq_of_beq_eq_true hw.1
     have h2:=Nat.eq_of_beq_eq_true hw.2
     obtain ⟨xs,n',_,_,hl,hxs,hf⟩:=DataW.trod_array ht hx
     obtain ⟨avs,c1,w1⟩:=Qvb (cs:=cs) (M:=Qbq w hg) (s:=s1) (n:=m0) (fun i hi=>by
      have h3:=hf i hi
      rw [List.getElem?_eq_getElem (by omega),←h1] at h3
      exact Qf3 n e s1 hs1 _ _ _ h3) m0 0 (by omega)
     refine ⟨avs,?_,w1⟩
     rw [Nat.zero_mul,List.drop_zero,List.take_of_length_le (by omega)] at c1
     exact c1
    ·cases h
   ·cases h
  ·cases h
theorem arg_struct {t:TypeId} {s:Sh} {v:Value} {d:DataW H} {ps:List MemPlace} {b0:Nat} (n:Nat) (hs:Qjh P n t=some s) (ha:Qho P t=true) (hok:Value.okWide P w .any b0 t v)
  (h:DataW.Trod enc P w base (fun _=>true) true t v d ps):∃avs,Qa (Qbq w hg) noInj v (.agg avs)∧WT s avs:=by
 obtain ⟨m,hm⟩:=h
 obtain ⟨avs,c1,w1⟩:=Qf3 n t s hs m _ _ hm
 have hv:∃cs,v=.agg cs:=by
  unfold Qho at ha
  unfold Value.okWide at hok
  split at ha
  ·rename_i fs hfs
   rw [hfs] at hok
   obtain ⟨cs,h1,_⟩:=hok
   exact ⟨cs,h1⟩
  ·rename_i m0 e hfs
   rw [hfs] at hok
   obtain ⟨cs,h1,_⟩:=hok
   exact ⟨cs,h1⟩
  ·cases ha
 obtain ⟨cs,rfl⟩:=hv
 refine ⟨avs,.agg cs avs (by simpa [Value.cells] using c1.1.symm) (fun y hy=>?_) (fun j u y hu hy=>?_),w1⟩
 ·obtain ⟨j,hj⟩:=List.mem_iff_getElem?.1 hy
  have hj':=(List.getElem?_eq_some_iff.1 hj).1
  rw [c1.1] at hj'
  exact (c1.2 j _ y (List.getElem?_eq_getElem hj') hj).2
 ·exact (c1.2 j u y (by simpa [Value.cells] using hu) hy).1
end
theorem sameAt_of {W W':World} (h:∀b,b < W.heap.size→W'.heap[b]?=W.heap[b]?) {p:MemPlace} (hp:p.block < W.heap.size):W.sameAt W' p:=by
 cases p with
 | cell b off =>
  show W'.cell? ⟨b,off,none⟩=W.cell? ⟨b,off,none⟩
  unfold World.cell?
  rw [h b hp]
 | map b=>exact h b hp
theorem calls_args {P:Program} {f:FuncId} {args:List AV} {b:Bool} (h:Zd P f args (.ret (.bool b) [])) {W:World} {hg:Qkc W} {vs:Array Value} (hl:vs.size=args.length)
  (hr:∀(j:Nat) (v:Value) (a:AV),vs[j]?=some v→args[j]?=some a→Qa (Qbq W hg) noInj v a):Calls P f vs W fun e W'=>e=.returned (.bool b)∧Below W.heap.size W W'∧∀b,b < W.heap.size→W'.heap[b]?=W.heap[b]?:=by
 refine (h W (Qbq W hg) vs ⟨fun _ _ _ h=>h,fun b x h=>(by cases h),fun b o v h=>(by cases h)⟩ hl hr).mono fun e W' he=>?_
 obtain ⟨v,M',ι',he,_,hrel,_,hv⟩:=he
 cases hv
 exact ⟨he,hrel.below.toBelow,fun b hb=>hrel.below.block b hb⟩
theorem Qze {x:AV} (h:x.cell=true):x.flat = [x]:=by cases x <;> simp_all [AV.flat,AV.cell]
theorem Q0z {α:Type} {enc:α→AV} {R:α→Prop} {xs:List AV} (h:∀x∈xs,∃a,x=enc a∧R a):∃l:List α,xs=l.map enc∧∀a∈l,R a:=by
 induction xs with
 | nil=>exact ⟨[],rfl,fun n hn=>by cases hn⟩
 | cons x xs ih =>
  obtain ⟨l,rfl,hl⟩:=ih fun y hy=>h y (by simp [hy])
  obtain ⟨a,rfl,ha⟩:=h x (by simp)
  refine ⟨a::l,rfl,fun m hm=>?_⟩
  rcases List.mem_cons.1 hm with rfl | hm
  ·exact ha
  ·exact hl m hm
end Go.Ab
namespace Go.Ab
open Go.RowKit
def Qv2 (P:Program) (t:TypeId):Bool:=match P.underlying t with | some (.int _)=>true | some .bool=>true | some .string=>true | some (.slice _)=>true | _=>false
section
variable {H:Type} {enc:TypeId × Value→H} {P:Program} {w:World} {base:Nat} {hg:Qkc w}
theorem arg_cell {t:TypeId} {s:Sh} {v:Value} {d:DataW H} {ps:List MemPlace} {b0:Nat} (n:Nat) (hs:Qjh P n t=some s) (ha:Qv2 P t=true) (hok:Value.okWide P w .any b0 t v)
  (h:DataW.Trod enc P w base (fun _=>true) true t v d ps):∃y,Qa (Qbq w hg) noInj v y∧WT s [y]:=by
 obtain ⟨m,hm⟩:=h
 obtain ⟨avs,c1,w1⟩:=Qf3 n t s hs m _ _ hm
 have hv:v.cells=#[v]:=by
  cases v with
  | agg cs =>
   exfalso
   unfold Qv2 at ha
   unfold Value.okWide at hok
   split at ha <;> (rename_i hu; first | (rw [hu] at hok; unfold Cell.okWide at hok; rw [hu] at hok; unfold Cell.ok at hok; rw [hu] at hok; exact hok) | cases ha)
  | _=>rfl
 rw [hv] at c1
 obtain ⟨h1,h2⟩:=c1
 simp at h1
 obtain ⟨y,rfl⟩:∃y,avs=[y]:=List.length_eq_one_iff.1 h1
 exact ⟨y,(h2 0 v y rfl rfl).1,w1⟩
end
end Go.Ab
namespace Go.Ab
section
variable {P:Program} {rd:Option Nat} {base:Nat} {ops:Array Oper} {st S:St} {Φ:AOut→Prop} {d:Option (List Sk)} {i:Nat} {c y:Code}
theorem sgz (k j:Nat) {S:St} (hk:RW P rd base ops none j S Φ) (h:Qc2 P false ops k i st=some S:=by kernel_rfl) (hj:i+k=j:=by rfl):RW P rd base ops none i st Φ:=sg false k j h hj hk
theorem rgN {id:Nat} {S:St} (hk:Φ (.go .normal S)) (h:Qc2 P false ops ops.size 0 st=some S:=by kernel_rfl):WP P rd base (.region id ops false) st Φ :=
 Zb (sg false ops.size ops.size h (Nat.zero_add _) (Q1 rfl hk))
theorem sqN {id:Nat} {S:St} (hk:WP P rd base y S Φ) (h:Qc2 P false ops ops.size 0 st=some S:=by kernel_rfl):WP P rd base (.seq (.region id ops false) y) st Φ :=
 Qk (rgN hk h)
theorem wgc (live keep:List Nat) (S:St) (hk:WP P rd base c S Φ) (h:Qet base live keep st=some S:=by kernel_rfl):WP P rd base c st Φ:=Qdz (Q4 h) hk
theorem rga {id:Nat} (hm:P.follows .mixedOrders=true) (h:RW P rd base ops (some []) 0 st Φ) (hB:Qxd ops=true:=by kernel_rfl):WP P rd base (.region id ops true) st Φ:=Q23 (by simp [hm]) (Q2z hB) h
def gt (o:Option St) (d:St):St:=match o with | some S=>S | none=>d
noncomputable def nx (P:Program) (ops:Array Oper) (k i:Nat) (st:St):St:=gt (Qc2 P false ops k i st) st
noncomputable def gx (base:Nat) (live keep:List Nat) (st:St):St:=gt (Qet base live keep st) st
noncomputable def lx (P:Program) (ops:Array Oper) (i:Nat) (st:St) (hv he:List LK) (b:Bool):St:=gt (Qwf P false ops i st hv he b) st
theorem Qhn {o:Option St} {d:St} (h:o.isSome=true):o=some (gt o d):=by
 cases o with
 | none=>cases h
 | some S=>rfl
theorem sz (k j:Nat) (hk:RW P rd base ops none j (nx P ops k i st) Φ) (h:(Qc2 P false ops k i st).isSome=true:=by kernel_rfl) (hj:i+k=j:=by rfl):RW P rd base ops none i st Φ:=sg false k j (Qhn h) hj hk
theorem sy (k j:Nat) (hk:RW P rd base ops (Zf d (Qrv P false ops k i st)) j (nx P ops k i st) Φ) (h:(Qc2 P false ops k i st).isSome=true:=by kernel_rfl) (hj:i+k=j:=by rfl):RW P rd base ops d i st Φ:=sg false k j (Qhn h) hj hk
theorem rn {id:Nat} (hk:Φ (.go .normal (nx P ops ops.size 0 st))) (h:(Qc2 P false ops ops.size 0 st).isSome=true:=by kernel_rfl):WP P rd base (.region id ops false) st Φ:=rgN hk (Qhn h)
theorem sq {id:Nat} (hk:WP P rd base y (nx P ops ops.size 0 st) Φ) (h:(Qc2 P false ops ops.size 0 st).isSome=true:=by kernel_rfl):WP P rd base (.seq (.region id ops false) y) st Φ:=sqN hk (Qhn h)
theorem wg (live keep:List Nat) (hk:WP P rd base c (gx base live keep st) Φ) (h:(Qet base live keep st).isSome=true:=by kernel_rfl):WP P rd base c st Φ:=wgc live keep _ hk (Qhn h)
theorem sl (nf:Bool) (hv he:List LK) (b:Bool) (hn:nf=false) (hk:RW P rd base ops (Zf d [Qto P nf ops i st]) (i+1) (lx P ops i st hv he b) Φ) (h:(Qwf P false ops i st hv he b).isSome=true:=by kernel_rfl):RW P rd base ops d i st Φ:=by
 subst hn; exact sgL false hv he b (Qhn h) hk
theorem wbr {R:Type} {b:Bool} {S:Bool→St} {A B:Option R} {r:R} (h:(if b=true then A else B)=some r) (h1:b=true→A=some r→WP P rd base c (S true) Φ) (h2:b=false→B=some r→WP P rd base c (S false) Φ) (hS:st=S b:=by kernel_rfl):WP P rd base c st Φ:=by
 rw [hS]; exact Q15 h h1 h2
theorem wwh {σ ρ R:Type} {n:Nat} {body:σ→Option (Step σ ρ)} {K:ρ→Option R} {r:R} {s0:σ} (h:(Qd n body s0).bind K=some r) (I:σ→St) (Ex:ρ→AOut→Prop) (hw:Wk P base st (I s0))
  (round:∀s o,body s=some o→WP P rd base c (I s) (Qgi P base I Ex o)) (k:∀x,K x=some r→∀out,Ex x out→Φ out):WP P rd base (.loop c) st Φ:=Qtq s0 hw h round k
theorem wbz {R:Type} {b:Bool} {A B:Option R} {r:R} {x:Code} {op:Operand} (h:(if b=true then A else B)=some r) (h1:b=true→A=some r→WP P rd base x st Φ) (h2:b=false→B=some r→WP P rd base y st Φ)
  (he:evo (lk st.slots) op=some (.bool b):=by kernel_rfl):WP P rd base (.cond op x y) st Φ:=Qpo he (fun hb=>h1 hb (by rw [hb] at h; simpa using h)) (fun hb=>h2 hb (by rw [hb] at h; simpa using h))
theorem wcT {x:Code} {op:Operand} (h:WP P rd base x st Φ) (he:evo (lk st.slots) op=some (.bool true):=by kernel_rfl):WP P rd base (.cond op x y) st Φ:=Qt4 he h
theorem wcF {x:Code} {op:Operand} (h:WP P rd base y st Φ) (he:evo (lk st.slots) op=some (.bool false):=by kernel_rfl):WP P rd base (.cond op x y) st Φ:=Qs6 he h
theorem rgd {acc:List Sk} (h:Φ (.go .normal st)) (hi:i=ops.size:=by rfl) (hc:Qdn ops.toList acc=true:=by kernel_rfl):RW P rd base ops (some acc) i st Φ:=Qsa hi hc h
theorem kr {α:Sort _} {a b:α} (h:a=b:=by kernel_rfl):a=b:=h
def gt0 (o:Option St):St:=match o with | some S=>S | none=>⟨[],[],0⟩
theorem gE {o:Option St} (h:o.isSome=true:=by kernel_rfl):o=some (gt0 o):=by
 cases o with
 | none=>cases h
 | some S=>rfl
theorem gF {α:Type} {o:α→Option St} (h:∀x,(o x).isSome=true:=by (intro _; kernel_rfl)):∀x,o x=some (gt0 (o x)):=fun x=>gE (h x)
def Q13 (b:Bool):List Nat → List (Nat × AV)→List (Nat × AV)
 | [],s=>s
 | t::ts,s=>Q13 b ts (setS s t (.bool b))
def pB (ts:List Nat) (b:Bool) (st:St):St:=⟨Q13 b ts st.slots,st.objs,st.nt⟩
def setLen (n:Nat):AV→AV
 | .ref o i _=>.ref o i n
 | .lin o i _=>.lin o i n
 | x=>x
def Q1u (n:Nat):List Nat → List (Nat × AV)→List (Nat × AV)
 | [],s=>s
 | t::ts,s=>Q1u n ts (match lk s t with | some x=>setS s t (setLen n x) | none=>s)
def pL (ts:List Nat) (n:Nat) (st:St):St:=⟨Q1u n ts st.slots,st.objs,st.nt⟩
theorem wb (ts:List Nat) {R:Type} {b:Bool} {A B:Option R} {r:R} (h:(if b=true then A else B)=some r) (h1:b=true→A=some r→WP P rd base c (pB ts true st) Φ) (h2:b=false→B=some r→WP P rd base c (pB ts false st) Φ) (hS:st=pB ts b st:=by kernel_rfl):WP P rd base c st Φ:=by
 rw [hS]; exact Q15 (S:=fun b=>pB ts b st) h h1 h2
theorem rb (ts:List Nat) {R:Type} {b:Bool} {A B:Option R} {r:R} (h:(if b=true then A else B)=some r) (h1:b=true→A=some r→RW P rd base ops d i (pB ts true st) Φ) (h2:b=false→B=some r→RW P rd base ops d i (pB ts false st) Φ) (hS:st=pB ts b st:=by kernel_rfl):RW P rd base ops d i st Φ:=by
 rw [hS]; exact Q48 (S:=fun b=>pB ts b st) h h1 h2
theorem wk (ts:List Nat) {b c':Bool} (hb:b=c') (h:WP P rd base c (pB ts c' st) Φ) (hS:st=pB ts b st:=by kernel_rfl):WP P rd base c st Φ:=by rw [hS,hb]; exact h
theorem Qrz {α R:Type} {G:Option α} {K:α→Option R} {f:FuncId} {us:List AV} {rv:α→AV} {ro:α→List AObj} {r:R} (hb:Qd5 P f=true)
  (hc:∀x,G=some x→Zd P f us (.ret (rv x) (ro x))) (h:G.bind K=some r)
  (k:∀x,G=some x→K x=some r→RW P rd base ops (Zf d [Qkt st [] (rv x) (ro x)]) (i+1) (gt0 (Qf8 ops i st [] (rv x) (ro x))) Φ)
  (hi:Xk ops i st=some (f,us):=by kernel_rfl) (hsn:Q6 (Qu st.sto Qs) us=some (us,[]):=by kernel_rfl)
  (hS:∀x,(Qf8 ops i st [] (rv x) (ro x)).isSome=true:=by (intro _; kernel_rfl)):RW P rd base ops d i st Φ :=
 Qxg hi hb hsn hc (gF hS) h k
theorem Qp0 {n m:Nat} {S:Nat → St} (hb:n=m) (h:RW P rd base ops d i (S m) Φ) (hS:st=S n:=by kernel_rfl):RW P rd base ops d i st Φ:=by rw [hS]; exact Q3t hb h
theorem Q43 {R:Type} {n m:Nat} {S:Nat → St} {A:Option R} {r:R} (h:(if n=m then A else none)=some r) (k:A=some r→RW P rd base ops d i (S m) Φ) (hS:st=S n:=by kernel_rfl):RW P rd base ops d i st Φ:=by rw [hS]; exact Q3c h k
end
abbrev z1:List Int→AV:=eL true eI
abbrev z2:List (List Int)→AV:=eL false z1
abbrev zw:Int→Int:=IntKind.i64.wrap
abbrev zv:Int→Int:=IntKind.u64.wrap
abbrev zb:Int → BitVec (IntKind.bits .u64):=BitVec.ofInt (IntKind.bits .u64)
abbrev zk:Nat:=IntKind.bits .u64
abbrev zp:Int×Int → AV:=fun x=>.agg [vI x.1,vI x.2]
abbrev zq:Int×Int → Int×Int → Bool:=fun a b=>(a.1==b.1) && ((a.2==b.2) && true)
abbrev zt:Int→Nat := Int.toNat
abbrev zn {α:Type} (l:List α):Int:=(l.length:Int)
end Go.Ab
namespace Go.Ab
open Go.RowKit
def Quj (P:Program) (f:FuncId) (az:List AV) (objs:List AObj) (r:AV) (objs':List AObj):Prop :=
 ∀(B:Nat) (W0 W:World) (D:List Nat) (M:CM) (ι:Inj) (vs:Array Value),Rel P B W0 D M ι (sto objs) W→D.Nodup→(∀k,¬ InB objs.length k→ι k=none)→objs.length≤BIG→vs.size=az.length →
  (∀(j:Nat) (v:Value) (a:AV),vs[j]?=some v→az[j]?=some a→Qa M ι v a) →
  Calls P f vs W fun e W'=>∃v M' ι',e=.returned v∧CM.Grow B M M'∧ι.le ι'∧Rel P B W0 D M' ι' (sto objs') W'∧(∀k,¬ InB objs'.length k→ι' k=none)∧objs'.length≤BIG∧Qa M' ι' v r
theorem Qxc {P:Program} {rd:Option Nat} {base:Nat} {o:Oper} {st:St} {g:Operand} {args:Array Operand} {ts:Array TypeId} {f:FuncId} {fn:Func} {first caps az:List AV} {x:AV} {objs':List AObj} {slots:List (Nat × AV)}
  (ho:o.op=.call { callee:=.value g,args,argTypes:=ts }) (hg:evo (lk st.slots) g=some (.fn (.func f) first caps)) (has:Jw (lk st.slots) args.toList=some az)
  (hf:P.funcs[f]?=some fn) (hb:fn.body.isSome=true) (hn:(fn.name == "runtime.NumGoroutine")=false)
  (h:Quj P f (first++az++caps) st.objs x objs') (hput:V2 st.slots st.nt o.dst (some x)=some slots) :
  OpX P rd base o st (.go .normal ⟨slots,objs',st.nt⟩):=by
 intro B W0 D0 dl M ι a W n Q r hs hr' hp
 have hgv:=Qg hs.slots hg
 generalize hgu:a.eval g=gu at hgv
 cases hgv with
 | fn _ first' caps' _ _ hy hm h1 h2 hr1 hr2 =>
 obtain ⟨l1,e1⟩:=Vn hs.slots has
 refine ⟨fun _ _=>trivial,?_⟩
 rw [Oper.semAt_eq _ _ _ (by rw [ho]; simp)]
 have hrun:(execOp a.eval o).run P W=.ok (.enter f (first'++args.map a.eval++caps')) W:=by
  simp only [execOp,ho,resolve,hgu,Deferred.ofValue,Sem.run_bind,Sem.run_pure,Result.andThen_ok,invoke]
  exact Ji hf hb hn _ W
 rw [hrun,Oper.uponIn_enter]
 have hrep:∀(j:Nat) (v:Value) (y:AV),(first'++args.map a.eval++caps')[j]?=some v→(first++az++caps)[j]?=some y→Qa M ι v y :=
  Qjg h1 (by simpa using l1.symm) h2 hr1 (fun j v y hv hy=>by
   simp only [Array.getElem?_map,Option.map_eq_some_iff] at hv
   obtain ⟨w,hw,rfl⟩:=hv
   exact (e1 j w y (by simpa using hw) hy).2) hr2
 refine ⟨fun hd=>by simp [FW,Fence.wide] at hd,Qfg ((h B W0 W (dl++D0) M ι _ hs.rel hs.df.nd hs.new hs.big (by simp [h1,h2,l1]) hrep).mono ?_)⟩
 rintro e W' ⟨v,M',ι',rfl,g1,g2,g3,g4,g4b,g5⟩
 obtain ⟨k1,k2,k3⟩:=Qbe (u:=v) (hs.slots.mono g1.le g2) hs.nt hput (fun y hy=>by cases hy; exact g5)
 exact hp.go .normal _ rfl dl M' ι' _ W' g1 (g2.leB base) (List.suffix_refl _) ⟨g3,k1,k2,hs.df.put,g4,g4b⟩
def Qo1 (ops:Array Oper) (i:Nat) (st:St) (x:AV) (objs':List AObj):Option St :=
 match ops[i]? with
 | some o=>match V2 st.slots st.nt o.dst (some x) with
  | some slots=>some ⟨slots,objs',st.nt⟩
  | none=>none
 | none=>none
section
variable {P:Program} {rd:Option Nat} {base:Nat} {ops:Array Oper} {st:St} {Φ:AOut→Prop} {i:Nat}
theorem Q3e {f:FuncId} {fn:Func} {as0:List AV} {x:AV} {objs':List AObj} {S:St} (hi:Xk ops i st=some (f,as0)) (hf:P.funcs[f]?=some fn) (hb:fn.body.isSome=true) (hn:(fn.name == "runtime.NumGoroutine")=false)
  (h:Quj P f as0 st.objs x objs') (hS:Qo1 ops i st x objs'=some S) (k:RW P rd base ops none (i+1) S Φ):RW P rd base ops none i st Φ:=by
 obtain ⟨o,g,args,ts,first,caps,as1,ho,hop,hg,has,rfl⟩:=Qbs hi
 obtain ⟨h1,h2⟩:=Vt ho
 unfold Qo1 at hS
 rw [h1] at hS
 simp only at hS
 split at hS
 ·rename_i slots hp
  cases hS
  obtain ⟨out2,k1,k2⟩:=k
  have hi':i < ops.size:=(Array.getElem?_eq_some_iff.1 h1).1
  refine ⟨out2,?_,k2⟩
  rw [Qfk hi']
  exact Qgz h1 h2 (Qxc hop hg has hf hb hn h hp) k1
 ·cases hS
end
end Go.Ab
namespace Go.Ab
open Go.RowKit
section
variable {P:Program} {ops:Array Oper} {G:Array Bool→Nat → Foot} {Q:Slots→Sto→Prop} {s:Slots} {σ:Sto}
end
section
variable {P:Program} {ops:Array Oper} {G:Array Bool→Nat → Foot} {s s':Slots} {σ:Sto} {B:Nat} {W0 W:World} {D:List Nat} {M:CM} {ι:Inj} {a:Act} {Q:Exit→Act→World→Prop} {QA:Slots→Sto→Prop}
end
section
variable {P:Program} {rd:Option Nat} {base:Nat} {ops ops0:Array Oper} {st st1 st2 st3:St}
theorem Qab.symm {F G:Foot} (h:Qab F G):Qab G F:=⟨h.b,h.a,fun e he e' he'=>Ne.symm (h.c e' he' e he)⟩
end
section
variable {P:Program} {rd:Option Nat} {base:Nat} {ops:Array Oper} {st st1 Sa Sb S3 S:St} {Φ:AOut→Prop} {i:Nat}
end
end Go.Ab
namespace Go.Ab
open Go.RowKit
theorem Q2o {α:Type} {vs:Array α} (h:vs.size=1):∃v0,vs=#[v0]:=by
 obtain ⟨l⟩:=vs
 match l,h with
 | [v0],_=>exact ⟨v0,rfl⟩
def Qyl (P:Program) (f:FuncId) (t1 t2:TypeId):Prop:=∀(g:FuncId) (gfn:Func) (caps:Array Value) (w:World) (x y:Int) (R:Ending→World→Prop),P.funcs[g]?=some gfn→gfn.body.isSome=true→(gfn.name == "runtime.NumGoroutine")=false →
 Calls P g caps ((w.alloc (.cells #[.int .i64 0,.int .i64 0] t1)).alloc (.cells #[.int .i64 0] t2)) (fun e w'=>e=.returned (.agg #[.int .i64 x,.int .i64 y]) ∧
  w'.cell? ⟨w.heap.size,0,none⟩=some (.int .i64 0)∧w'.cell? ⟨w.heap.size,1,none⟩=some (.int .i64 0)∧w'.cell? ⟨w.heap.size+1,0,none⟩=some (.int .i64 0) ∧
  w'.frozen? ⟨w.heap.size,0,none⟩=false∧w'.frozen? ⟨w.heap.size,1,none⟩=false∧w'.frozen? ⟨w.heap.size+1,0,none⟩=false ∧
  R (.returned (.tuple #[.agg #[.int .i64 x,.int .i64 y],.int .i64 0])) (((w'.setCell ⟨w.heap.size,0,none⟩ (.int .i64 x)).setCell ⟨w.heap.size,1,none⟩ (.int .i64 y)).setCell ⟨w.heap.size+1,0,none⟩ (.int .i64 0))) →
 Calls P f #[.func (.func g) #[] caps] w R
section
variable {P:Program}
theorem Qse {M:CM} {ι:Inj} {v:Value} {k:IntKind} {n:Int} (h:Qa M ι v (.int k n)):v=.int k n:=by cases h; rfl
theorem Qt6 {W W':World} {M M':CM} (hag:Qaw M W) (hb:Ze W.heap.size W W') (hk:M'.blk=M.blk):∀b x,M'.blk b=some x→W'.heap[b]?=some x∧(∀c e f,x≠.cells c e f)∧∀d,x≠.deferred d:=fun b x hx=>by
 rw [hk] at hx
 obtain ⟨k1,k2,k3⟩:=hag.keep b x hx
 exact ⟨by rw [hb.block b (Array.getElem?_eq_some_iff.1 k1).1]; exact k1,k2,k3⟩
theorem Qq2 {W W':World} {M M':CM} (hag:Qaw M W) (hb:Ze W.heap.size W W') (hk:M'.kc=M.kc):∀b o v,M'.kc b o=some v→W'.cell? ⟨b,o,none⟩=some v∧∀j,W'.frozen? ⟨b,j,none⟩=false:=fun b o v hx=>by
 rw [hk] at hx
 obtain ⟨k1,k2⟩:=hag.keepC b o v hx
 have hlt:=World.block_lt_of_cell? W _ k1
 exact ⟨by rw [hb.cell (p:=⟨b,o,none⟩) hlt]; exact k1,fun j=>by rw [hb.toBelow.frozen (p:=⟨b,j,none⟩) hlt]; exact k2 j⟩
theorem Qz5 {W0 W':World} {M0' M:CM} {ι:Inj} (hag:Qaw M0' W0) (hk:M.blk=M0'.blk) (hkc:M.kc=M0'.kc) (hs:W0.heap.size≤W'.heap.size) (hb:Ze W0.heap.size W0 W') (ha:∀b o v,M b o=some v→W'.cell? ⟨b,o,none⟩=some v):Rel P W0.heap.size W0 [] M ι (fun k=>([]:List AObj)[k]?) W' :=
 ⟨hs,hb,fun r hr=>(by simp at hr),⟨ha,Qt6 hag hb hk,Qq2 hag hb hkc⟩,fun o bx nr fl w xs p k ho=>(by simp at ho),fun o bx ro nr fl w xs ho=>(by simp at ho),fun o fn sl ps asg bd st pe ho=>(by simp at ho),fun o o' bx nr fl w xs bx' nr' fl' w' xs' p p' _ ho=>(by simp at ho),fun o o' fn sl ps asg bd st pe fn' sl' ps' asg' bd' st' pe' p p' _ ho=>(by simp at ho),fun o _=>.inl (by simp)⟩
theorem Qzv {f:FuncId} {t1 t2:TypeId} (raw:Qyl P f t1 t2) {g:FuncId} {gfn:Func} {capsA:List AV} {x y:Int} (hf:P.funcs[g]?=some gfn) (hb:gfn.body.isSome=true) (hn:(gfn.name == "runtime.NumGoroutine")=false)
  (h:Zd P g capsA (.ret (.agg [.int .i64 x,.int .i64 y]) [])):Zd P f [.fn (.func g) [] capsA] (.ret (.tup [.agg [.int .i64 x,.int .i64 y],.int .i64 0]) []):=by
 intro W M vs hag hsz hrep
 obtain ⟨v0,rfl⟩:=Q2o (vs:=vs) (by simp [hsz])
 have h0:=hrep 0 v0 _ rfl rfl
 cases h0 with
 | fn _ first' caps' _ _ hy hm h1 h2 hr1 hr2 =>
 have:first'=#[]:=by apply Array.eq_empty_of_size_eq_zero; simpa using h1
 subst this
 refine raw g gfn caps' W x y _ hf hb hn ?_
 have hcell:∀b o v,M b o=some v→b < W.heap.size:=fun b o v hv=>World.block_lt_of_cell? W _ (hag b o v hv)
 have hW1:Ze W.heap.size W ((W.alloc (.cells #[.int .i64 0,.int .i64 0] t1)).alloc (.cells #[.int .i64 0] t2)):=((Ze.refl _ W).alloc (Nat.le_refl _) _).alloc (by simp) _
 generalize hW:(W.alloc (.cells #[.int .i64 0,.int .i64 0] t1)).alloc (.cells #[.int .i64 0] t2)=W1 at *
 have hsz1:W1.heap.size=W.heap.size+2:=by rw [←hW]; simp
 have k1:W1.cell? ⟨W.heap.size,0,none⟩=some (.int .i64 0):=by rw [←hW]; simp [go_sem]
 have k2:W1.cell? ⟨W.heap.size,1,none⟩=some (.int .i64 0):=by rw [←hW]; simp [go_sem]
 have k3:W1.cell? ⟨W.heap.size+1,0,none⟩=some (.int .i64 0):=by rw [←hW]; simp [go_sem]
 have z1:W1.frozen? ⟨W.heap.size,0,none⟩=false:=by rw [←hW]; simp [go_sem]
 have z2:W1.frozen? ⟨W.heap.size,1,none⟩=false:=by rw [←hW]; simp [go_sem]
 have z3:W1.frozen? ⟨W.heap.size+1,0,none⟩=false:=by rw [←hW]; simp [go_sem]
 refine (h W1 M caps' ⟨fun b o v hv=>by rw [hW1.cell (p:=⟨b,o,none⟩) (hcell b o v hv)]; exact hag b o v hv,Qt6 hag hW1 rfl,Qq2 hag hW1 rfl⟩ h2 (fun j v a hv ha=>hr2 j v a hv ha)).mono ?_
 rintro e W' ⟨v,M',ι',rfl,q1,q2,q3,q4⟩
 have hv:v=.agg #[.int .i64 x,.int .i64 y]:=by
  cases q4 with
  | agg cs' cs hl hc hr =>
  have hs2:cs'.size=2:=by simpa using hl
  have e0:=hr 0 (cs'[0]'(by omega)) (.int .i64 x) (by simp) rfl
  have e1:=hr 1 (cs'[1]'(by omega)) (.int .i64 y) (by simp) rfl
  have e0':cs'[0]'(by omega)=.int .i64 x:=Qse e0
  have e1':cs'[1]'(by omega)=.int .i64 y:=Qse e1
  congr 1
  apply Array.ext (by simp [hs2])
  intro i h3 h4
  have:i=0∨i=1:=by omega
  rcases this with rfl | rfl
  ·simpa using e0'
  ·simpa using e1'
 subst hv
 have hbel:=q2.below
 have same:∀(b o:Nat),b < W1.heap.size→W'.cell? ⟨b,o,none⟩=W1.cell? ⟨b,o,none⟩:=fun b o hlt=>hbel.cell (p:=⟨b,o,none⟩) hlt
 have samf:∀(b o:Nat),b < W1.heap.size→W'.frozen? ⟨b,o,none⟩=W1.frozen? ⟨b,o,none⟩:=fun b o hlt=>hbel.toBelow.frozen (p:=⟨b,o,none⟩) hlt
 refine ⟨rfl,by rw [same _ _ (by omega)]; exact k1,by rw [same _ _ (by omega)]; exact k2,by rw [same _ _ (by omega)]; exact k3,by rw [samf _ _ (by omega)]; exact z1,by rw [samf _ _ (by omega)]; exact z2,by rw [samf _ _ (by omega)]; exact z3,?_⟩
 have hle:W1.heap.size≤W'.heap.size:=q2.size
 refine ⟨_,M',noInj,rfl,q1.mono (by omega),Qz5 hag q1.keep q1.keepC (by simp; omega) ?_ ?_,fun _ _=>rfl,?_⟩
 ·exact ((((hW1.trans (hbel.mono (by omega))).setCell (Nat.le_refl _) _).setCell (Nat.le_refl _) _).setCell (Nat.le_succ _) _)
 ·intro b o v hv
  have hne:∀p:Addr,(p.block=W.heap.size∨p.block=W.heap.size+1)→(⟨b,o,none⟩:Addr)≠p:=fun p hp e=>by
   subst e
   simp only at hp
   have hlt:b < W1.heap.size:=by omega
   rw [q1.old b o hlt] at hv
   have:=hcell b o v hv
   omega
  rw [World.cell?_setCell_other _ _ _ _ (hne ⟨W.heap.size+1,0,none⟩ (.inr rfl)).symm,World.cell?_setCell_other _ _ _ _ (hne ⟨W.heap.size,1,none⟩ (.inl rfl)).symm,World.cell?_setCell_other _ _ _ _ (hne ⟨W.heap.size,0,none⟩ (.inl rfl)).symm]
  exact q2.agree b o v hv
 ·refine .tup _ _ rfl (fun j u z hu hz=>?_)
  match j with
  | 0 =>
   simp at hu hz; subst hu; subst hz
   refine .agg _ _ rfl (fun c hc=>by simp at hc; rcases hc with rfl | rfl <;> rfl) (fun i u z hu hz=>?_)
   match i with
   | 0=>simp at hu hz; subst hu; subst hz; exact .int _ _
   | 1=>simp at hu hz; subst hu; subst hz; exact .int _ _
   | i+2=>simp at hu
  | 1=>simp at hu hz; subst hu; subst hz; exact .int _ _
  | j+2=>simp at hu
end
end Go.Ab
namespace Go.Ab
open Go.RowKit
section
variable {P:Program} {base:Nat} {st st':St}
end
theorem Qw7 {M:CM} {ι:Inj} {v:Value} {fl:Bool} {xs:List AV} (hs:List LK) (h:Qa M ι v (.lst fl xs)):Qa M ι v (.lst false (xs.map (Q2 hs))):=by
 cases h with
 | lst0=>exact .lst0 _ _
 | lst b off cap w _ _ f hcap hfl hc hM hr =>
  have key:∀(i j:Nat) (x y:AV),(xs.map (Q2 hs))[i]?=some x→x.flat[j]?=some y→∃x0 y0 h,xs[i]?=some x0∧x0.flat[j]?=some y0∧y=LK.ap h y0:=fun i j x y hi hj=>by
   rw [List.getElem?_map,Option.map_eq_some_iff] at hi
   obtain ⟨x0,e1,rfl⟩:=hi
   have hsh:=hc x0 (List.mem_of_getElem? e1)
   obtain ⟨hs',e2,_⟩:=Qdb hs (x:=x0) hsh.form
   rw [e2] at hj
   obtain ⟨h,y0,e3,e4⟩:=Qhr hs' _ j y hj
   exact ⟨x0,y0,h,e1,e3,e4⟩
  have:=Qa.lst (M:=M) (ι:=ι) b off cap w false (xs.map (Q2 hs)) f (by simpa using hcap) (fun h=>by cases h) (fun x hx=>by
   simp only [List.mem_map] at hx
   obtain ⟨z,hz,rfl⟩:=hx
   exact Qh6 hs (hc z hz)) (fun i j x y hi hj=>by
   obtain ⟨x0,y0,h,e1,e2,_⟩:=key i j x y hi hj
   exact hM i j x0 y0 e1 e2) (fun i j x y hi hj=>by
   obtain ⟨x0,y0,h,e1,e2,rfl⟩:=key i j x y hi hj
   exact LK.ap_rep h (hr i j x0 y0 e1 e2))
  simpa using this
def Qp8 (x y:AV):Prop:=∀(M:CM) (v:Value),Qa M noInj v x→Qa M noInj v y
theorem Qp8.lst {fl:Bool} {xs ys:List AV} (hs:List LK) (h:xs.map (Q2 hs)=ys):Qp8 (.lst fl xs) (.lst false ys):=fun M v hr=>by subst h; exact Qw7 hs hr
inductive Qlw:List AV→List AV→Prop
 | nil:Qlw [] []
 | cons {x y:AV} {xs ys:List AV} (h:Qp8 x y) (hc:y.cell=x.cell) (k:Qlw xs ys):Qlw (x::xs) (y::ys)
theorem Qlw.at {xs ys:List AV} (h:Qlw xs ys):xs.length=ys.length∧∀(j:Nat) (y:AV),ys[j]?=some y→∃x,xs[j]?=some x∧Qp8 x y∧y.cell=x.cell:=by
 induction h with
 | nil=>exact ⟨rfl,fun j y h=>by simp at h⟩
 | cons h hc k ih =>
  refine ⟨by simp [ih.1],fun j y hj=>?_⟩
  cases j with
  | zero=>simp at hj; subst hj; exact ⟨_,rfl,h,hc⟩
  | succ j=>exact ih.2 j y (by simpa using hj)
theorem Qp8.agg {xs ys:List AV} (h:Qlw xs ys):Qp8 (.agg xs) (.agg ys):=fun M v hr=>by
 cases hr with
 | agg cs' _ hsz hc hrr =>
  obtain ⟨hl,hat⟩:=h.at
  refine .agg cs' _ (by rw [←hl]; exact hsz) (fun y hy=>?_) (fun j v y hv hy=>?_)
  ·obtain ⟨j,hj,rfl⟩:=List.mem_iff_getElem.1 hy
   obtain ⟨x,e1,_,e3⟩:=hat j _ (List.getElem?_eq_getElem hj)
   rw [e3]; exact hc x (List.mem_of_getElem? e1)
  ·obtain ⟨x,e1,e2,_⟩:=hat j y hy
   exact e2 M v (hrr j v x hv e1)
section
variable {P:Program} {rd:Option Nat} {base:Nat} {ops:Array Oper} {st S:St} {Φ:AOut→Prop} {d:Option (List Sk)} {i:Nat}
end
end Go.Ab
namespace Go.Ab
open Go.RowKit
section
variable {P:Program} {rd:Option Nat} {base:Nat} {ops:Array Oper} {st S:St} {Φ:AOut→Prop} {d:Option (List Sk)} {i:Nat} {c:Code}
theorem Qr9 {σ ρ1 ρ2:Type} {body:σ→Option (Step σ (ρ1 ⊕ ρ2))} {I:σ→St} {H:ρ1→St} {Ex:ρ2→AOut→Prop}
  (stop:∀s y,body s=some (.done (.inl y))→H y=I s)
  (round:∀s o,body s=some o→(∃y,o=.done (.inl y))∨WP P rd base c (I s) (fun out=>match o with
   | .next s'=>∃st1,out=.go .normal st1∧Wk P base st1 (I s')
   | .done (.inl _)=>False
   | .done (.inr x)=>Ex x out∧out.normal=false)) :
  ∀(n:Nat) (s:σ) (x:ρ1 ⊕ ρ2),Qd n body s=some x→(∀y,x=.inl y→LWP P rd base c (H y) Φ)→(∀z,x=.inr z→∀out,Ex z out→Φ out)→LWP P rd base c (I s) Φ
 | 0,s,x,h,_,_=>by cases h
 | n+1,s,x,h,h1,h2=>by
  simp only [Qd] at h
  split at h
  ·rename_i s' hb
   rcases round s _ hb with ⟨y,e⟩ | hr
   ·cases e
   ·refine Qgc (hr.mono fun out ho=>?_)
    obtain ⟨st1,rfl,hw⟩:=ho
    exact Qkn hw (Qr9 stop round n s' x h h1 h2)
  ·rename_i x' hb
   cases h
   cases x with
   | inl y =>
    have:=h1 y rfl
    rw [stop s y hb] at this
    exact this
   | inr z =>
    rcases round s _ hb with ⟨y,e⟩ | hr
    ·cases e
    ·refine Qgc (hr.mono fun out ho=>?_)
     obtain ⟨g1,g2⟩:=ho
     have g3:=h2 z rfl out g1
     cases out with
     | pan v=>exact g3
     | go e st1=>cases e <;> first | exact g3 | simp [AOut.normal] at g2
  ·cases h
def Q1w {σ ρ:Type}:Step σ ρ→Step σ (σ ⊕ ρ)
 | .next s=>.next s
 | .done x=>.done (.inr x)
def Qks {σ ρ:Type} (cnd:σ→Bool) (body:σ→Option (Step σ ρ)) (s:σ):Option (Step σ (σ ⊕ ρ)):=if cnd s=true then some (.done (.inl s)) else (body s).map Q1w
theorem Qx0 {σ ρ R:Type} {n:Nat} {cnd:σ→Bool} {body:σ→Option (Step σ ρ)} {I:σ→St} {Ex:ρ→AOut→Prop} {K:σ ⊕ ρ→Option R} {r:R} (s0:σ) (hw:Wk P base st (I s0)) (h:(Qd n (Qks cnd body) s0).bind K=some r)
  (round:∀s o,body s=some o→WP P rd base c (I s) (Qgi P base I Ex o))
  (k1:∀y,K (.inl y)=some r→LWP P rd base c (I y) Φ) (k2:∀z,K (.inr z)=some r→∀out,Ex z out→Φ out):WP P rd base (.loop c) st Φ:=by
 cases hx:Qd n (Qks cnd body) s0 with
 | none=>rw [hx] at h; cases h
 | some x =>
  rw [hx] at h
  have hb:∀s o,Qks cnd body s=some o→(o=.done (.inl s))∨∃o',body s=some o'∧o=Q1w o':=fun s o ho=>by
   unfold Qks at ho
   split at ho
   ·cases ho; exact .inl rfl
   ·simp only [Option.map_eq_some_iff] at ho
    obtain ⟨o',e1,e2⟩:=ho
    exact .inr ⟨o',e1,e2.symm⟩
  refine Qv1 (Qkn hw (Qr9 (H:=I) (Ex:=Ex) (fun s y e=>?_) (fun s o e=>?_) n s0 x hx (fun y e=>?_) (fun z e=>?_)))
  ·rcases hb s _ e with e1 | ⟨o',_,e1⟩
   ·cases e1; rfl
   ·cases o' <;> cases e1
  ·rcases hb s _ e with e1 | ⟨o',e1,e2⟩
   ·exact .inl ⟨s,e1⟩
   ·subst e2
    refine .inr ((round s o' e1).mono fun out ho=>?_)
    cases o' with
    | next s'=>exact ho
    | done x=>exact ho
  ·subst e; exact k1 y h
  ·subst e; exact k2 z h
end
end Go.Ab
namespace Go.Ab
open Go.RowKit
theorem Qmk:∀(es:List (AV × AV)) (i:Nat),Qds i (X1 i es)=some es
 | [],i=>rfl
 | (k,v)::r,i=>by
  simp only [X1,Qds]
  rw [show Nat.beq i i=true from Nat.beq_refl i,show Nat.beq (i+1) (i+1)=true from Nat.beq_refl _]
  simp [Qmk r (i+2)]
theorem Qkb (es:List (AV × AV)):Qcn (mapO es)=some es:=by
 simp [Qcn,mapO,Qmk]
section
variable {P:Program} {α:Type} {enc:α→AV} {kk:IntKind} {kt:TypeId}
end
section
variable {P:Program} {rd:Option Nat} {base:Nat} {ops:Array Oper} {d:Option (List Sk)} {st S:St} {Φ:AOut→Prop} {i:Nat}
theorem Qm0 {P:Program} {nf:Bool} {C:FuncId→List AV→Option Xp} {σ:Sto} {fr:Nat} {s:Slots} {o:Oper} {r:Res}:(Z0 P nf C σ fr s o=some (.val r))=(evalOp P nf C σ fr s o=some (.val r)):=by
 apply propext
 unfold Z0
 split
 ·exact Iff.rfl
 ·cases evalOp P nf C σ fr s o with
  | none=>exact Iff.rfl
  | some y=>cases y <;> simp [Z7]
end
end Go.Ab
namespace Go.Ab
open Go.RowKit
def Qnw (o:Nat) (m:AObj):List Nat → List AObj→List AObj
 | k::ks,y::ys=>(if Nat.beq k o then m else y)::Qnw o m ks ys
 | _,ys=>ys
theorem Qiw {f:Nat → Option Nat} {objs:List AObj} {o:Nat} {e m:AObj} (hm:m.ren f=some m) (ho:o < objs.length):∀(ks:List Nat) (os:List AObj),Jv f (objs.set o e) ks=some os→Jv f (objs.set o m) ks=some (Qnw o m ks os)
 | [],os,h=>by simp [Jv] at h; subst h; rfl
 | k::ks,os,h=>by
  simp only [Jv] at h ⊢
  by_cases c:o=k
  ·subst c
   rw [List.getElem?_set_self ho] at h ⊢
   simp only at h ⊢
   cases hx:e.ren f with
   | none=>rw [hx] at h; cases h
   | some y =>
    rw [hx] at h
    cases hr:Jv f (objs.set o e) ks with
    | none=>rw [hr] at h; cases h
    | some os' =>
     rw [hr] at h
     have ih:=Qiw hm ho ks os' hr
     cases h
     rw [ih,hm]
     simp [Qnw]
  ·rw [List.getElem?_set_ne c] at h ⊢
   cases hk:objs[k]? with
   | none=>rw [hk] at h; cases h
   | some x =>
    rw [hk] at h
    simp only at h ⊢
    cases hx:x.ren f with
    | none=>rw [hx] at h; cases h
    | some y =>
     rw [hx] at h
     cases hr:Jv f (objs.set o e) ks with
     | none=>rw [hr] at h; cases h
     | some os' =>
      rw [hr] at h
      have ih:=Qiw hm ho ks os' hr
      cases h
      rw [ih]
      have:Nat.beq k o=false:=by
       cases e2:Nat.beq k o with
       | false=>rfl
       | true=>exact absurd (Nat.eq_of_beq_eq_true e2).symm c
      simp [Qnw,this]
def Q2a (base:Nat) (live keep:List Nat) (o:Nat) (m:AObj) (st:St):Option St :=
 match Qet base live keep ⟨st.slots,st.objs.set o (mapO []),st.nt⟩ with
 | some s=>some ⟨s.slots,Qnw o m (List.range base++keep) s.objs,s.nt⟩
 | none=>none
end Go.Ab
namespace Go.Ab
open Go.RowKit
def Yo {κ α:Type} (ke:κ→AV) (enc:α→AV) (p:κ × α):AV × AV:=(ke p.1,enc p.2)
def V0 {κ α:Type} (ke:κ→AV) (enc:α→AV) (l:List (κ × α)):AObj:=mapO (l.map (Yo ke enc))
def kget {κ α:Type} (e:κ→κ→Bool):List (κ × α)→κ→Option α
 | [],_=>none
 | p::r,n=>if e n p.1 then some p.2 else kget e r n
def kput {κ α:Type} (e:κ→κ→Bool):List (κ × α)→κ→α→List (κ × α)
 | [],n,v=>[(n,v)]
 | p::r,n,v=>if e n p.1 then (n,v)::r else p::kput e r n v
section
variable {P:Program} {κ α:Type} {ke:κ→AV} {enc:α→AV} {e:κ→κ→Bool} {kt:TypeId}
theorem Qi1 (hk:∀a b,X8 P kt (ke a) (ke b)=some (e a b)) {n:κ}:∀(l:List (κ × α)) (i:Nat),kget e l n=none→Vm (X8 P kt) (ke n) (l.map (Yo ke enc)) i=some none
 | [],i,_=>rfl
 | p::r,i,h=>by
  unfold kget at h
  split at h
  ·cases h
  ·rename_i hc
   simp only [List.map_cons,Yo,Vm,hk]
   rw [show e n p.1=false by simpa using hc]
   exact Qi1 hk r (i+1) h
theorem Qos (hk:∀a b,X8 P kt (ke a) (ke b)=some (e a b)) {n:κ} {v:α}:∀(l:List (κ × α)) (i:Nat),kget e l n=some v→∃j,Vm (X8 P kt) (ke n) (l.map (Yo ke enc)) i=some (some (i+j,enc v))∧∀w,(l.map (Yo ke enc)).set j (Yo ke enc (n,w))=(kput e l n w).map (Yo ke enc)
 | [],i,h=>by cases h
 | p::r,i,h=>by
  unfold kget at h
  split at h
  ·rename_i hc
   cases h
   refine ⟨0,?_,fun w=>?_⟩
   ·simp only [List.map_cons,Yo,Vm,hk,hc,Nat.add_zero]
   ·simp only [kput,hc,if_true,List.map_cons,List.set_cons_zero]
  ·rename_i hc
   have hc':e n p.1=false:=by simpa using hc
   obtain ⟨j,h1,h2⟩:=Qos hk r (i+1) h
   refine ⟨j+1,?_,fun w=>?_⟩
   ·simp only [List.map_cons,Yo,Vm,hk,hc']
    rw [show i+(j+1)=i+1+j by omega]
    exact h1
   ·simp only [kput,hc',List.map_cons,List.set_cons_succ,h2 w]
    simp
theorem Qq6 {n:κ} {w:α}:∀(l:List (κ × α)),kget e l n=none→l.map (Yo ke enc)++[Yo ke enc (n,w)]=(kput e l n w).map (Yo ke enc)
 | [],_=>rfl
 | p::r,h=>by
  unfold kget at h
  split at h
  ·cases h
  ·rename_i hc
   have hc':e n p.1=false:=by simpa using hc
   simp only [kput,hc',List.map_cons,List.cons_append,Qq6 r h]
   simp
end
section
variable {P:Program} {rd:Option Nat} {base:Nat} {ops:Array Oper} {d:Option (List Sk)} {st S:St} {Φ:AOut→Prop} {i:Nat}
noncomputable def Qpb (P:Program) (ops:Array Oper) (i:Nat) (st:St):Option (Nat × TypeId × AV × Bool × AV) :=
 match X2 ops i st with
 | some o=>match o.op with
  | .lookup t x ix c=>match ti P t,evo (lk st.slots) x,evo (lk st.slots) ix with
   | some T,some (.mp ob),some k=>match T.kind with
    | .map kt et=>match (ti P et).bind (·.zero) with
     | some z=>some (ob,kt,k,c,z)
     | _=>none
    | _=>none
   | _,_,_=>none
  | _=>none
 | none=>none
theorem Qxj {κ α:Type} {ke:κ→AV} {enc:α→AV} {e:κ→κ→Bool} {l:List (κ × α)} {n:κ} {z:α} {ob:Nat} {kt:TypeId} {c:Bool} (hi:Qpb P ops i st=some (ob,kt,ke n,c,enc z)) (hk:∀a b,X8 P kt (ke a) (ke b)=some (e a b)) (hrow:st.sto ob=some (V0 ke enc l)) (hok:∀v,(enc v).okv=true)
  (hS:Z5 ops i st (some (if c then .tup [enc ((kget e l n).getD z),.bool (kget e l n).isSome] else enc ((kget e l n).getD z))) []=some S) (k:RW P rd base ops (Zf d [([],[ob])]) (i+1) S Φ):RW P rd base ops d i st Φ:=by
 unfold Qpb at hi
 split at hi
 ·rename_i o ho
  split at hi
  ·rename_i t x ix c' hop
   split at hi
   ·rename_i T ob' k' hT hx hix
    split at hi
    ·rename_i kt et hkind
     split at hi
     ·rename_i z' hz
      cases hi
      refine Vq (nf:=false) (v:=some (if c then .tup [enc ((kget e l n).getD z),.bool (kget e l n).isSome] else enc ((kget e l n).getD z))) (eff:=[]) (fr:=st.objs.length) (rds:=[ob]) ho ?_ hS (Yv hS) k
      rw [Qm0]
      simp only [evalOp,hop]
      unfold Qgf
      have hes:(st.sto ob).bind Qcn=some (l.map (Yo ke enc)):=by rw [hrow]; exact Qkb _
      simp only [hT,hx,hix,hkind,hes,hk,hz]
      cases hg:kget e l n with
      | none =>
       rw [Qi1 hk l 0 hg]
       simp only [hok,if_true,Option.getD_none,Option.isSome_none]
      | some v =>
       obtain ⟨j,h1,_⟩:=Qos (enc:=enc) hk l 0 hg
       rw [h1]
       simp only [hok,if_true,Option.getD_some,Option.isSome_some]
     ·cases hi
    ·cases hi
   ·cases hi
  ·cases hi
 ·cases hi
end
def kpos {κ α:Type} (e:κ→κ→Bool):List (κ × α)→κ→Nat
 | [],_=>0
 | p::r,n=>if e n p.1 then 0 else kpos e r n+1
section
variable {P:Program} {κ α:Type} {ke:κ→AV} {enc:α→AV} {e:κ→κ→Bool} {kt:TypeId}
theorem Qql (hk:∀a b,X8 P kt (ke a) (ke b)=some (e a b)) {n:κ} {v:α}:∀(l:List (κ × α)) (i:Nat),kget e l n=some v→Vm (X8 P kt) (ke n) (l.map (Yo ke enc)) i=some (some (i+kpos e l n,enc v))∧∀w,(l.map (Yo ke enc)).set (kpos e l n) (Yo ke enc (n,w))=(kput e l n w).map (Yo ke enc)
 | [],i,h=>by cases h
 | p::r,i,h=>by
  unfold kget at h
  split at h
  ·rename_i hc
   cases h
   refine ⟨?_,fun w=>?_⟩
   ·simp only [List.map_cons,Yo,Vm,hk,hc,kpos,if_true,Nat.add_zero]
   ·simp only [kput,kpos,hc,if_true,List.map_cons,List.set_cons_zero]
  ·rename_i hc
   have hc':e n p.1=false:=by simpa using hc
   obtain ⟨h1,h2⟩:=Qql hk r (i+1) h
   refine ⟨?_,fun w=>?_⟩
   ·simp only [List.map_cons,Yo,Vm,hk,hc',kpos]
    rw [h1]
    simp only [Bool.false_eq_true,if_false]
    rw [show i+(kpos e r n+1)=i+1+kpos e r n by omega]
   ·simp only [kput,kpos,hc',List.map_cons,Bool.false_eq_true,if_false,List.set_cons_succ,h2 w]
theorem Qqw {n:κ}:∀(l:List (κ × α)),kget e l n=none→kpos e l n=l.length
 | [],_=>rfl
 | p::r,h=>by
  unfold kget at h
  split at h
  ·cases h
  ·rename_i hc
   have hc':e n p.1=false:=by simpa using hc
   simp only [kpos,hc',Bool.false_eq_true,if_false,List.length_cons,Qqw r h]
theorem Qth {n:κ} {v w:α}:∀(l:List (κ × α)),((kput e l n w).map (Yo ke enc))[kpos e l n]?=some (ke n,enc w)∧((kput e l n w).map (Yo ke enc)).set (kpos e l n) (ke n,enc v)=(kput e l n v).map (Yo ke enc)
 | []=>⟨rfl,rfl⟩
 | p::r=>by
  obtain ⟨h1,h2⟩:=Qth (n:=n) (v:=v) (w:=w) r
  by_cases hc:e n p.1=true
  ·simp [kput,kpos,hc,Yo]
  ·have hc':e n p.1=false:=by simpa using hc
   simp only [kput,kpos,hc',Bool.false_eq_true,if_false,List.map_cons,List.getElem?_cons_succ,List.set_cons_succ,h1,h2]
   exact ⟨trivial,trivial⟩
end
section
variable {P:Program} {rd:Option Nat} {base:Nat} {ops:Array Oper} {d:Option (List Sk)} {st S:St} {Φ:AOut→Prop} {i:Nat}
noncomputable def Qvm (P:Program) (ops:Array Oper) (i:Nat) (st:St):Option (Nat × TypeId × AV × AV) :=
 match X2 ops i st with
 | some o=>match o.op with
  | .mapEntry t x ix=>match ti P t,evo (lk st.slots) x,evo (lk st.slots) ix with
   | some T,some (.mp ob),some k=>match T.kind with
    | .map kt et=>match (ti P et).bind (·.zero) with
     | some z=>some (ob,kt,k,z)
     | _=>none
    | _=>none
   | _,_,_=>none
  | _=>none
 | none=>none
noncomputable def Qv7 (ops:Array Oper) (i:Nat) (st:St):Option (Nat × AV × AV) :=
 match X2 ops i st with
 | some o=>match o.op with
  | .entryStore _ m x y=>match evo (lk st.slots) m,evo (lk st.slots) x,evo (lk st.slots) y with
   | some (.mp ob),some k,some v=>some (ob,k,v)
   | _,_,_=>none
  | _=>none
 | none=>none
theorem Q4m {κ α:Type} {ke:κ→AV} {enc:α→AV} {e:κ→κ→Bool} {l:List (κ × α)} {n:κ} {z:α} {ob:Nat} {kt:TypeId} (hi:Qvm P ops i st=some (ob,kt,ke n,enc z)) (hk:∀a b,X8 P kt (ke a) (ke b)=some (e a b)) (hrow:st.sto ob=some (V0 ke enc l)) (hok:∀v,(enc v).okv=true)
  (hS:Z5 ops i st (some (.tup [enc ((kget e l n).getD z),.int .i64 (kpos e l n:Int)])) [(ob,V0 ke enc (kput e l n ((kget e l n).getD z)))]=some S) (hl:Nat.beq S.objs.length st.objs.length=true) (k:RW P rd base ops (Zf d [([ob],[ob])]) (i+1) S Φ):RW P rd base ops d i st Φ:=by
 unfold Qvm at hi
 split at hi
 ·rename_i o ho
  split at hi
  ·rename_i t x ix hop
   split at hi
   ·rename_i T ob' k' hT hx hix
    split at hi
    ·rename_i kt et hkind
     split at hi
     ·rename_i z' hz
      cases hi
      refine Vq (nf:=false) (v:=some (.tup [enc ((kget e l n).getD z),.int .i64 (kpos e l n:Int)])) (eff:=[(ob,V0 ke enc (kput e l n ((kget e l n).getD z)))]) (fr:=st.objs.length) (rds:=[ob]) ho ?_ hS (Nat.eq_of_beq_eq_true hl) k
      rw [Qm0]
      simp only [evalOp,hop]
      unfold Qhm
      have hes:(st.sto ob).bind Qcn=some (l.map (Yo ke enc)):=by rw [hrow]; exact Qkb _
      simp only [hT,hx,hix,hkind,hes,hk,hz]
      cases hg:kget e l n with
      | none =>
       rw [Qi1 hk l 0 hg]
       simp only [hok,if_true,Option.getD_none]
       rw [show (ke n,enc z)=Yo ke enc (n,z) from rfl,Qq6 l hg,Qqw l hg,List.length_map]
       rfl
      | some v =>
       obtain ⟨h1,h2⟩:=Qql (enc:=enc) hk l 0 hg
       rw [h1]
       simp only [hok,if_true,Option.getD_some,Nat.zero_add]
       rw [show (ke n,enc v)=Yo ke enc (n,v) from rfl,h2]
       rfl
     ·cases hi
    ·cases hi
   ·cases hi
  ·cases hi
 ·cases hi
theorem Q3w {κ α:Type} {ke:κ→AV} {enc:α→AV} {e:κ→κ→Bool} {l:List (κ × α)} {n:κ} {v w:α} {ob:Nat} (hi:Qv7 ops i st=some (ob,.int .i64 (kpos e l n:Int),enc v)) (hrow:st.sto ob=some (V0 ke enc (kput e l n w)))
  (hS:Z5 ops i st none [(ob,V0 ke enc (kput e l n v))]=some S) (hl:Nat.beq S.objs.length st.objs.length=true) (k:RW P rd base ops (Zf d [([ob],[ob])]) (i+1) S Φ):RW P rd base ops d i st Φ:=by
 unfold Qv7 at hi
 split at hi
 ·rename_i o ho
  split at hi
  ·rename_i t m x y hop
   split at hi
   ·rename_i ob' k' v' hm hx hy
    cases hi
    refine Vq (nf:=false) (v:=none) (eff:=[(ob,V0 ke enc (kput e l n v))]) (fr:=st.objs.length) (rds:=[ob]) ho ?_ hS (Nat.eq_of_beq_eq_true hl) k
    rw [Qm0]
    simp only [evalOp,hop]
    unfold Qf9
    have hes:(st.sto ob).bind Qcn=some ((kput e l n w).map (Yo ke enc)):=by rw [hrow]; exact Qkb _
    obtain ⟨h1,h2⟩:=Qth (ke:=ke) (enc:=enc) (e:=e) (n:=n) (v:=v) (w:=w) l
    have hx':evo (lk st.slots) x=some (.int .i64 (.ofNat (kpos e l n))):=hx
    simp only [hm,hx',hy,hes,h1,h2]
    rfl
   ·cases hi
  ·cases hi
 ·cases hi
end
theorem Qq0 {κ α:Type} {ke:κ→AV} {enc:α→AV} {f:Nat → Option Nat} (hk:∀v,(ke v).ren f=some (ke v)) (he:∀v,(enc v).ren f=some (enc v)):∀(l:List (κ × α)) (i:Nat),Qna f (X1 i (l.map (Yo ke enc)))=some (X1 i (l.map (Yo ke enc)))
 | [],i=>rfl
 | x::l,i=>by
  simp only [List.map_cons,Yo,X1,Qna,he]
  have h2:=Qq0 hk he l (i+2)
  rw [hk]
  simp only [h2]
theorem Q0w {κ α:Type} {ke:κ→AV} {enc:α→AV} {f:Nat → Option Nat} (hk:∀v,(ke v).ren f=some (ke v)) (he:∀v,(enc v).ren f=some (enc v)) (l:List (κ × α)):(V0 ke enc l).ren f=some (V0 ke enc l):=by
 show AObj.ren f (.loop _ _ _ _ _ _ _)=_
 simp only [AObj.ren,Qq0 hk he l 0]
 rfl
theorem wk_gcK {P:Program} {base:Nat} {st st':St} {live keep:List Nat} (o:Nat) {κ α:Type} (ke:κ→AV) (enc:α→AV) (L:List (κ × α)) (hK:∀f a,(ke a).ren f=some (ke a)) (hE:∀f a,(enc a).ren f=some (enc a)) (ho:st.objs[o]?=some (V0 ke enc L))
  (h:Q2a base live keep o (V0 ke enc L) st=some st'):Wk P base st st':=by
 refine Q4 (live:=live) (keep:=keep) ?_
 unfold Q2a at h
 have hself:st.objs.set o (V0 ke enc L)=st.objs:=by
  obtain ⟨h1,h2⟩:=List.getElem?_eq_some_iff.1 ho
  apply List.ext_getElem?
  intro i
  by_cases e:o=i
  ·subst e; rw [List.getElem?_set_self h1,ho]
  ·rw [List.getElem?_set_ne e]
 cases hg:Qet base live keep ⟨st.slots,st.objs.set o (mapO []),st.nt⟩ with
 | none=>rw [hg] at h; cases h
 | some s =>
  rw [hg] at h
  cases h
  unfold Qet at hg ⊢
  simp only at hg ⊢
  split at hg
  ·rename_i hc
   rw [if_pos hc]
   split at hg
   ·rename_i os hos
    cases hg
    have:=Qiw (Q0w (ke:=ke) (fun a=>hK _ a) (fun a=>hE _ a) L) (List.getElem?_eq_some_iff.1 ho).1 _ _ hos
    rw [hself] at this
    rw [this]
   ·cases hg
  ·cases hg
end Go.Ab
namespace Go.Ab
open Go.RowKit
section
variable {P:Program} {ops:Array Oper} {o:Oper}
end
section
variable {P:Program} {rd:Option Nat} {base:Nat} {ops:Array Oper} {d:Option (List Sk)} {st S:St} {Φ:AOut→Prop} {i:Nat}
theorem Qre (v:Value) (n:Nat):(Builtin.zeroCells #[v] n).toList=List.replicate n v:=by
 apply List.ext_getElem
 ·simp [Builtin.zeroCells]
 ·intro j h1 h2
  simp [Builtin.zeroCells,Nat.mod_one]
end
end Go.Ab
namespace Go.Ab
open Go.RowKit
theorem Vf.trans {ops:Array Oper} {i m k:Nat} (h:Vf ops i m) (h2:Vf ops m k):Vf ops i k:=by
 induction h2 with
 | one hj he hb hon=>exact .more hj he hb (hon ▸ h)
 | more hj he hb _ ih=>exact .more hj he hb ih
section
variable {F:Fence} {n:Nat} {P:Program} {ops:Array Oper} {Q Q':Exit→Act→World→Prop}
end
section
variable {P:Program} {rd:Option Nat} {base:Nat} {ops:Array Oper} {st st':St} {Φ:AOut→Prop}
def Q5a (P:Program) (rd:Option Nat) (base:Nat) (ops:Array Oper) (j:Nat) (Φ:AOut→Prop):AOut→Prop
 | .go .normal st'=>RW P rd base ops none j st' Φ
 | _=>False
end
end Go.Ab
