/- Rules on plain values. No conditions. -/
import Derived.Test.YtiadakgfblkelaaEng6
import Derived.ChangeArms
import Derived.OpenShut
import Derived.WideKeyArgs
import Derived.Test.YtiadakgfblkelaaEng5
import Derived.KernelRfl
set_option linter.all false
namespace Go.Ab
open Go.RowKit
theorem emn_or_nil {M:CM} {ι:Inj} {v:Value} {fl:Bool} (h:RepV M ι v (.lst fl [])):RepV M ι v .nils∨RepV M ι v .emn:=by
 cases h with
 | lst0 a =>
  cases a with
  | none=>exact .inl .nils
  | some a=>exact .inr (.emn a 0)
 | lst b off cap=>exact .inr (.emn _ cap)
theorem CallOk.nil {P:Program} {f:FuncId} {l1 l2:List AV} {fl:Bool} {out:COut} (h1:CallOk P f (l1++.nils::l2) out) (h2:CallOk P f (l1++.emn::l2) out):CallOk P f (l1++.lst fl []::l2) out:=by
 intro W M vs hM hsz hr
 have hlt:l1.length < vs.size:=by simp at hsz; omega
 have h0:=hr l1.length vs[l1.length] (.lst fl []) (by simp [hlt]) (by simp)
 have other:∀y,RepV M noInj vs[l1.length] y→∀(j:Nat) (v:Value) (a:AV),vs[j]?=some v→(l1++y::l2)[j]?=some a→RepV M noInj v a:=by
  intro y hy j v a hv ha
  rcases Nat.lt_trichotomy j l1.length with c | c | c
  ·refine hr j v a hv ?_
   rw [List.getElem?_append_left c] at ha ⊢; exact ha
  ·subst c
   rw [List.getElem?_append_right (Nat.le_refl _)] at ha
   simp at ha; subst ha
   rw [Array.getElem?_eq_getElem hlt] at hv; cases hv; exact hy
  ·refine hr j v a hv ?_
   rw [List.getElem?_append_right (by omega)] at ha ⊢
   rw [show j - l1.length=(j - l1.length - 1)+1 by omega] at ha ⊢
   simpa using ha
 rcases emn_or_nil h0 with e | e
 ·exact h1 W M vs hM (by simpa using hsz) (other _ e)
 ·exact h2 W M vs hM (by simpa using hsz) (other _ e)
theorem RepV.lin_inv {M:CM} {ι:Inj} {v:Value} {o i n:Nat} (h:RepV M ι v (.lin o i n)):RepV M ι v (.ref (fid o i) 0 n):=by cases h; assumption
section
variable {P:Program} {base:Nat} {st st':St}
theorem wk_lin (t:Nat) {o i n:Nat} (h:lk st.slots t=some (.ref (fid o i) 0 n)) (hS:(⟨setS st.slots t (.lin o i n),st.objs,st.nt⟩:St)=st'):Wk P base st st':=by
 subst hS
 intro B W0 D0 dl M ι a W hs
 refine ⟨M,ι,.refl _ _,.refl _ _,⟨hs.rel,fun k y hk=>?_,hs.nt,hs.df,hs.new,hs.big⟩⟩
 have hk:lk (setS st.slots t (.lin o i n)) k=some y:=hk
 rw [lk_setS] at hk
 split at hk
 ·rename_i e; cases hk; subst e; exact .lin _ _ _ (hs.slots _ _ h)
 ·exact hs.slots k y hk
theorem wk_unlin (t:Nat) {o i n:Nat} (h:lk st.slots t=some (.lin o i n)) (hS:(⟨setS st.slots t (.ref (fid o i) 0 n),st.objs,st.nt⟩:St)=st'):Wk P base st st':=by
 subst hS
 intro B W0 D0 dl M ι a W hs
 refine ⟨M,ι,.refl _ _,.refl _ _,⟨hs.rel,fun k y hk=>?_,hs.nt,hs.df,hs.new,hs.big⟩⟩
 have hk:lk (setS st.slots t (.ref (fid o i) 0 n)) k=some y:=hk
 rw [lk_setS] at hk
 split at hk
 ·rename_i e; cases hk; subst e
  exact (hs.slots _ _ h).lin_inv
 ·exact hs.slots k y hk
end
theorem CallOk.froz {P:Program} {f:FuncId} {args:List AV} {v y:AV} {objs:List AObj} {ids:List Nat} (h:CallOk P f args (.ret v objs)) (hs:snap (fun k=>objs[k]?) snapDepth v=some (y,ids)):CallOk P f args (.ret y []):=by
 intro W M vs hM hsz hr
 refine (h W M vs hM hsz hr).mono fun e W' he=>?_
 obtain ⟨u,M',ι',rfl,hg,hrel,hout,hv⟩:=he
 refine ⟨u,_,noInj,rfl,hg.trans (hrel.growC ids),⟨hrel.size,hrel.below,hrel.defs,addM_agree hrel.agree,hrel.cool,fun o bx ro nr fl w xs ho=>(by simp at ho),fun o fn sl ps as bd st pe ho=>(by simp at ho),fun o o' bx nr fl w xs bx' nr' fl' w' xs' p p' _ ho=>(by simp at ho),fun o o' fn sl ps as bd st pe fn' sl' ps' as' bd' st' pe' p p' _ ho=>(by simp at ho),fun o _=>.inl (by simp)⟩,fun _ _=>rfl,snap_sound hrel ids snapDepth v y ids u hs (fun k hk=>hk) hv⟩
def ovr {α:Type} (l:List α) (i:Nat):List α→List α
 | []=>l
 | y::ys=>ovr (l.set i y) (i+1) ys
theorem ovr_len {α:Type}:∀(m l:List α) (i:Nat),l.length=(ovr l i m).length
 | [],l,i=>rfl
 | y::ys,l,i=>by simp only [ovr]; rw [←ovr_len ys (l.set i y) (i+1),List.length_set]
theorem ovr_map {α:Type} (enc:α→AV):∀(m l:List α) (i:Nat),setMany (l.map enc) i (m.map enc)=(ovr l i m).map enc
 | [],l,i=>rfl
 | y::ys,l,i=>by
  simp only [List.map_cons,setMany,ovr]
  rw [←ovr_map enc ys (l.set i y) (i+1),List.map_set]
section
variable {P:Program} {rd:Option Nat} {base:Nat} {ops:Array Oper} {st S:St} {Φ:AOut→Prop} {d:Option (List Sk)} {i:Nat}
def cpInfo (P:Program) (ops:Array Oper) (i:Nat) (st:St):Option (AV × AV × Nat) :=
 match opAt ops i st with
 | some o=>match o.op with
  | .call { callee:=.builtin .copy,args,argTypes }=>match args.toList,argTypes.toList with
   | [x,y],t::_=>match ti P t,evo (lk st.slots) x,evo (lk st.slots) y with
    | some T,some a,some b=>match T.kind with
     | .slice e=>match ti P e with
      | some E=>some (a,b,E.size)
      | none=>none
     | _=>none
    | _,_,_=>none
   | _,_=>none
  | _=>none
 | none=>none
theorem cpInfo_spec {b:AV} {w ob i0 n0:Nat} (hi:cpInfo P ops i st=some (.ref ob i0 n0,b,w)):∃o,opAt ops i st=some o ∧
  ∀ys fl rds nr' fl' xs,elemsOf st.sto w b=some (ys,true,fl,rds)→st.sto ob=some (.row false false nr' fl' w xs)→i0+n0≤xs.length →
   evOp P false noC st.sto st.objs.length (lk st.slots) o=some (.val ⟨some (.int .i64 (min ys.length n0:Nat)),[(ob,.row false false (nr' && true) (fl' && fl) w (setMany xs i0 (ys.take n0)))],st.objs.length,ob::rds⟩):=by
 unfold cpInfo at hi
 split at hi
 ·rename_i o ho
  split at hi
  ·rename_i args ts hop
   split at hi
   ·rename_i x y t tr ha ht
    split at hi
    ·rename_i T a' b' hT hx hy
     split at hi
     ·rename_i e hk
      split at hi
      ·rename_i E hE
       cases hi
       refine ⟨o,ho,?_⟩
       intro ys fl rds nr' fl' xs hel hrow hc
       unfold evOp
       rw [hop]
       simp only [mayPan,Bool.false_eq_true,if_false]
       unfold evalOp
       rw [hop]
       have h2:Nat.ble (i0+n0) xs.length=true:=Nat.ble_eq_true_of_le hc
       simp only [evCopy,ha,ht,hT,hx,hy,hk,hE,hel,hrow,Nat.beq_refl,h2,Bool.and_self,Bool.true_or,if_true,onlyVal]
      ·cases hi
     ·cases hi
    ·cases hi
   ·cases hi
  ·cases hi
 ·cases hi
theorem cpR {α:Type} {enc:α→AV} {l m:List α} {w ob i0 n0:Nat} {nr fl fl':Bool} {b:AV} {rds:List Nat} (hi:cpInfo P ops i st=some (.ref ob i0 n0,b,w)) (hrow:st.sto ob=some (.row false false nr fl w (l.map enc)))
  (hel:elemsOf st.sto w b=some (m.map enc,true,fl',rds)) (hc:i0+n0≤l.length)
  (hS:finI ops i st (some (.int .i64 (min m.length n0:Nat))) [(ob,.row false false (nr && true) (fl && fl') w ((ovr l i0 (m.take n0)).map enc))]=some S) (hl:Nat.beq S.objs.length st.objs.length=true)
  (k:RW P rd base ops (dAdd d [([ob],ob::rds)]) (i+1) S Φ):RW P rd base ops d i st Φ:=by
 obtain ⟨o,ho,hev⟩:=cpInfo_spec hi
 have:=hev (m.map enc) fl' rds nr fl (l.map enc) hel hrow (by simpa using hc)
 rw [List.length_map,←List.map_take,ovr_map] at this
 exact rw_of ho this hS (Nat.eq_of_beq_eq_true hl) k
theorem elems_part {σ:Sto} {α:Type} {enc:α→AV} {l:List α} {w ob:Nat} {a b:Int} {ro nr fl:Bool} (hrow:σ ob=some (.row false ro nr fl w (l.map enc))) (hc:0≤a∧a≤b∧b≤(l.length:Int)) :
  elemsOf σ w (.ref ob a.toNat (b.toNat - a.toNat))=some ((sub l a b).map enc,nr,fl,[ob]):=by
 have h1:Nat.ble (a.toNat + (b.toNat - a.toNat)) (l.map enc).length=true:=Nat.ble_eq_true_of_le (by simp; omega)
 simp [elemsOf,hrow,sub]
 omega
theorem part_le {α:Type} {l:List α} {a b:Int} (hc:0≤a∧a≤b∧b≤(l.length:Int)):a.toNat + (b.toNat - a.toNat)≤l.length:=by omega
theorem full_le {α:Type} {l:List α}:0+l.length≤l.length:=by omega
theorem idxI2 {γ R:Type} {enc:γ→AV} {ls:List (List γ)} {x:List γ} {y:γ} {n c:Int} {w j m:Nat} {fl:Bool} {A:Option R} {r:R} (hi:idxInfo P ops i st=some (.ref (fid j n.toNat) 0 m,c,w)) (hj:st.objs[j]?=some (.fam w fl (eF enc ls)))
  (ha:lkI ls n=some x) (hy:lkI x c=some y) (hb:Nat.blt j BIG=true) (hS:finI ops i st (some (.ptr (fid j n.toNat) c.toNat 0)) []=some S) (h:(if c < (m:Int) then A else none)=some r)
  (k:A=some r→RW P rd base ops (dAdd d [([],[j])]) (i+1) S Φ):RW P rd base ops d i st Φ:=by
 split at h
 ·rename_i hc
  obtain ⟨h1,h2,_⟩:=lkI_lt hy
  exact idxG hi (fam_row hj ha) h1 (by omega) (.inr ⟨of_blt hb,_,rfl⟩) hS (k h)
 ·cases h
theorem rw_same {R:Type} {n m:Nat} {S:Nat → St} {A:Option R} {r:R} (h:(if n=m then A else none)=some r) (k:A=some r→RW P rd base ops d i (S m) Φ):RW P rd base ops d i (S n) Φ:=by
 split at h
 ·rename_i e; rw [e]; exact k h
 ·cases h
end
end Go.Ab
namespace Go.Ab
open Go.RowKit
theorem run_append_zeros {P:Program} {t u ty e:TypeId} {ts:Array TypeId} {i:TypeInfo} {z:Value} {k ku:IntKind} (h0:ts[0]?=some t) (h1:ts[1]?=some u) (ht:P.underlying t=some (.slice e)) (hu:P.underlying u=some (.int ku)) (hi:P.info? e=some i) (hz:i.zero=some z)
  (n:Nat) (hn:0 < n) (hs:0 < i.size) (h63:(n:Int)≤140737488355328) (hb:n*i.bytes≤140737488355328) (W:World) :
  (Builtin.append_ ts ty #[.slice none 0 0,.int k n]).run P W=.ok (.slice (some ⟨W.heap.size,0,none⟩) n (grownCap W n 0 e)) (W.drew.alloc (.cells (Builtin.zeroCells z.cells n++Builtin.zeroCells z.cells (grownCap W n 0 e - n)) e)):=by
 have hn0:n≠0:=by omega
 have hs0:i.size≠0:=by omega
 have hw:IntKind.i64.wrap (n:Int)=n:=by
  simp only [IntKind.wrap,IntKind.signed,IntKind.bits]
  simp; omega
 have h63':¬ (9223372036854775807 < (n:Int)):=by omega
 have hneg:¬ ((n:Int) < 0):=by omega
 have hb2:¬ (281474976710656 < (n:Int)*(i.bytes:Int)):=by
  have:((n*i.bytes:Nat):Int)≤140737488355328:=by omega
  rw [Int.natCast_mul] at this; omega
 have h48':¬ (281474976710656 < Builtin.nextslicecap n 0*i.bytes):=by rw [nextslicecap_zero hn]; omega
 simp [Builtin.append_,h0,h1,run_underlying ht,run_underlying hu,sizeOf,typeInfo,zeroValue,hi,hz,asInt,asIntOf,hw,hneg,hb2,hn0,hs0,h63',h48',Question.forced,run_firstCells_none,newRow,grownCap]
 intro he
 exact absurd he (Nat.mul_ne_zero hn0 hs0)
theorem run_append_zero0 {P:Program} {t u ty e:TypeId} {ts:Array TypeId} {i:TypeInfo} {k ku:IntKind} (h0:ts[0]?=some t) (h1:ts[1]?=some u) (ht:P.underlying t=some (.slice e)) (hu:P.underlying u=some (.int ku)) (hi:P.info? e=some i) (W:World) :
  (Builtin.append_ ts ty #[.slice none 0 0,.int k 0]).run P W=.ok (.slice none 0 0) W:=by
 have hw:IntKind.i64.wrap (0:Int)=0:=by decide
 simp [Builtin.append_,h0,h1,run_underlying ht,run_underlying hu,sizeOf,typeInfo,hi,asInt,asIntOf,hw]
section
variable {P:Program} {rd:Option Nat} {base:Nat} {ops:Array Oper} {st S:St} {Φ:AOut→Prop} {d:Option (List Sk)} {i:Nat}
theorem zeros_done {B:Nat} {W0 W:World} {D:List Nat} {M:CM} {ι:Inj} {σ:Sto} {a:Act} {fr:Nat} {o:Oper} {x y:Operand} {ts:Array TypeId} {t u e:TypeId} {E:TI} {z:AV} {k ku:IntKind} {n:Nat} (h:Rel P B W0 D M ι σ W)
  (ho:o.op=.call { callee:=.builtin .append,args:=#[x,y],argTypes:=ts }) (h0:ts[0]?=some t) (h1:ts[1]?=some u) (ht:P.underlying t=some (.slice e)) (hu:P.underlying u=some (.int ku)) (hE:ti P e=some E) (hz:E.zero=some z)
  (hzok:E.zok=true) (hx:a.eval x=.slice none 0 0) (hy:a.eval y=.int k n) (hroom:roomFor E.bytes n=true) (hpos:0 < E.size) (hfr:ι fr=none) :
  OpDone P B W0 D M ι σ fr a o W ⟨some (.ref fr 0 n),[(fr,.row false false z.nr z.scs E.size (List.replicate n z))],fr+1,[]⟩:=by
 obtain ⟨cs,hrun⟩:=run_call_builtin (P:=P) (W:=W) (a:=a) ho
 obtain ⟨i,zv,hi,hzv,h4,hrep,hsh⟩:=zero_at hE hz
 obtain ⟨i',zv',hi',hzv',hsz,hby,hzs⟩:=zok_at hE hzok
 rw [hi] at hi'; cases hi'
 rw [hzv] at hzv'; cases hzv'
 obtain ⟨r1,r2⟩:=room_at hroom
 rcases Nat.eq_zero_or_pos n with hn | hn
 ·subst hn
  refine ⟨.slice none 0 0,W,M,ι.put fr ⟨B,0,E.size,0⟩,.inl ?_,.refl _ _,Inj.le_put _ hfr,fun k hk=>Inj.put_ne _ _ (by simp at hk; omega),h.virt hfr hpos,fun y hy=>by cases hy; exact .ref0 _ _ _ (Inj.put_same _ _ _) rfl⟩
  rw [hrun]
  simp only [builtin,List.map_toArray,List.map_cons,List.map_nil,Sem.run_bind,hx,hy]
  have:=run_append_zero0 (P:=P) (ty:=o.type) (k:=k) h0 h1 ht hu hi W
  simp only [Int.natCast_zero] at *
  simp only [this,Result.andThen_ok,Sem.run_pure]
 ·have hap:=run_append_zeros (P:=P) (ty:=o.type) (k:=k) h0 h1 ht hu hi hzv n hn (by rw [←h4]; exact hpos) (by omega) (by rw [←hby]; exact r1) W
  have hge:=grownCap_ge W n 0 e
  have key:=h.drew.allocRow (o:=fr) (bx:=false) (nr:=z.nr) (fl:=z.scs) hfr (Builtin.zeroCells zv.cells n++Builtin.zeroCells zv.cells (grownCap W n 0 e - n)) e (w:=E.size) (cap:=grownCap W n 0 e) (xs:=List.replicate n z) hpos (by omega)
   (by simp only [Array.size_append,size_zeroCells,hzs]; rw [←Nat.add_mul]; congr 1; omega) (by simpa using hge)
   (fun x hx=>by have:=List.eq_of_mem_replicate hx; subst this; rw [←hzs]; exact hsh)
   (fun hnr=>by rw [nrL_mem]; intro x hx; have:=List.eq_of_mem_replicate hx; subst this; exact hnr)
   (fun hf x hx=>by have:=List.eq_of_mem_replicate hx; subst this; exact hf)
   (fun a' j y q hi' hj=>by
    obtain ⟨w,hw,hr⟩:=made_cells (hrep M ι) hsh (Nat.le_refl n) a' j y q hi' hj
    rw [hzs] at hw
    have hlt:=(Array.getElem?_eq_some_iff.1 hw).1
    refine ⟨w,?_,hr⟩
    rw [Array.getElem?_append_left (by simp only [size_zeroCells,hzs]; simpa [hzs] using hlt)]
    simp only [Builtin.zeroCells,hzs]
    exact hw)
  refine ⟨.slice (some ⟨W.heap.size,0,none⟩) n (grownCap W n 0 e),_,M,_,.inl ?_,.refl _ _,Inj.le_put _ hfr,fun k hk=>Inj.put_ne _ _ (by simp at hk; omega),key,fun y hy=>?_⟩
  ·rw [hrun]
   simp only [builtin,List.map_toArray,List.map_cons,List.map_nil,Sem.run_bind,hx,hy,hap,Result.andThen_ok,Sem.run_pure]
  ·cases hy
   exact .ref fr 0 _ ⟨W.drew.heap.size,0,E.size,grownCap W n 0 e⟩ 0 _ (Inj.put_same _ _ _) (by simpa using hge) (by simp) (.inl (by simp))
def zapInfo (P:Program) (ops:Array Oper) (i:Nat) (st:St):Option (AV × Int × AV × Nat × Nat) :=
 match opAt ops i st with
 | some o=>match o.op with
  | .call { callee:=.builtin .append,args,argTypes }=>match args.toList,argTypes.toList with
   | [x,y],t::u::_=>match ti P t,ti P u,evo (lk st.slots) x,evo (lk st.slots) y with
    | some T,some U,some a,some (.int _ n)=>match T.kind,U.kind with
     | .slice e,.int _=>match ti P e with
      | some E=>match E.zero with
       | some z=>if E.zok && Nat.blt 0 E.bytes && Nat.blt 0 E.size then some (a,n,z,E.size,E.bytes) else none
       | none=>none
      | none=>none
     | _,_=>none
    | _,_,_,_=>none
   | _,_=>none
  | _=>none
 | none=>none
theorem appZ {α R:Type} {enc:α→AV} {z:α} {n:Int} {w bytes:Nat} {A:Option R} {r:R} (hi:zapInfo P ops i st=some (.nils,n,enc z,w,bytes))
  (hS:finI ops i st (some (.ref st.objs.length 0 (List.replicate n.toNat z).length)) [(st.objs.length,.row false false (enc z).nr (enc z).scs w ((List.replicate n.toNat z).map enc))]=some S) (hl:Nat.beq S.objs.length (st.objs.length+1)=true)
  (h:(if 0≤n∧n*bytes≤140737488355328 then A else none)=some r) (k:A=some r→RW P rd base ops (dAdd d [([st.objs.length],[])]) (i+1) S Φ):RW P rd base ops d i st Φ:=by
 split at h
 ·rename_i hc
  obtain ⟨c1,c2⟩:=hc
  have k:=k h
  unfold zapInfo at hi
  split at hi
  ·rename_i o ho
   split at hi
   ·rename_i args ts hop
    split at hi
    ·rename_i x y t u tr ha hts
     split at hi
     ·rename_i T U a' kk n' hT hU hx hy
      split at hi
      ·rename_i e ku hk hku
       split at hi
       ·rename_i E hE
        split at hi
        ·rename_i zz hz
         split at hi
         ·rename_i hcc
          simp only [Bool.and_eq_true] at hcc
          obtain ⟨⟨q1,q2⟩,q3⟩:=hcc
          cases hi
          obtain ⟨d1,i1,g1,g2,g3,_⟩:=ti_at hT
          obtain ⟨d2,i2,g1',g2',g3',_⟩:=ti_at hU
          rw [g3] at hk; rw [kindOf_slice hk] at g1
          have hku':P.underlying u=some (.int ku):=by
           rw [g3'] at hku
           cases d2 <;> simp [kindOf] at hku
           rw [g1',hku]
          have hargs:=arr2 ha
          subst hargs
          obtain ⟨o1,o2⟩:=opAt_spec ho
          have hroom:roomFor E.bytes n.toNat = true:=by
           refine roomFor_of (blt_lt q2) ?_
           have:((n.toNat * E.bytes:Nat):Int)≤140737488355328:=by rw [Int.natCast_mul,Int.toNat_of_nonneg c1]; exact c2
           omega
          unfold finI at hS
          rw [o1] at hS
          simp only at hS
          split at hS
          ·rename_i objs slots hap hp
           cases hS
           have hlen:=Nat.eq_of_beq_eq_true hl
           simp only at hlen
           refine rw_step (st1:=⟨slots,objs,st.nt⟩) (s:=([st.objs.length],[])) ⟨o,⟨some (.ref st.objs.length 0 (List.replicate n.toNat z).length),[(st.objs.length,.row false false (enc z).nr (enc z).scs E.size ((List.replicate n.toNat z).map enc))],st.objs.length,st.objs.length+1,[]⟩,o1,stepF_mk ?_ rfl hlen.symm hap hp rfl,cov_sk _⟩ k
           intro s' σ' hs' hσ'
           have hloc:=evo_local (ops:=ops) hs'
           rw [hop] at hloc
           refine .inl ⟨by rw [wantedA_local hs']; exact o2,?_⟩
           intro B W0 D M ι a W nn Q r' next hrel hsl hfree hpost
           have hx':=evo_sound hsl (show evo s' x=some AV.nils by rw [hloc x (by simp [Op.operands,Call.operands])]; exact hx)
           have hy':=evo_sound hsl (show evo s' y=some (AV.int kk n) by rw [hloc y (by simp [Op.operands,Call.operands])]; exact hy)
           have hn:a.eval y=.int kk (n.toNat : Int):=by rw [hy'.int_inv,Int.toNat_of_nonneg c1]
           have hdone:=zeros_done (fr:=st.objs.length) hrel hop (by have:=congrArg (fun l=>l[0]?) hts; simpa using this) (by have:=congrArg (fun l=>l[1]?) hts; simpa using this) g1 hku' hE hz q1 hx'.nils_inv hn hroom (blt_lt q3) (hfree _ (.inl ⟨Nat.le_refl _,Nat.lt_succ_self _⟩))
           rw [List.length_replicate,List.map_replicate] at *
           refine wp_of_done hdone (by rw [hop]; simp) ⟨fun res hr v W' M' ι' g1 g2 g3 g4 g5=>?_,fun pv hpv=>by cases hpv⟩
           cases hr
           exact hpost v W' M' ι' g1 g2 (fun k hk=>g3 k (Nat.lt_or_ge k st.objs.length |>.imp_right fun h1=>Nat.le_of_not_lt fun h2=>hk (.inl ⟨h1,h2⟩))) g4 g5
          ·cases hS
         ·cases hi
        ·cases hi
       ·cases hi
      ·cases hi
     ·cases hi
    ·cases hi
   ·cases hi
  ·cases hi
 ·cases h
end
end Go.Ab
namespace Go.Ab
open Go.RowKit
inductive Sh where
 | int (k:IntKind)
 | bool
 | str
 | slice (fl ag:Bool) (w:Nat) (e:Sh)
 | cat (a b:Sh)
 | unit
def Sh.scal:Sh→Bool
 | .slice ..=>false
 | .cat a b=>a.scal && b.scal
 | _=>true
def Sh.width:Sh→Nat
 | .cat a b=>a.width+b.width
 | .unit=>0
 | _=>1
def WT:Sh→List AV→Prop
 | .int k,cs=>∃n,cs=[.int k n]∧(Lit.int k n).wf=true
 | .bool,cs=>∃b,cs=[.bool b]
 | .str,cs=>∃s,cs=[.str s]∧s.size≤maxLen
 | .slice fl ag w e,cs=>∃xs,cs=[.lst fl xs]∧xs.length≤maxLen∧∀x∈xs,WT e x.flat ∧ (if ag then x=.agg x.flat else x.cell=true)
 | .cat a b,cs=>∃x y,cs=x++y∧WT a x∧WT b y
 | .unit,cs=>cs=[]
def isAggT (P:Program) (t:TypeId):Bool:=match P.underlying t with | some (.struct _)=>true | _=>false
def shFields (P:Program) (rec:TypeId→Option Sh):List Field→Nat → Option Sh
 | [],_=>some .unit
 | f::r,o=>match rec f.type with
  | some s=>if Nat.beq f.offset o && Nat.beq s.width (P.cellsOf f.type) then (match shFields P rec r (o+s.width) with | some q=>some (.cat s q) | none=>none) else none
  | none=>none
def shOf (P:Program):Nat → TypeId→Option Sh
 | 0,_=>none
 | n+1,t=>match P.underlying t with
  | some .bool=>some .bool
  | some (.int k)=>some (.int k)
  | some .string=>some .str
  | some (.slice e)=>match shOf P n e with
   | some s=>if Nat.beq s.width (P.cellsOf e) && Nat.blt 0 (P.cellsOf e) && (isAggT P e || Nat.beq s.width 1) then some (.slice s.scal (isAggT P e) (P.cellsOf e) s) else none
   | none=>none
  | some (.struct fs)=>match shFields P (shOf P n) fs.toList 0 with
   | some s=>if Nat.beq s.width (P.cellsOf t) then some s else none
   | none=>none
  | _=>none
theorem WT_len:∀{s:Sh} {cs:List AV},WT s cs→cs.length=s.width
 | .int k,cs,h=>by obtain ⟨n,rfl,_⟩:=h; rfl
 | .bool,cs,h=>by obtain ⟨n,rfl⟩:=h; rfl
 | .str,cs,h=>by obtain ⟨n,rfl,_⟩:=h; rfl
 | .slice _ _ _ _,cs,h=>by obtain ⟨n,rfl,_⟩:=h; rfl
 | .cat a b,cs,h=>by obtain ⟨x,y,rfl,h1,h2⟩:=h; simp [Sh.width,WT_len h1,WT_len h2]
 | .unit,cs,h=>by cases h; rfl
theorem WT_scal:∀{s:Sh} {cs:List AV},WT s cs→s.scal=true→cs.all AV.sc=true
 | .int k,cs,h,_=>by obtain ⟨n,rfl,_⟩:=h; rfl
 | .bool,cs,h,_=>by obtain ⟨n,rfl⟩:=h; rfl
 | .str,cs,h,_=>by obtain ⟨n,rfl,_⟩:=h; rfl
 | .slice _ _ _ _,cs,h,hs=>by cases hs
 | .cat a b,cs,h,hs=>by
  obtain ⟨x,y,rfl,h1,h2⟩:=h
  simp only [Sh.scal,Bool.and_eq_true] at hs
  rw [List.all_append,WT_scal h1 hs.1,WT_scal h2 hs.2]; rfl
 | .unit,cs,h,_=>by cases h; rfl
def CellsOk (M:CM) (cs:List Value) (avs:List AV):Prop:=avs.length=cs.length∧∀(j:Nat) (v:Value) (y:AV),cs[j]?=some v→avs[j]?=some y→RepV M noInj v y∧y.cell=true
theorem cellsOk_one {M:CM} {v:Value} {y:AV} (h:RepV M noInj v y) (hc:y.cell=true):CellsOk M [v] [y]:=by
 refine ⟨rfl,fun j v' y' h1 h2=>?_⟩
 cases j with
 | zero=>cases h1; cases h2; exact ⟨h,hc⟩
 | succ j=>simp at h1
theorem cellsOk_append {M:CM} {a b:List Value} {x y:List AV} (h1:CellsOk M a x) (h2:CellsOk M b y):CellsOk M (a++b) (x++y):=by
 refine ⟨by simp [h1.1,h2.1],fun j v z hv hz=>?_⟩
 rcases Nat.lt_or_ge j a.length with hj | hj
 ·rw [List.getElem?_append_left hj] at hv
  rw [List.getElem?_append_left (by rw [h1.1]; exact hj)] at hz
  exact h1.2 j v z hv hz
 ·rw [List.getElem?_append_right hj] at hv
  rw [List.getElem?_append_right (by rw [h1.1]; exact hj),h1.1] at hz
  exact h2.2 _ v z hv hz
theorem choose_list {α:Type} {n:Nat} {Q:Nat → α→Prop} (h:∀i,i < n→∃x,Q i x):∃xs:List α,xs.length=n∧∀i x,xs[i]?=some x→Q i x:=by
 induction n with
 | zero=>exact ⟨[],rfl,fun i x hx=>by simp at hx⟩
 | succ n ih =>
  obtain ⟨xs,h1,h2⟩:=ih fun i hi=>h i (by omega)
  obtain ⟨x,hx⟩:=h n (by omega)
  refine ⟨xs++[x],by simp [h1],fun i y hy=>?_⟩
  rcases Nat.lt_or_ge i xs.length with hi | hi
  ·rw [List.getElem?_append_left hi] at hy; exact h2 i y hy
  ·rw [List.getElem?_append_right hi] at hy
   cases hk:i - xs.length with
   | zero =>
    rw [hk] at hy
    cases hy
    rw [show i=n by omega]; exact hx
   | succ k=>rw [hk] at hy; simp at hy
def memOf (w:World):CM:=fun b o=>w.cell? ⟨b,o,none⟩
theorem mapM_some {α β:Type} {f:α→Option β}:∀{l:List α} {r:List β},l.mapM f=some r→r.length=l.length∧∀(i:Nat) (a:α),l[i]?=some a→f a=r[i]?
 | [],r,h=>by simp at h; subst h; simp
 | a::l,r,h=>by
  simp only [List.mapM_cons,Option.pure_def,Option.bind_eq_bind,Option.bind_eq_some_iff] at h
  obtain ⟨b,hb,bs,hbs,h⟩:=h
  cases h
  obtain ⟨h1,h2⟩:=mapM_some hbs
  refine ⟨by simp [h1],fun i x hx=>?_⟩
  cases i with
  | zero=>cases hx; simpa using hb
  | succ i=>simpa using h2 i x (by simpa using hx)
theorem cells_at {w:World} {base:Nat} {a:Addr} {n:Nat} {row:List Value} (h:w.cells? base a n=some row):row.length=n∧∀i,i < n→w.cell? (a.add i)=row[i]?:=by
 unfold World.cells? at h
 split at h
 ·obtain ⟨h1,h2⟩:=mapM_some h
  refine ⟨by simpa using h1,fun i hi=>h2 i i (by simp [hi])⟩
 ·cases h
theorem cell_spot {w:World} {a:Addr} {v:Value} (h:w.cell? a=some v):a.spot=none:=by
 unfold World.cell? at h
 cases hs:a.spot with
 | none=>rfl
 | some s =>
  simp only [hs] at h
  split at h <;> simp at h
theorem add_zero' (a:Addr):a.add 0=a:=by simp [Addr.add]
theorem add_none (b off k:Nat):(⟨b,off,none⟩:Addr).add k=⟨b,off+k,none⟩:=by
 unfold Addr.add
 split
 ·rename_i h; subst h; rfl
 ·rfl
section
variable {H:Type} {enc:TypeId × Value→H} {P:Program} {w:World} {base:Nat}
theorem fields_rep {cs:List Value} {m:Nat} {rec:TypeId→Option Sh} (ih:∀(t:TypeId) (s:Sh),rec t=some s→∀(cs:List Value) (x:DataW H × List MemPlace),DataW.trod enc P w base (fun _=>true) true m t cs=some x→∃avs,CellsOk (memOf w) cs avs∧WT s avs) :
  ∀(l:List Field) (o:Nat) (s:Sh),shFields P rec l o=some s→(∀f∈l,∃x,DataW.trod enc P w base (fun _=>true) true m f.type ((cs.drop f.offset).take (P.cellsOf f.type))=some x)→∃avs,CellsOk (memOf w) ((cs.drop o).take s.width) avs∧WT s avs
 | [],o,s,h,_=>by
  cases h
  exact ⟨[],⟨by simp [Sh.width],fun j v y h1 h2=>by simp at h2⟩,rfl⟩
 | f::l,o,s,h,hf=>by
  unfold shFields at h
  split at h
  ·rename_i s1 hs1
   split at h
   ·rename_i hc
    split at h
    ·rename_i q hq
     cases h
     simp only [Bool.and_eq_true] at hc
     have h1:=Nat.eq_of_beq_eq_true hc.1
     have h2:=Nat.eq_of_beq_eq_true hc.2
     obtain ⟨x,hx⟩:=hf f (by simp)
     rw [h1,←h2] at hx
     obtain ⟨a1,c1,w1⟩:=ih _ _ hs1 _ _ hx
     obtain ⟨a2,c2,w2⟩:=fields_rep ih l (o+s1.width) q hq (fun g hg=>hf g (by simp [hg]))
     refine ⟨a1++a2,?_,a1,a2,rfl,w1,w2⟩
     have e:(cs.drop o).take (s1.width+q.width)=(cs.drop o).take s1.width++(cs.drop (o+s1.width)).take q.width:=by
      rw [List.take_add,List.drop_drop]
     simp only [Sh.width]
     rw [e]
     exact cellsOk_append c1 c2
    ·cases h
   ·cases h
  ·cases h
theorem flat_agg (cs:List AV):(AV.agg cs).flat = cs:=rfl
theorem trod_rep:∀(n:Nat) (t:TypeId) (s:Sh),shOf P n t=some s→∀(m:Nat) (cs:List Value) (x:DataW H × List MemPlace),DataW.trod enc P w base (fun _=>true) true m t cs=some x→∃avs,CellsOk (memOf w) cs avs∧WT s avs
 | 0,t,s,h=>by simp [shOf] at h
 | n+1,t,s,h=>by
  intro m cs x hx
  unfold shOf at h
  split at h
  ·rename_i ht
   cases h
   obtain ⟨b,rfl,_⟩:=DataW.trod_bool ht hx
   exact ⟨[.bool b],cellsOk_one (.bool b) rfl,b,rfl⟩
  ·rename_i k ht
   cases h
   obtain ⟨z,rfl,_,hw⟩:=DataW.trod_int ht hx
   exact ⟨[.int k z],cellsOk_one (.int k z) rfl,z,rfl,hw⟩
  ·rename_i ht
   cases h
   obtain ⟨z,rfl,_,hw⟩:=DataW.trod_string ht hx
   exact ⟨[.str z],cellsOk_one (.str z) rfl,z,rfl,hw⟩
  ·rename_i e ht
   split at h
   ·rename_i s1 hs1
    split at h
    ·rename_i hc
     cases h
     simp only [Bool.and_eq_true,Bool.or_eq_true] at hc
     obtain ⟨⟨hw,hpos⟩,hag⟩:=hc
     have hw:=Nat.eq_of_beq_eq_true hw
     have hpos:0 < P.cellsOf e:=by simpa using hpos
     rcases DataW.trod_slice ht hx with ⟨rfl,_⟩ | ⟨a,len,cap,elems,rest,n',_,rfl,_,hb,hl,hm,hlen,hel,hsp,_⟩
     ·exact ⟨[.lst s1.scal []],cellsOk_one (.lst0 none _) rfl,[],rfl,by simp,fun x hx=>by cases hx⟩
     ·have hsp:=hsp rfl
      have hspot:0 < cap→a.spot=none:=fun hcap=>by
       have key:∃row,w.cells? base a (P.cellsOf e)=some row:=by
        rcases Nat.eq_zero_or_pos len with h0 | h0
        ·have:=hsp.2 0 (by omega)
         rw [List.getElem?_eq_getElem (by omega)] at this
         obtain ⟨row,h1,_⟩:=Option.bind_eq_some_iff.1 this
         rw [h0,Nat.add_zero,Nat.zero_mul,add_zero'] at h1
         exact ⟨row,h1⟩
        ·have:=hel 0 h0
         rw [List.getElem?_eq_getElem (by omega)] at this
         obtain ⟨row,h1,_⟩:=Option.bind_eq_some_iff.1 this
         rw [Nat.zero_mul,add_zero'] at h1
         exact ⟨row,h1⟩
       obtain ⟨row,hk⟩:=key
       obtain ⟨h1,h2⟩:=cells_at hk
       have h3:=h2 0 hpos
       rw [List.getElem?_eq_getElem (by omega),add_zero'] at h3
       exact cell_spot h3
      rcases Nat.eq_zero_or_pos cap with h0 | h0
      ·have hl0:len=0:=by omega
       subst h0; subst hl0
       exact ⟨[.lst s1.scal []],cellsOk_one (.lst0 _ _) rfl,[],rfl,by simp,fun x hx=>by cases hx⟩
      ·have hspot:=hspot h0
       obtain ⟨blk,off,spot⟩:=a
       simp only at hspot
       subst hspot
       have each:∀i,i < len→∃z:AV,z.shaped (P.cellsOf e)∧WT s1 z.flat ∧ (if isAggT P e then z=.agg z.flat else z.cell=true)∧∀(j:Nat) (y:AV),z.flat[j]?=some y→∃v,w.cell? ⟨blk,off+i*P.cellsOf e+j,none⟩=some v∧RepV (memOf w) noInj v y:=by
        intro i hi
        have h1:=hel i hi
        rw [List.getElem?_eq_getElem (by omega)] at h1
        obtain ⟨row,h2,h3⟩:=Option.bind_eq_some_iff.1 h1
        obtain ⟨avs,c1,w1⟩:=trod_rep n e s1 hs1 _ _ _ h3
        obtain ⟨g1,g2⟩:=cells_at h2
        have hlen':=WT_len w1
        have cellv:∀(j:Nat) (y:AV),avs[j]?=some y→∃v,w.cell? ⟨blk,off+i*P.cellsOf e+j,none⟩=some v∧RepV (memOf w) noInj v y∧y.cell=true:=fun j y hy=>by
         have hj:=(List.getElem?_eq_some_iff.1 hy).1
         have h5:=g2 j (by omega)
         have h6:row[j]?=some row[j]:=List.getElem?_eq_getElem (by rw [←c1.1]; exact hj)
         rw [h6] at h5
         refine ⟨_,?_,c1.2 j _ y h6 hy⟩
         rw [add_none,add_none] at h5
         exact h5
        by_cases ha:isAggT P e=true
        ·refine ⟨.agg avs,⟨.inl rfl,by rw [flat_agg]; omega,fun y hy=>?_⟩,w1,by rw [if_pos ha]; rfl,fun j y hy=>?_⟩
         ·rw [flat_agg] at hy
          obtain ⟨j,hj⟩:=List.mem_iff_getElem?.1 hy
          obtain ⟨_,_,_,h⟩:=cellv j y hj
          exact h
         ·obtain ⟨v,h1,h2,_⟩:=cellv j y hy
          exact ⟨v,h1,h2⟩
        ·have h1:s1.width=1:=by
          rcases hag with h | h
          ·exact absurd h ha
          ·exact Nat.eq_of_beq_eq_true h
         obtain ⟨z,rfl⟩:∃z,avs=[z]:=by
          match avs,hlen' with
          | [z],_=>exact ⟨z,rfl⟩
          | [],h=>simp [h1] at h
          | _::_::_,h=>simp [h1] at h
         obtain ⟨v,hv,hr,hcell⟩:=cellv 0 z rfl
         have hflat : z.flat = [z]:=by cases z <;> simp_all [AV.flat,AV.cell]
         refine ⟨z,⟨.inr hcell,by rw [hflat]; simp; omega,fun y hy=>by rw [hflat] at hy; simp at hy; rw [hy]; exact hcell⟩,by rw [hflat]; exact w1,by rw [if_neg ha]; exact hcell,fun j y hy=>?_⟩
         rw [hflat] at hy
         cases j with
         | zero=>cases hy; exact ⟨v,by simpa using hv,hr⟩
         | succ j=>simp at hy
       obtain ⟨xs,hxl,hxs⟩:=choose_list each
       refine ⟨[.lst s1.scal xs],cellsOk_one ?_ rfl,xs,rfl,by omega,fun z hz=>?_⟩
       ·have:=RepV.lst (M:=memOf w) (ι:=noInj) blk off cap (P.cellsOf e) s1.scal xs (fun i j=>(w.cell? ⟨blk,off+i*P.cellsOf e+j,none⟩).getD default) (by omega)
         (fun hfl z hz=>by
          obtain ⟨i,hi⟩:=List.mem_iff_getElem?.1 hz
          exact WT_scal (hxs i z hi).2.1 hfl)
         (fun z hz=>by
          obtain ⟨i,hi⟩:=List.mem_iff_getElem?.1 hz
          exact (hxs i z hi).1)
         (fun i j z y hz hy=>by
          obtain ⟨v,h1,h2⟩:=(hxs i z hz).2.2.2 j y hy
          simp only [memOf]
          rw [h1]; rfl)
         (fun i j z y hz hy=>by
          obtain ⟨v,h1,h2⟩:=(hxs i z hz).2.2.2 j y hy
          rw [h1]; exact h2)
        rwa [hxl] at this
       ·obtain ⟨i,hi⟩:=List.mem_iff_getElem?.1 hz
        exact ⟨(hxs i z hi).2.1,(hxs i z hi).2.2.1⟩
    ·cases h
   ·cases h
  ·rename_i fs ht
   split at h
   ·rename_i s1 hs1
    split at h
    ·rename_i hw
     cases h
     have hw:=Nat.eq_of_beq_eq_true hw
     obtain ⟨xs,n',_,_,hl,hxs,hf⟩:=DataW.trod_struct ht hx
     obtain ⟨avs,c1,w1⟩:=fields_rep (cs:=cs) (m:=n') (rec:=shOf P n) (fun t s hs cs x hx=>trod_rep n t s hs _ _ _ hx) fs.toList 0 s hs1 (fun f hf'=>by
      obtain ⟨i,hi⟩:=List.mem_iff_getElem?.1 hf'
      have h1:=hf i f (by simpa using hi)
      have hi':=(List.getElem?_eq_some_iff.1 hi).1
      rw [List.getElem?_eq_getElem (by rw [hxs]; simpa using hi')] at h1
      exact ⟨_,h1⟩)
     refine ⟨avs,?_,w1⟩
     rw [List.drop_zero,List.take_of_length_le (by omega)] at c1
     exact c1
    ·cases h
   ·cases h
  ·cases h
theorem arg_struct {t:TypeId} {s:Sh} {v:Value} {d:DataW H} {ps:List MemPlace} {b0:Nat} (n:Nat) (hs:shOf P n t=some s) (ha:isAggT P t=true) (hok:Value.okWide P w .any b0 t v)
  (h:DataW.Trod enc P w base (fun _=>true) true t v d ps):∃avs,RepV (memOf w) noInj v (.agg avs)∧WT s avs:=by
 obtain ⟨m,hm⟩:=h
 obtain ⟨avs,c1,w1⟩:=trod_rep n t s hs m _ _ hm
 have hv:∃cs,v=.agg cs:=by
  unfold isAggT at ha
  unfold Value.okWide at hok
  split at ha
  ·rename_i fs hfs
   rw [hfs] at hok
   obtain ⟨cs,h1,_⟩:=hok
   exact ⟨cs,h1⟩
  ·cases ha
 obtain ⟨cs,rfl⟩:=hv
 refine ⟨avs,.agg cs avs (by simpa [Value.cells] using c1.1.symm) (fun y hy=>?_) (fun j u y hu hy=>?_),w1⟩
 ·obtain ⟨j,hj⟩:=List.mem_iff_getElem?.1 hy
  have hj':=(List.getElem?_eq_some_iff.1 hj).1
  rw [c1.1] at hj'
  exact (c1.2 j _ y (List.getElem?_eq_getElem hj') hj).2
 ·exact (c1.2 j u y (by simpa [Value.cells] using hu) hy).1
end
theorem sameAt_of {W W':World} (h:∀b,b < W.heap.size→W'.heap[b]?=W.heap[b]?) {p:MemPlace} (hp:p.block < W.heap.size):W.sameAt W' p:=by
 cases p with
 | cell b off =>
  show W'.cell? ⟨b,off,none⟩=W.cell? ⟨b,off,none⟩
  unfold World.cell?
  rw [h b hp]
 | map b=>exact h b hp
theorem calls_args {P:Program} {f:FuncId} {args:List AV} {b:Bool} (h:CallOk P f args (.ret (.bool b) [])) {W:World} {vs:Array Value} (hl:vs.size=args.length)
  (hr:∀(j:Nat) (v:Value) (a:AV),vs[j]?=some v→args[j]?=some a→RepV (memOf W) noInj v a):Calls P f vs W fun e W'=>e=.returned (.bool b)∧Grown W W'∧∀b,b < W.heap.size→W'.heap[b]?=W.heap[b]?:=by
 refine (h W (memOf W) vs (fun _ _ _ h=>h) hl hr).mono fun e W' he=>?_
 obtain ⟨v,M',ι',he,_,hrel,_,hv⟩:=he
 cases hv
 exact ⟨he,grown_of hrel.below hrel.cool,fun b hb=>hrel.below.block b hb⟩
theorem flat_cell {x:AV} (h:x.cell=true):x.flat = [x]:=by cases x <;> simp_all [AV.flat,AV.cell]
theorem lists_of {α:Type} {enc:α→AV} {R:α→Prop} {xs:List AV} (h:∀x∈xs,∃a,x=enc a∧R a):∃l:List α,xs=l.map enc∧∀a∈l,R a:=by
 induction xs with
 | nil=>exact ⟨[],rfl,fun n hn=>by cases hn⟩
 | cons x xs ih =>
  obtain ⟨l,rfl,hl⟩:=ih fun y hy=>h y (by simp [hy])
  obtain ⟨a,rfl,ha⟩:=h x (by simp)
  refine ⟨a::l,rfl,fun m hm=>?_⟩
  rcases List.mem_cons.1 hm with rfl | hm
  ·exact ha
  ·exact hl m hm
end Go.Ab
namespace Go.Ab
open Go.RowKit
def isCellT (P:Program) (t:TypeId):Bool:=match P.underlying t with | some (.int _)=>true | some .bool=>true | some .string=>true | some (.slice _)=>true | _=>false
section
variable {H:Type} {enc:TypeId × Value→H} {P:Program} {w:World} {base:Nat}
theorem arg_cell {t:TypeId} {s:Sh} {v:Value} {d:DataW H} {ps:List MemPlace} {b0:Nat} (n:Nat) (hs:shOf P n t=some s) (ha:isCellT P t=true) (hok:Value.okWide P w .any b0 t v)
  (h:DataW.Trod enc P w base (fun _=>true) true t v d ps):∃y,RepV (memOf w) noInj v y∧WT s [y]:=by
 obtain ⟨m,hm⟩:=h
 obtain ⟨avs,c1,w1⟩:=trod_rep n t s hs m _ _ hm
 have hv:v.cells=#[v]:=by
  cases v with
  | agg cs =>
   exfalso
   unfold isCellT at ha
   unfold Value.okWide at hok
   split at ha <;> (rename_i hu; first | (rw [hu] at hok; unfold Cell.okWide at hok; rw [hu] at hok; unfold Cell.ok at hok; rw [hu] at hok; exact hok) | cases ha)
  | _=>rfl
 rw [hv] at c1
 obtain ⟨h1,h2⟩:=c1
 simp at h1
 obtain ⟨y,rfl⟩:∃y,avs=[y]:=List.length_eq_one_iff.1 h1
 exact ⟨y,(h2 0 v y rfl rfl).1,w1⟩
end
end Go.Ab
namespace Go.Ab
section
variable {P:Program} {rd:Option Nat} {base:Nat} {ops:Array Oper} {st S:St} {Φ:AOut→Prop} {d:Option (List Sk)} {i:Nat} {c y:Code}
theorem sgz (k j:Nat) {S:St} (hk:RW P rd base ops none j S Φ) (h:runSt P false ops k i st=some S:=by as_aux_lemma=>kernel_rfl) (hj:i+k=j:=by rfl):RW P rd base ops none i st Φ:=sg false k j h hj hk
theorem sgy (k j:Nat) {S:St} (hk:RW P rd base ops (dAdd d (runSk P false ops k i st)) j S Φ) (h:runSt P false ops k i st=some S:=by as_aux_lemma=>kernel_rfl) (hj:i+k=j:=by rfl):RW P rd base ops d i st Φ:=sg false k j h hj hk
theorem rgN {id:Nat} {S:St} (hk:Φ (.go .normal S)) (h:runSt P false ops ops.size 0 st=some S:=by as_aux_lemma=>kernel_rfl):WP P rd base (.region id ops false) st Φ :=
 reg_in (sg false ops.size ops.size h (Nat.zero_add _) (reg_end rfl hk))
theorem sqN {id:Nat} {S:St} (hk:WP P rd base y S Φ) (h:runSt P false ops ops.size 0 st=some S:=by as_aux_lemma=>kernel_rfl):WP P rd base (.seq (.region id ops false) y) st Φ :=
 wp_seq (rgN hk h)
theorem wgc (live keep:List Nat) (S:St) (hk:WP P rd base c S Φ) (h:gcSt base live keep st=some S:=by as_aux_lemma=>kernel_rfl):WP P rd base c st Φ:=wp_wk (wk_gc h) hk
theorem rga {id:Nat} (hm:P.follows .mixedOrders=true) (h:RW P rd base ops (some []) 0 st Φ) (hB:lexF ops=true:=by as_aux_lemma=>kernel_rfl):WP P rd base (.region id ops true) st Φ:=reg_any (by simp [hm]) (lexF_ok hB) h
def gt (o:Option St) (d:St):St:=match o with | some S=>S | none=>d
noncomputable def nx (P:Program) (ops:Array Oper) (k i:Nat) (st:St):St:=gt (runSt P false ops k i st) st
noncomputable def gx (base:Nat) (live keep:List Nat) (st:St):St:=gt (gcSt base live keep st) st
noncomputable def lx (P:Program) (ops:Array Oper) (i:Nat) (st:St) (hv he:List LK) (b:Bool):St:=gt (runL P false ops i st hv he b) st
theorem get_of {o:Option St} {d:St} (h:o.isSome=true):o=some (gt o d):=by
 cases o with
 | none=>cases h
 | some S=>rfl
theorem sz (k j:Nat) (hk:RW P rd base ops none j (nx P ops k i st) Φ) (h:(runSt P false ops k i st).isSome=true:=by as_aux_lemma=>kernel_rfl) (hj:i+k=j:=by rfl):RW P rd base ops none i st Φ:=sg false k j (get_of h) hj hk
theorem sy (k j:Nat) (hk:RW P rd base ops (dAdd d (runSk P false ops k i st)) j (nx P ops k i st) Φ) (h:(runSt P false ops k i st).isSome=true:=by as_aux_lemma=>kernel_rfl) (hj:i+k=j:=by rfl):RW P rd base ops d i st Φ:=sg false k j (get_of h) hj hk
theorem rn {id:Nat} (hk:Φ (.go .normal (nx P ops ops.size 0 st))) (h:(runSt P false ops ops.size 0 st).isSome=true:=by as_aux_lemma=>kernel_rfl):WP P rd base (.region id ops false) st Φ:=rgN hk (get_of h)
theorem sq {id:Nat} (hk:WP P rd base y (nx P ops ops.size 0 st) Φ) (h:(runSt P false ops ops.size 0 st).isSome=true:=by as_aux_lemma=>kernel_rfl):WP P rd base (.seq (.region id ops false) y) st Φ:=sqN hk (get_of h)
theorem wg (live keep:List Nat) (hk:WP P rd base c (gx base live keep st) Φ) (h:(gcSt base live keep st).isSome=true:=by as_aux_lemma=>kernel_rfl):WP P rd base c st Φ:=wgc live keep _ hk (get_of h)
theorem sl (nf:Bool) (hv he:List LK) (b:Bool) (hn:nf=false) (hk:RW P rd base ops (dAdd d [runLSk P nf ops i st]) (i+1) (lx P ops i st hv he b) Φ) (h:(runL P false ops i st hv he b).isSome=true:=by as_aux_lemma=>kernel_rfl):RW P rd base ops d i st Φ:=by
 subst hn; exact sgL false hv he b (get_of h) hk
theorem wbr {R:Type} {b:Bool} {S:Bool→St} {A B:Option R} {r:R} (h:(if b=true then A else B)=some r) (h1:b=true→A=some r→WP P rd base c (S true) Φ) (h2:b=false→B=some r→WP P rd base c (S false) Φ) (hS:st=S b:=by as_aux_lemma=>kernel_rfl):WP P rd base c st Φ:=by
 rw [hS]; exact wp_br h h1 h2
theorem wwh {σ ρ R:Type} {n:Nat} {body:σ→Option (Step σ ρ)} {K:ρ→Option R} {r:R} {s0:σ} (h:(whileN n body s0).bind K=some r) (I:σ→St) (Ex:ρ→AOut→Prop) (hw:Wk P base st (I s0))
  (round:∀s o,body s=some o→WP P rd base c (I s) (RoundIs' P base I Ex o)) (k:∀x,K x=some r→∀out,Ex x out→Φ out):WP P rd base (.loop c) st Φ:=wp_while s0 hw h round k
theorem wbz {R:Type} {b:Bool} {A B:Option R} {r:R} {x:Code} {op:Operand} (h:(if b=true then A else B)=some r) (h1:b=true→A=some r→WP P rd base x st Φ) (h2:b=false→B=some r→WP P rd base y st Φ)
  (he:evo (lk st.slots) op=some (.bool b):=by as_aux_lemma=>kernel_rfl):WP P rd base (.cond op x y) st Φ:=wp_cond he (fun hb=>h1 hb (by rw [hb] at h; simpa using h)) (fun hb=>h2 hb (by rw [hb] at h; simpa using h))
theorem rwg (live keep:List Nat) (hk:RW P rd base ops none i (gx base live keep st) Φ) (h:(gcSt base live keep st).isSome=true:=by as_aux_lemma=>kernel_rfl):RW P rd base ops none i st Φ:=rw_wk (wk_gc (get_of h)) hk
theorem wcT {x:Code} {op:Operand} (h:WP P rd base x st Φ) (he:evo (lk st.slots) op=some (.bool true):=by as_aux_lemma=>kernel_rfl):WP P rd base (.cond op x y) st Φ:=wp_condT he h
theorem wcF {x:Code} {op:Operand} (h:WP P rd base y st Φ) (he:evo (lk st.slots) op=some (.bool false):=by as_aux_lemma=>kernel_rfl):WP P rd base (.cond op x y) st Φ:=wp_condF he h
theorem rgd {acc:List Sk} (h:Φ (.go .normal st)) (hi:i=ops.size:=by rfl) (hc:compatD ops.toList acc=true:=by as_aux_lemma=>kernel_rfl):RW P rd base ops (some acc) i st Φ:=reg_endD hi hc h
theorem kr {α:Sort _} {a b:α} (h:a=b:=by as_aux_lemma=>kernel_rfl):a=b:=h
def gt0 (o:Option St):St:=match o with | some S=>S | none=>⟨[],[],0⟩
theorem gE {o:Option St} (h:o.isSome=true:=by as_aux_lemma=>kernel_rfl):o=some (gt0 o):=by
 cases o with
 | none=>cases h
 | some S=>rfl
theorem gF {α:Type} {o:α→Option St} (h:∀x,(o x).isSome=true:=by as_aux_lemma=>(intro _; kernel_rfl)):∀x,o x=some (gt0 (o x)):=fun x=>gE (h x)
def putBs (b:Bool):List Nat → List (Nat × AV)→List (Nat × AV)
 | [],s=>s
 | t::ts,s=>putBs b ts (setS s t (.bool b))
def pB (ts:List Nat) (b:Bool) (st:St):St:=⟨putBs b ts st.slots,st.objs,st.nt⟩
def setLen (n:Nat):AV→AV
 | .ref o i _=>.ref o i n
 | .lin o i _=>.lin o i n
 | x=>x
def putLs (n:Nat):List Nat → List (Nat × AV)→List (Nat × AV)
 | [],s=>s
 | t::ts,s=>putLs n ts (match lk s t with | some x=>setS s t (setLen n x) | none=>s)
def pL (ts:List Nat) (n:Nat) (st:St):St:=⟨putLs n ts st.slots,st.objs,st.nt⟩
theorem wb (ts:List Nat) {R:Type} {b:Bool} {A B:Option R} {r:R} (h:(if b=true then A else B)=some r) (h1:b=true→A=some r→WP P rd base c (pB ts true st) Φ) (h2:b=false→B=some r→WP P rd base c (pB ts false st) Φ) (hS:st=pB ts b st:=by as_aux_lemma=>kernel_rfl):WP P rd base c st Φ:=by
 rw [hS]; exact wp_br (S:=fun b=>pB ts b st) h h1 h2
theorem rb (ts:List Nat) {R:Type} {b:Bool} {A B:Option R} {r:R} (h:(if b=true then A else B)=some r) (h1:b=true→A=some r→RW P rd base ops d i (pB ts true st) Φ) (h2:b=false→B=some r→RW P rd base ops d i (pB ts false st) Φ) (hS:st=pB ts b st:=by as_aux_lemma=>kernel_rfl):RW P rd base ops d i st Φ:=by
 rw [hS]; exact rw_br (S:=fun b=>pB ts b st) h h1 h2
theorem wk (ts:List Nat) {b c':Bool} (hb:b=c') (h:WP P rd base c (pB ts c' st) Φ) (hS:st=pB ts b st:=by as_aux_lemma=>kernel_rfl):WP P rd base c st Φ:=by rw [hS,hb]; exact h
theorem rl (ts:List Nat) {n m:Nat} (hn:n=m) (h:RW P rd base ops d i (pL ts m st) Φ) (hS:st=pL ts n st:=by as_aux_lemma=>kernel_rfl):RW P rd base ops d i st Φ:=by rw [hS,hn]; exact h
theorem callW {α R:Type} {G:Option α} {K:α→Option R} {f:FuncId} {us:List AV} {rv:α→AV} {ro:α→List AObj} {r:R} (hb:bodyB P f=true)
  (hc:∀x,G=some x→CallOk P f us (.ret (rv x) (ro x))) (h:G.bind K=some r)
  (k:∀x,G=some x→K x=some r→RW P rd base ops (dAdd d [callSk st [] (rv x) (ro x)]) (i+1) (gt0 (callSt ops i st [] (rv x) (ro x))) Φ)
  (hi:callInfo ops i st=some (f,us):=by as_aux_lemma=>kernel_rfl) (hsn:mapSnap (snap st.sto snapDepth) us=some (us,[]):=by as_aux_lemma=>kernel_rfl)
  (hS:∀x,(callSt ops i st [] (rv x) (ro x)).isSome=true:=by as_aux_lemma=>(intro _; kernel_rfl)):RW P rd base ops d i st Φ :=
 callR hi hb hsn hc (gF hS) h k
theorem rknN {n m:Nat} {S:Nat → St} (hb:n=m) (h:RW P rd base ops d i (S m) Φ) (hS:st=S n:=by as_aux_lemma=>kernel_rfl):RW P rd base ops d i st Φ:=by rw [hS]; exact rw_knN hb h
theorem rsame {R:Type} {n m:Nat} {S:Nat → St} {A:Option R} {r:R} (h:(if n=m then A else none)=some r) (k:A=some r→RW P rd base ops d i (S m) Φ) (hS:st=S n:=by as_aux_lemma=>kernel_rfl):RW P rd base ops d i st Φ:=by rw [hS]; exact rw_same h k
end
abbrev z1:List Int→AV:=eL true eI
abbrev z2:List (List Int)→AV:=eL false z1
abbrev zw:Int→Int:=IntKind.i64.wrap
abbrev zv:Int→Int:=IntKind.u64.wrap
abbrev zt:Int→Nat := Int.toNat
abbrev zn {α:Type} (l:List α):Int:=(l.length:Int)
end Go.Ab
