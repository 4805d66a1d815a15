/- Rules on plain values. No conditions. -/
import Derived.Test.YtojklbpplceiiaaDoorEng7
set_option linter.all false
namespace Go.Ab
open Go.RowKit
theorem Qvo:∀D:List Nat,∃D':List Nat,D'.Nodup∧∀r,r∈D'↔r∈D
 | []=>⟨[],List.nodup_nil,fun r=>Iff.rfl⟩
 | x::D=>by
  obtain ⟨D',h1,h2⟩:=Qvo D
  by_cases hx:x∈D'
  ·exact ⟨D',h1,fun r=>by rw [h2,List.mem_cons]; exact ⟨.inr,fun h=>h.elim (fun e=>by subst e; exact (h2 _).1 hx) id⟩⟩
  ·exact ⟨x::D',List.nodup_cons.2 ⟨hx,h1⟩,fun r=>by rw [List.mem_cons,List.mem_cons,h2]⟩
theorem Qlh:∀{es:List (Nat × AObj)} {objs objs':List AObj},Z3 objs es=some objs'→(∀y∈es,y.1 < objs.length)→objs'.length=objs.length
 | [],objs,objs',h,_=>by cases h; rfl
 | (o,x)::es,objs,objs',h,hl=>by
  simp only [Z3] at h
  split at h
  ·split at h
   ·split at h
    ·cases h
    ·rw [Qlh h (fun y hy=>by rw [List.length_set]; exact hl y (List.mem_cons_of_mem _ hy)),List.length_set]
   ·rename_i hn
    have:=hl (o,x) (by simp)
    rw [List.getElem?_eq_getElem this] at hn; cases hn
  ·cases h
section
variable {P:Program} {ops:Array Oper} {o:Oper}
theorem Q3n {g:Operand} {args:Array Operand} {ts:Array TypeId} {f:FuncId} {fn:Func} {c:Code} {first caps as:List AV} {e:Zg} {x:AV} {s:Slots} {σ:Sto} {N n:Nat} {A A':List AObj} {sl':List (Nat × AV)} {nt':Nat} {eff:List (Nat × AObj)}
  (hw:Yd ops s o=some true) (ho:o.op=.call { callee:=.value g,args,argTypes:=ts }) (hg:evo s g=some (.fn (.func f) first caps)) (has:Jv s args.toList=some as)
  (hf:P.funcs[f]?=some fn) (hb:fn.body=some c) (hn:(fn.name == "runtime.NumGoroutine")=false) (hle:(first++as++caps).length≤fn.ntmps)
  (hσ:∀k,k < N→σ k=A[k]?) (hN:A.length=N) (hN':A'.length=N) (hbig:N≤BIG) (hlive:∀y∈A,Qrm y=true) (hA:∀y∈A,Qb7 N y) (hA':∀y∈A',Qb7 N y)
  (hids:∀a∈first++as++caps,∀k∈a.ids,k < N)
  (h:Z7 P none N c ⟨Y1 0 (first++as++caps),A,fn.ntmps⟩ (.go e ⟨sl',A',nt'⟩)) (hend:e.ends=true) (hr:resultA P fn ⟨sl',A',nt'⟩=some x) (hx:x.nr=true)
  (heff:∀k,k < N→Sto.puts (fun k=>A[k]?) eff k=A'[k]?) (heff2:∀y∈eff,y.1 < N) :
  YlL P ops o ⟨some x,eff,n,n,List.range N⟩ s σ:=by
 intro s' σ' hs' hσ'
 have hl:=Qly (ops:=ops) hs'
 rw [ho] at hl
 have hg':evo s' g=some (.fn (.func f) first caps):=by rw [hl g (by simp [Op.operands,Call.operands])]; exact hg
 have has':Jv s' args.toList=some as:=by rw [evos_congr (fun y hy=>hl y (by simp [Op.operands,Call.operands]; exact .inr (by simpa using hy)))]; exact has
 refine .inl ⟨by rw [Qb3 hs']; exact hw,?_⟩
 intro B W0 D M ι a W nn Q r next hrel hsl hfree hpost
 simp only at hfree hpost
 have hσN:∀k,k < N→σ' k=A[k]?:=fun k hk=>by rw [hσ' k (List.mem_range.2 hk)]; exact hσ k hk
 have hgv:=Qf hsl hg'
 generalize hgu:a.eval g=gu at hgv
 cases hgv with
 | fn _ first' caps' _ _ hy hm h1 h2 hr1 hr2 =>
 obtain ⟨l1,e1⟩:=Vl hsl has'
 refine ⟨fun _ _=>trivial,?_⟩
 rw [Oper.semAt_eq _ _ _ (by rw [ho]; simp)]
 have hrun:(execOp a.eval o).run P W=.ok (.enter f (first'++args.map a.eval++caps')) W:=by
  simp only [execOp,ho,resolve,hgu,Deferred.ofValue,Sem.run_bind,Sem.run_pure,Result.andThen_ok,invoke]
  exact V9 hf (by rw [hb]; rfl) hn _ W
 rw [hrun,Oper.uponIn_enter]
 have hrep:∀(j:Nat) (v:Value) (y:AV),(first'++args.map a.eval++caps')[j]?=some v→(first++as++caps)[j]?=some y→Qa M ι v y :=
  Qf9 h1 (by simpa using l1.symm) h2 hr1 (fun j v y hv hy=>by
   simp only [Array.getElem?_map,Option.map_eq_some_iff] at hv
   obtain ⟨w,hw,rfl⟩:=hv
   exact (e1 j w y (by simpa using hw) hy).2) hr2
 have hsz:(first'++args.map a.eval++caps').size=(first++as++caps).length:=by simp [h1,h2,l1]
 have hOk:∀k x,k < N→σ' k=some x→Qb7 N x:=fun k x hk hx=>by
  rw [hσN k hk] at hx; exact hA x (List.mem_of_getElem? hx)
 have hhide:=hrel.hide (N:=N) hOk
 have hsA:sto A=fun k=>if k < N then σ' k else none:=funext fun k=>by
  rw [Qsh (fun y hy=>Qkm (hA y hy)) (by omega)]
  by_cases hk:k < N
  ·rw [if_pos hk,hσN k hk]
  ·rw [if_neg hk,List.getElem?_eq_none (by omega)]
 rw [←hsA] at hhide
 obtain ⟨D0,hnd,hmem⟩:=Qvo D
 have hhide0:=hhide.mem (D':=D0) (fun r hr=>(hmem r).1 hr)
 have hM1:M.le (Qln N ι σ' W M):=fun _ _ _ h=>h
 refine ⟨fun hd=>by simp [FW,Fence.wide] at hd,Qc4 ?_⟩
 refine callsIn_wide.1 (callsIn_of_wp_marks (F:=FW none) (n:=0) hf hb trivial ?_)
 refine h B W0 D0 [] (Qln N ι σ' W M) (fun k=>if k < N then ι k else none) _ W 0 _ none ⟨hhide0,Qbt fn.ntmps (fun j v y hv hy=>?_) hsz,by rw [Array.size_append,Array.size_replicate]; show _=fn.ntmps; omega,⟨rfl,fun r hr=>by simp at hr,by simpa using hnd⟩,fun k hk=>?_,by show A.length≤BIG; omega⟩ rfl ⟨?_,fun v hv=>by cases hv⟩
 ·have hi:=hids y (List.mem_of_getElem? hy)
  exact ((hrep j v y hv hy).congr fun o ho=>if_pos (hi o ho)).mono hM1 (Inj.le_refl _)
 ·exact if_neg (fun hlt=>hk (.inl (by show k < A.length; omega)))
 intro e' st'' he dl' M' ι' a' W' g1 g2 g3 g4
 cases he
 have hex:e.exit'=.normal∨e.exit'=.ret:=by cases e <;> simp_all [Zg.ends,Zg.exit']
 have cut:∀R,LeavesInM (FW none) 0 P fn a'.tmps R a'.defers .returning W'→bodyPostM (FW none) 0 P fn R e.exit' a' W':=fun R hR=>by
  rcases hex with e1 | e1 <;> rw [e1] <;> exact hR
 apply cut
 rw [g4.df.defs]
 refine Qd4 (by simp) dl' W' g4.rel g4.df.nd g4.df.old (fun W2 h2=>?_)
 obtain ⟨v,k1,k2⟩:=Qb5 h2 g4.slots hr
 refine ⟨v,k1,?_⟩
 have hι:∀k,k < N→ι' k=ι k:=fun k hk=>by
  have hlv:∃p,ι k=some p:=by
   have hAk:A[k]?=some (A[k]'(by omega)):=List.getElem?_eq_getElem (by omega)
   have hk':=hσN k hk
   rw [hAk] at hk'
   have hlv:=hlive _ (List.mem_of_getElem? hAk)
   cases hy:A[k]'(by omega) with
   | row bx ro nr fl w xs=>rw [hy] at hk'; obtain ⟨p,hp,_⟩:=hrel.row k _ _ _ _ _ _ hk'; exact ⟨p,hp⟩
   | loop nt sl ps as bd st pe=>rw [hy] at hk'; obtain ⟨p,_,hp,_⟩:=hrel.loop k _ _ _ _ _ _ _ hk'; exact ⟨p,hp⟩
   | _=>rw [hy] at hlv; cases hlv
  obtain ⟨p,hp⟩:=hlv
  rw [hp]
  exact g2 k p (.inl hk) (by show (if k < N then ι k else none)=_; rw [if_pos hk]; exact hp)
 have h2':=h2.mem (D':=D) (fun r hr=>(hmem r).2 hr)
 have hsA':sto A'=fun k=>if k < N then (fun k=>A'[k]?) k else none:=funext fun k=>by
  rw [Qsh (fun y hy=>Qkm (hA' y hy)) (by omega)]
  by_cases hk:k < N
  ·rw [if_pos hk]
  ·rw [if_neg hk,List.getElem?_eq_none (by omega)]
 rw [show (⟨sl',A',nt'⟩:St).objs=A' from rfl,hsA'] at h2'
 obtain ⟨M2,q1,q2,q3⟩:=hrel.unhide h2' g1 hι (fun k y hk hy=>hA' y (List.mem_of_getElem? hy))
 refine hpost v W2 M2 ι q1 (Inj.le_refl _) (fun _ _=>rfl) ?_ (fun y hy=>?_)
 ·have:(fun k=>if k < N then (fun k=>A'[k]?) k else σ' k)=σ'.puts eff:=funext fun k=>by
   by_cases hk:k < N
   ·rw [if_pos hk]
    show A'[k]?=_
    rw [←heff k hk]
    exact Qfl eff k (.inl (hσN k hk).symm)
   ·rw [if_neg hk]
    exact (Qdw (fun y hy e=>hk (by rw [←e]; exact heff2 y hy))).symm
  rw [←this]; exact q3
 ·cases hy
  exact (k2.of_nr hx).mono q2 (Inj.noInj_le _)
end
section
variable {P:Program} {rd:Option Nat} {base:Nat} {ops:Array Oper} {d:Option (List Sk)} {st S:St} {Φ:AOut→Prop} {i:Nat}
noncomputable def Qkt (P:Program) (fn:Func) (ops:Array Oper) (i:Nat) (st:St) (eff:List (Nat × AObj)) (st':St):Option St :=
 match resultA P fn st',ops[i]? with
 | some x,some o=>match Jt st.slots st.nt o.dst (some x),Z3 st.objs eff with
  | some slots,some objs=>if x.nr then some ⟨slots,objs,st.nt⟩ else none
  | _,_=>none
 | _,_=>none
theorem Q68 {σ ρ R:Type} {N:Nat} {c:Code} {I:σ→St} {E:ρ→St} {F:σ→Option ρ} {K:ρ→Option R} {r:R} {f:FuncId} {fn:Func} {as0:List AV} (s0:σ) (A H:List AObj) (eff:ρ→List (Nat × AObj)) (S:ρ→St)
  (hi:Zu ops i st=some (f,as0)) (hf:P.funcs[f]?=some fn) (hb:fn.body=some c) (hn:(fn.name == "runtime.NumGoroutine")=false) (hle:Nat.ble as0.length fn.ntmps=true)
  (hsp:st.objs=A++H) (h0:(⟨Y1 0 as0,A,fn.ntmps⟩:St)=I s0) (hN:A.length=N) (hbig:Nat.ble N BIG=true) (hlive:A.all Qrm=true) (hA:∀y∈A,Qb7 N y) (hE:∀x,(E x).objs.length=N) (hA':∀x,∀y∈(E x).objs,Qb7 N y)
  (hsl:(as0.all fun a=>a.ids.all fun o=>Nat.blt o N)=true)
  (heff:∀x,∀k,k < N→Sto.puts (fun k=>A[k]?) (eff x) k=(E x).objs[k]?) (hefl:∀x,∀y∈eff x,y.1 < N) (w:List Nat) (hw:∀x,(eff x).map (·.1)=w) (hlow:Nat.ble st.objs.length BIG=true)
  (IH:Qg3 P N c I E F) (h:(F s0).bind K=some r) (hS:∀x,Qkt P fn ops i st (eff x) (E x)=some (S x))
  (k:∀x,K x=some r→RW P rd base ops (Zp d [(w,List.range N)]) (i+1) (S x) Φ):RW P rd base ops d i st Φ:=by
 obtain ⟨o,g,args,ts,first,caps,as1,ho,hop,hg,has,rfl⟩:=Qac hi
 obtain ⟨h1,h2⟩:=Ku ho
 cases hx:F s0 with
 | none=>rw [hx] at h; cases h
 | some x =>
  rw [hx] at h
  obtain ⟨out,hex,hout⟩:=IH s0 x hx
  rw [←h0] at hex
  have hsx:=hS x
  unfold Qkt at hsx
  split at hsx
  ·rename_i y o' hr ho'
   rw [h1] at ho'; cases ho'
   split at hsx
   ·rename_i slots objs hp ha
    split at hsx
    ·rename_i hy
     have hsS:S x=⟨slots,objs,st.nt⟩:=(Option.some.inj hsx).symm
     have hks:=k x h
     rw [hsS] at hks
     obtain ⟨p1,p2,p3⟩:=V8 _ _ _ ha
     have hNl:N≤st.objs.length:=by rw [hsp,List.length_append]; omega
     have hbig':N≤BIG:=Nat.le_of_ble_eq_true hbig
     have hAsimp:∀z∈A,Qos z=true:=fun z hz=>Qkm (hA z hz)
     have hσ:∀k,k < N→sto st.objs k=A[k]?:=fun k hk=>by
      have hkb:k < BIG:=by omega
      rw [Xp hkb,hsp,List.getElem?_append_left (by omega)]
      cases e:A[k]? with
      | none=>rfl
      | some z=>simp [Qnx (hAsimp z (List.mem_of_getElem? e))]
     have hids:∀a∈first++as1++caps,∀k∈a.ids,k < N:=fun a ha k hk=>Jm (List.all_eq_true.1 (List.all_eq_true.1 hsl a ha) k hk)
     have hout':∃e,out=.go e (E x)∧e.ends=true:=by
      rcases hout with he | he
      ·exact ⟨_,he,rfl⟩
      ·exact ⟨_,he,rfl⟩
     obtain ⟨e,rfl,hend⟩:=hout'
     have hlen:objs.length=st.objs.length:=Qlh ha (fun y hy=>by have:=hefl x y hy; omega)
     refine Qd7 (s:=(w,List.range N)) ⟨o,⟨some y,eff x,st.objs.length,st.objs.length,List.range N⟩,h1,?_,Qza (by simp [Foot.sk,hw x])⟩ hks
     refine Qs1 (Q3n (e:=e) (sl':=(E x).slots) (nt':=(E x).nt) (A:=A) (A':=(E x).objs) h2 hop hg has hf hb hn (Nat.le_of_ble_eq_true hle) hσ hN (hE x) hbig' (fun z hz=>List.all_eq_true.1 hlive z hz) hA (hA' x) hids hex hend hr hy (heff x) (hefl x)) rfl ?_ ha hp rfl
     show st.objs.length=objs.length
     exact hlen.symm
    ·cases hsx
   ·cases hsx
  ·cases hsx
end
end Go.Ab
namespace Go.Ab
open Go.RowKit
theorem Qm9:∀(es:List (AV × AV)) (i:Nat),Qd6 i (Z9 i es)=some es
 | [],i=>rfl
 | (k,v)::r,i=>by
  simp only [Z9,Qd6]
  rw [show Nat.beq i i=true from Nat.beq_refl i,show Nat.beq (i+1) (i+1)=true from Nat.beq_refl _]
  simp [Qm9 r (i+2)]
theorem Qqj (es:List (AV × AV)):Qed (mapO es)=some es:=by
 simp [Qed,mapO,Qm9]
section
variable {P:Program} {α:Type} {enc:α→AV} {kk:IntKind} {kt:TypeId}
end
section
variable {P:Program} {rd:Option Nat} {base:Nat} {ops:Array Oper} {d:Option (List Sk)} {st S:St} {Φ:AOut→Prop} {i:Nat}
theorem Qjo {P:Program} {nf:Bool} {C:FuncId→List AV→Option Xm} {σ:Sto} {fr:Nat} {s:Slots} {o:Oper} {r:Res}:(Xf P nf C σ fr s o=some (.val r))=(evalOp P nf C σ fr s o=some (.val r)):=by
 apply propext
 unfold Xf
 split
 ·exact Iff.rfl
 ·cases evalOp P nf C σ fr s o with
  | none=>exact Iff.rfl
  | some y=>cases y <;> simp [Y6]
end
end Go.Ab
namespace Go.Ab
open Go.RowKit
section
variable {P:Program} {rd:Option Nat} {base:Nat} {ops:Array Oper} {d:Option (List Sk)} {st S1 S:St} {Φ:AOut→Prop} {i:Nat}
noncomputable def Qvn (P:Program) (ops:Array Oper) (i:Nat) (st:St):Option (List AV × Int × Nat) :=
 match X2 ops i st with
 | some o=>match o.op with
  | .indexAddr t x ix=>match ti P t,evo (lk st.slots) x,evo (lk st.slots) ix with
   | some T,some (.fz cs),some (.int _ n)=>match T.kind with
    | .array len e=>match ti P e with
     | some E=>if Nat.beq E.size 1 then some (cs,n,len) else none
     | none=>none
    | _=>none
   | _,_,_=>none
  | _=>none
 | none=>none
noncomputable def Qvu (P:Program) (ops:Array Oper) (i:Nat) (st:St):Option (List AV) :=
 match X2 ops i st with
 | some o=>match o.op with
  | .load t x=>match ti P t,evo (lk st.slots) x with
   | some T,some (.fz cs)=>if T.agg then none else some cs
   | _,_=>none
  | _=>none
 | none=>none
theorem Q6u {l:List Int} {n a:Int} {kk:IntKind} {len:Nat} {cells:List AV} (hi:Qvn P ops i st=some (cells,n,len)) (hc:cells=l.map (AV.int kk)) (hlen:l.length=len) (ha:lkI l n=some a)
  (h1:Vb ops i st (some (.fz ((l.map (AV.int kk)).drop n.toNat))) []=some S1) (hl:Qvu P ops (i+1) S1=some ((l.map (AV.int kk)).drop n.toNat)) (hS:Vb ops (i+1) S1 (some (.int kk a)) []=some S)
  (k:RW P rd base ops (Zp (Zp d [([],[])]) [([],[])]) (i+1+1) S Φ):RW P rd base ops d i st Φ:=by
 obtain ⟨g1,g2,g3⟩:=Qis ha
 subst hc
 have s1:∃o,X2 ops i st=some o∧Xf P false noC st.sto st.objs.length (lk st.slots) o=some (.val ⟨some (.fz ((l.map (AV.int kk)).drop n.toNat)),[],st.objs.length,[]⟩):=by
  unfold Qvn at hi
  split at hi
  ·rename_i o ho
   split at hi
   ·rename_i t x ix hop
    split at hi
    ·rename_i T cs' k' n' hT hx hix
     split at hi
     ·rename_i len' e hk
      split at hi
      ·rename_i E hE
       split at hi
       ·rename_i hsz
        have hsz:=Nat.eq_of_beq_eq_true hsz
        cases hi
        refine ⟨o,ho,?_⟩
        rw [Qjo]
        have hneg:¬ n < 0:=by omega
        simp only [evalOp,hop,hT,hx,hix,hk,hE,asN,hneg,if_false]
        rw [if_pos (Qki (by omega)),hsz,Nat.mul_one]
        rfl
       ·cases hi
      ·cases hi
     ·cases hi
    ·cases hi
   ·cases hi
  ·cases hi
 obtain ⟨o,ho,he⟩:=s1
 refine K8 ho he h1 (Vp h1) ?_
 have s2:∃o,X2 ops (i+1) S1=some o∧Xf P false noC S1.sto S1.objs.length (lk S1.slots) o=some (.val ⟨some (.int kk a),[],S1.objs.length,[]⟩):=by
  unfold Qvu at hl
  split at hl
  ·rename_i o ho
   split at hl
   ·rename_i t x hop
    split at hl
    ·rename_i T cs hT hx
     split at hl
     ·cases hl
     ·rename_i hag
      have hcs:=Option.some.inj hl
      refine ⟨o,ho,?_⟩
      rw [Qjo]
      have hag':T.agg=false:=by simpa using hag
      have hd:(l.map (AV.int kk)).drop n.toNat = AV.int kk a::(l.map (AV.int kk)).drop (n.toNat + 1):=by
       rw [List.drop_eq_getElem_cons (by simpa using g2)]
       congr 1
       rw [List.getElem_map]
       congr 1
       have:=List.getElem?_eq_some_iff.1 g3
       exact this.2
      simp only [evalOp,hop,hT,hx,hcs,hd]
      simp [Qaq,hag',Z4]
    ·cases hl
   ·cases hl
  ·cases hl
 obtain ⟨o2,ho2,he2⟩:=s2
 exact K8 ho2 he2 hS (Vp hS) k
end
end Go.Ab
namespace Go.Ab
open Go.RowKit
def Qob (o:Nat) (m:AObj):List Nat → List AObj→List AObj
 | k::ks,y::ys=>(if Nat.beq k o then m else y)::Qob o m ks ys
 | _,ys=>ys
theorem Qjv {f:Nat → Option Nat} {objs:List AObj} {o:Nat} {e m:AObj} (hm:m.ren f=some m) (ho:o < objs.length):∀(ks:List Nat) (os:List AObj),J6 f (objs.set o e) ks=some os→J6 f (objs.set o m) ks=some (Qob o m ks os)
 | [],os,h=>by simp [J6] at h; subst h; rfl
 | k::ks,os,h=>by
  simp only [J6] at h ⊢
  by_cases c:o=k
  ·subst c
   rw [List.getElem?_set_self ho] at h ⊢
   simp only at h ⊢
   cases hx:e.ren f with
   | none=>rw [hx] at h; cases h
   | some y =>
    rw [hx] at h
    cases hr:J6 f (objs.set o e) ks with
    | none=>rw [hr] at h; cases h
    | some os' =>
     rw [hr] at h
     have ih:=Qjv hm ho ks os' hr
     cases h
     rw [ih,hm]
     simp [Qob]
  ·rw [List.getElem?_set_ne c] at h ⊢
   cases hk:objs[k]? with
   | none=>rw [hk] at h; cases h
   | some x =>
    rw [hk] at h
    simp only at h ⊢
    cases hx:x.ren f with
    | none=>rw [hx] at h; cases h
    | some y =>
     rw [hx] at h
     cases hr:J6 f (objs.set o e) ks with
     | none=>rw [hr] at h; cases h
     | some os' =>
      rw [hr] at h
      have ih:=Qjv hm ho ks os' hr
      cases h
      rw [ih]
      have:Nat.beq k o=false:=by
       cases e2:Nat.beq k o with
       | false=>rfl
       | true=>exact absurd (Nat.eq_of_beq_eq_true e2).symm c
      simp [Qob,this]
def Q10 (base:Nat) (live keep:List Nat) (o:Nat) (m:AObj) (st:St):Option St :=
 match Qjf base live keep ⟨st.slots,st.objs.set o (mapO []),st.nt⟩ with
 | some s=>some ⟨s.slots,Qob o m (List.range base++keep) s.objs,s.nt⟩
 | none=>none
end Go.Ab
namespace Go.Ab
open Go.RowKit
def Jz {κ α:Type} (ke:κ→AV) (enc:α→AV) (p:κ × α):AV × AV:=(ke p.1,enc p.2)
def mapK {κ α:Type} (ke:κ→AV) (enc:α→AV) (l:List (κ × α)):AObj:=mapO (l.map (Jz ke enc))
def Q5 {κ α:Type} (e:κ→κ→Bool):List (κ × α)→κ→Option α
 | [],_=>none
 | p::r,n=>if e n p.1 then some p.2 else Q5 e r n
def kput {κ α:Type} (e:κ→κ→Bool):List (κ × α)→κ→α→List (κ × α)
 | [],n,v=>[(n,v)]
 | p::r,n,v=>if e n p.1 then (n,v)::r else p::kput e r n v
section
variable {P:Program} {κ α:Type} {ke:κ→AV} {enc:α→AV} {e:κ→κ→Bool} {kt:TypeId}
theorem Qj9 (hk:∀a b,Yv P kt (ke a) (ke b)=some (e a b)) {n:κ}:∀(l:List (κ × α)) (i:Nat),Q5 e l n=none→Kk (Yv P kt) (ke n) (l.map (Jz ke enc)) i=some none
 | [],i,_=>rfl
 | p::r,i,h=>by
  unfold Q5 at h
  split at h
  ·cases h
  ·rename_i hc
   simp only [List.map_cons,Jz,Kk,hk]
   rw [show e n p.1=false by simpa using hc]
   exact Qj9 hk r (i+1) h
theorem Qi9 (hk:∀a b,Yv P kt (ke a) (ke b)=some (e a b)) {n:κ} {v:α}:∀(l:List (κ × α)) (i:Nat),Q5 e l n=some v→∃j,Kk (Yv P kt) (ke n) (l.map (Jz ke enc)) i=some (some (i+j,enc v))∧∀w,(l.map (Jz ke enc)).set j (Jz ke enc (n,w))=(kput e l n w).map (Jz ke enc)
 | [],i,h=>by cases h
 | p::r,i,h=>by
  unfold Q5 at h
  split at h
  ·rename_i hc
   cases h
   refine ⟨0,?_,fun w=>?_⟩
   ·simp only [List.map_cons,Jz,Kk,hk,hc,Nat.add_zero]
   ·simp only [kput,hc,if_true,List.map_cons,List.set_cons_zero]
  ·rename_i hc
   have hc':e n p.1=false:=by simpa using hc
   obtain ⟨j,h1,h2⟩:=Qi9 hk r (i+1) h
   refine ⟨j+1,?_,fun w=>?_⟩
   ·simp only [List.map_cons,Jz,Kk,hk,hc']
    rw [show i+(j+1)=i+1+j by omega]
    exact h1
   ·simp only [kput,hc',List.map_cons,List.set_cons_succ,h2 w]
    simp
theorem Qqs {n:κ} {w:α}:∀(l:List (κ × α)),Q5 e l n=none→l.map (Jz ke enc)++[Jz ke enc (n,w)]=(kput e l n w).map (Jz ke enc)
 | [],_=>rfl
 | p::r,h=>by
  unfold Q5 at h
  split at h
  ·cases h
  ·rename_i hc
   have hc':e n p.1=false:=by simpa using hc
   simp only [kput,hc',List.map_cons,List.cons_append,Qqs r h]
   simp
end
section
variable {P:Program} {rd:Option Nat} {base:Nat} {ops:Array Oper} {d:Option (List Sk)} {st S:St} {Φ:AOut→Prop} {i:Nat}
noncomputable def Qvh (P:Program) (ops:Array Oper) (i:Nat) (st:St):Option (Nat × TypeId × AV × Bool × AV) :=
 match X2 ops i st with
 | some o=>match o.op with
  | .lookup t x ix c=>match ti P t,evo (lk st.slots) x,evo (lk st.slots) ix with
   | some T,some (.mp ob),some k=>match T.kind with
    | .map kt et=>match (ti P et).bind (·.zero) with
     | some z=>some (ob,kt,k,c,z)
     | _=>none
    | _=>none
   | _,_,_=>none
  | _=>none
 | none=>none
noncomputable def Qva (P:Program) (ops:Array Oper) (i:Nat) (st:St):Option (Nat × TypeId × AV × AV) :=
 match X2 ops i st with
 | some o=>match o.op with
  | .mapUpdate t m x y | .insert t m x y=>match ti P t,evo (lk st.slots) m,evo (lk st.slots) x,evo (lk st.slots) y with
   | some T,some (.mp ob),some k,some v=>match T.kind with
    | .map kt _=>some (ob,kt,k,v)
    | _=>none
   | _,_,_,_=>none
  | _=>none
 | none=>none
theorem Qrr {κ α:Type} {ke:κ→AV} {enc:α→AV} {e:κ→κ→Bool} {l:List (κ × α)} {n:κ} {z:α} {ob:Nat} {kt:TypeId} {c:Bool} (hi:Qvh P ops i st=some (ob,kt,ke n,c,enc z)) (hk:∀a b,Yv P kt (ke a) (ke b)=some (e a b)) (hrow:st.sto ob=some (mapK ke enc l)) (hok:∀v,(enc v).okv=true)
  (hS:Vb ops i st (some (if c then .tup [enc ((Q5 e l n).getD z),.bool (Q5 e l n).isSome] else enc ((Q5 e l n).getD z))) []=some S) (k:RW P rd base ops (Zp d [([],[ob])]) (i+1) S Φ):RW P rd base ops d i st Φ:=by
 unfold Qvh at hi
 split at hi
 ·rename_i o ho
  split at hi
  ·rename_i t x ix c' hop
   split at hi
   ·rename_i T ob' k' hT hx hix
    split at hi
    ·rename_i kt et hkind
     split at hi
     ·rename_i z' hz
      cases hi
      refine K8 (nf:=false) (v:=some (if c then .tup [enc ((Q5 e l n).getD z),.bool (Q5 e l n).isSome] else enc ((Q5 e l n).getD z))) (eff:=[]) (fr:=st.objs.length) (rds:=[ob]) ho ?_ hS (Vp hS) k
      rw [Qjo]
      simp only [evalOp,hop]
      unfold Qgb
      have hes:(st.sto ob).bind Qed=some (l.map (Jz ke enc)):=by rw [hrow]; exact Qqj _
      simp only [hT,hx,hix,hkind,hes,hk,hz]
      cases hg:Q5 e l n with
      | none =>
       rw [Qj9 hk l 0 hg]
       simp only [hok,if_true,Option.getD_none,Option.isSome_none]
      | some v =>
       obtain ⟨j,h1,_⟩:=Qi9 (enc:=enc) hk l 0 hg
       rw [h1]
       simp only [hok,if_true,Option.getD_some,Option.isSome_some]
     ·cases hi
    ·cases hi
   ·cases hi
  ·cases hi
 ·cases hi
theorem Xa {κ α:Type} {ke:κ→AV} {enc:α→AV} {e:κ→κ→Bool} {l:List (κ × α)} {n:κ} {v:α} {ob:Nat} {kt:TypeId} (hi:Qva P ops i st=some (ob,kt,ke n,enc v)) (hk:∀a b,Yv P kt (ke a) (ke b)=some (e a b)) (hrow:st.sto ob=some (mapK ke enc l))
  (hS:Vb ops i st none [(ob,mapK ke enc (kput e l n v))]=some S) (hl:Nat.beq S.objs.length st.objs.length=true) (k:RW P rd base ops (Zp d [([ob],[ob])]) (i+1) S Φ):RW P rd base ops d i st Φ:=by
 have main:∃o,X2 ops i st=some o∧Xf P false noC st.sto st.objs.length (lk st.slots) o=some (.val ⟨none,[(ob,mapK ke enc (kput e l n v))],st.objs.length,[ob]⟩):=by
  unfold Qva at hi
  split at hi
  ·rename_i o ho
   have step:∀(t:TypeId) (m x y:Operand),(o.op=.mapUpdate t m x y∨o.op=.insert t m x y)→(match ti P t,evo (lk st.slots) m,evo (lk st.slots) x,evo (lk st.slots) y with
     | some T,some (.mp ob),some k,some v=>match T.kind with
      | .map kt _=>some (ob,kt,k,v)
      | _=>none
     | _,_,_,_=>none)=some (ob,kt,ke n,enc v)→Xf P false noC st.sto st.objs.length (lk st.slots) o=some (.val ⟨none,[(ob,mapK ke enc (kput e l n v))],st.objs.length,[ob]⟩):=fun t m x y hop hi=>by
    split at hi
    ·rename_i T ob' k' v' hT hm hx hy
     split at hi
     ·rename_i kt et hkind
      cases hi
      rw [Qjo]
      have hev:evalOp P false noC st.sto st.objs.length (lk st.slots) o=Qeg P st.sto st.objs.length (lk st.slots) t m x y:=by
       rcases hop with hop | hop <;> simp only [evalOp,hop]
      rw [hev]
      unfold Qeg
      have hes:(st.sto ob).bind Qed=some (l.map (Jz ke enc)):=by rw [hrow]; exact Qqj _
      simp only [hT,hm,hx,hy,hkind,hes,hk]
      cases hg:Q5 e l n with
      | none =>
       rw [Qj9 hk l 0 hg]
       simp only
       rw [show (ke n,enc v)=Jz ke enc (n,v) from rfl,Qqs l hg]
       rfl
      | some u =>
       obtain ⟨j,h1,h2⟩:=Qi9 (enc:=enc) hk l 0 hg
       rw [h1]
       simp only [Nat.zero_add]
       rw [show (ke n,enc v)=Jz ke enc (n,v) from rfl,h2]
       rfl
     ·cases hi
    ·cases hi
   refine ⟨o,ho,?_⟩
   split at hi
   ·rename_i t m x y hop; exact step t m x y (.inl hop) hi
   ·rename_i t m x y hop; exact step t m x y (.inr hop) hi
   ·cases hi
  ·cases hi
 obtain ⟨o,ho,he⟩:=main
 exact K8 ho he hS (Nat.eq_of_beq_eq_true hl) k
end
section
variable {P:Program} {κ α:Type} {ke:κ→AV} {enc:α→AV} {e:κ→κ→Bool} {kt:TypeId}
end
section
variable {P:Program} {rd:Option Nat} {base:Nat} {ops:Array Oper} {d:Option (List Sk)} {st S:St} {Φ:AOut→Prop} {i:Nat}
end
theorem Qqw {κ α:Type} {ke:κ→AV} {enc:α→AV} {f:Nat → Option Nat} (hk:∀v,(ke v).ren f=some (ke v)) (he:∀v,(enc v).ren f=some (enc v)):∀(l:List (κ × α)) (i:Nat),Qnu f (Z9 i (l.map (Jz ke enc)))=some (Z9 i (l.map (Jz ke enc)))
 | [],i=>rfl
 | x::l,i=>by
  simp only [List.map_cons,Jz,Z9,Qnu,he]
  have h2:=Qqw hk he l (i+2)
  rw [hk]
  simp only [h2]
theorem Q1d {κ α:Type} {ke:κ→AV} {enc:α→AV} {f:Nat → Option Nat} (hk:∀v,(ke v).ren f=some (ke v)) (he:∀v,(enc v).ren f=some (enc v)) (l:List (κ × α)):(mapK ke enc l).ren f=some (mapK ke enc l):=by
 show AObj.ren f (.loop _ _ _ _ _ _ _)=_
 simp only [AObj.ren,Qqw hk he l 0]
 rfl
theorem wk_gcK {P:Program} {base:Nat} {st st':St} {live keep:List Nat} (o:Nat) {κ α:Type} (ke:κ→AV) (enc:α→AV) (L:List (κ × α)) (hK:∀f a,(ke a).ren f=some (ke a)) (hE:∀f a,(enc a).ren f=some (enc a)) (ho:st.objs[o]?=some (mapK ke enc L))
  (h:Q10 base live keep o (mapK ke enc L) st=some st'):Wk P base st st':=by
 refine wk_gc (live:=live) (keep:=keep) ?_
 unfold Q10 at h
 have hself:st.objs.set o (mapK ke enc L)=st.objs:=by
  obtain ⟨h1,h2⟩:=List.getElem?_eq_some_iff.1 ho
  apply List.ext_getElem?
  intro i
  by_cases e:o=i
  ·subst e; rw [List.getElem?_set_self h1,ho]
  ·rw [List.getElem?_set_ne e]
 cases hg:Qjf base live keep ⟨st.slots,st.objs.set o (mapO []),st.nt⟩ with
 | none=>rw [hg] at h; cases h
 | some s =>
  rw [hg] at h
  cases h
  unfold Qjf at hg ⊢
  simp only at hg ⊢
  split at hg
  ·rename_i hc
   rw [if_pos hc]
   split at hg
   ·rename_i os hos
    cases hg
    have:=Qjv (Q1d (ke:=ke) (fun a=>hK _ a) (fun a=>hE _ a) L) (List.getElem?_eq_some_iff.1 ho).1 _ _ hos
    rw [hself] at this
    rw [this]
   ·cases hg
  ·cases hg
theorem Qx8 {N:Nat} {κ α:Type} {ke:κ→AV} {enc:α→AV} {l:List (κ × α)} (hk:∀v,(ke v).ids=[]) (he:∀v,(enc v).ids=[]):Qb7 N (mapK ke enc l):=by
 show ∀p∈Z9 0 (l.map (Jz ke enc)),∀o∈p.2.ids,o < N
 have:∀(l:List (κ × α)) (i:Nat),∀p∈Z9 i (l.map (Jz ke enc)),p.2.ids=[]:=by
  intro l
  induction l with
  | nil=>intro i p hp; cases hp
  | cons x l ih =>
   intro i p hp
   simp only [List.map_cons,Jz,Z9,List.mem_cons] at hp
   rcases hp with rfl | rfl | hp
   ·exact hk _
   ·exact he _
   ·exact ih (i+2) p hp
 intro p hp o ho
 rw [this l 0 p hp] at ho
 cases ho
theorem Qah {N:Nat} {A:List AObj} (k:Nat) {κ α:Type} (ke:κ→AV) (enc:α→AV) (l:List (κ × α)) (hA:A[k]?=some (mapK ke enc l)) (hk:∀v,(ke v).ids=[]) (he:∀v,(enc v).ids=[]) (h:(A.set k .dead).all (Qru N)=true):∀y∈A,Qb7 N y:=fun y hy=>by
 obtain ⟨j,hj⟩:=List.mem_iff_getElem?.1 hy
 by_cases e:k=j
 ·subst e
  rw [hA] at hj
  cases hj
  exact Qx8 hk he
 ·exact Q2c (List.all_eq_true.1 h y (List.mem_of_getElem? (by rw [List.getElem?_set_ne e]; exact hj)))
end Go.Ab
namespace Go.Ab
open Go.RowKit
theorem Que:∀(es:List (Nat × AObj)) (A A':List AObj),Z3 A es=some A'→(∀y∈es,y.1 < A.length)→∀k,Sto.puts (fun k=>A[k]?) es k=A'[k]?
 | [],A,A',h,_,k=>by cases h; rfl
 | (o,x)::es,A,A',h,hl,k=>by
  simp only [Z3] at h
  split at h
  ·have ho:=hl (o,x) (by simp)
   rw [List.getElem?_eq_getElem ho] at h
   simp only at h
   split at h
   ·cases h
   ·have ih:=Que es _ A' h (fun y hy=>by rw [List.length_set]; exact hl y (List.mem_cons_of_mem _ hy)) k
    rw [←ih]
    show Sto.puts _ es k=_
    congr 1
    funext j
    by_cases e:j=o
    ·subst e; simp [Sto.put,List.getElem?_set_self ho]
    ·simp [Sto.put,e,List.getElem?_set_ne (fun h=>e h.symm)]
  ·cases h
section
variable {P:Program} {rd:Option Nat} {base:Nat} {ops:Array Oper} {d:Option (List Sk)} {st:St} {Φ:AOut→Prop} {i:Nat}
theorem Q65 {σ ρ R:Type} {N:Nat} {c:Code} {I:σ→St} {E:ρ→St} {F:σ→Option ρ} {K:ρ→Option R} {r:R} {f:FuncId} {fn:Func} {as0:List AV} (s0:σ) (eff:ρ→List (Nat × AObj)) (S:ρ→St) (w:List Nat)
  (hi:Zu ops i st=some (f,as0)) (hf:P.funcs[f]?=some fn) (hb:fn.body=some c) (hn:(fn.name == "runtime.NumGoroutine")=false) (hle:Nat.ble as0.length fn.ntmps=true)
  (h0:(⟨Y1 0 as0,st.objs.take N,fn.ntmps⟩:St)=I s0) (hN:Nat.ble N st.objs.length=true) (hbig:Nat.ble st.objs.length BIG=true) (hlive:(st.objs.take N).all Qrm=true) (hA:∀y∈st.objs.take N,Qb7 N y) (hE:∀x,Nat.beq (E x).objs.length N=true) (hA':∀x,∀y∈(E x).objs,Qb7 N y)
  (hsl:(as0.all fun a=>a.ids.all fun o=>Nat.blt o N)=true)
  (heff:∀x,Z3 (st.objs.take N) (eff x)=some (E x).objs) (hw:∀x,(eff x).map (·.1)=w) (hwl:(w.all fun o=>Nat.blt o N)=true)
  (IH:Qg3 P N c I E F) (h:(F s0).bind K=some r) (hS:∀x,Qkt P fn ops i st (eff x) (E x)=some (S x))
  (k:∀x,K x=some r→RW P rd base ops (Zp d [(w,List.range N)]) (i+1) (S x) Φ):RW P rd base ops d i st Φ:=by
 have hNl:N≤st.objs.length:=Nat.le_of_ble_eq_true hN
 have hlA:(st.objs.take N).length=N:=by rw [List.length_take]; omega
 have hel:∀x,∀y∈eff x,y.1 < N:=fun x y hy=>by
  have:y.1∈(eff x).map (·.1):=List.mem_map_of_mem hy
  rw [hw x] at this
  exact Jm (List.all_eq_true.1 hwl _ this)
 refine Q68 s0 (st.objs.take N) (st.objs.drop N) eff S hi hf hb hn hle (List.take_append_drop N st.objs).symm h0 hlA ?_ hlive hA (fun x=>Nat.eq_of_beq_eq_true (hE x)) hA' hsl (fun x k _=>Que _ _ _ (heff x) (fun y hy=>by rw [hlA]; exact hel x y hy) k) hel w hw hbig IH h hS k
 have:=Nat.le_of_ble_eq_true hbig
 exact Nat.ble_eq_true_of_le (by omega)
end
end Go.Ab
