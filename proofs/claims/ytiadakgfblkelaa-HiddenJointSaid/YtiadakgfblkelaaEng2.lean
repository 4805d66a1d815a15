/- Rules. No conditions. -/
import Derived.Test.YtiadakgfblkelaaEng1
set_option linter.all false
namespace Go.Ab
open Go.RowKit
section
variable {P:Program} {nf:Bool} {C:FuncId→List AV→Option Xp} {B:Nat} {W0 W W':World} {D:List Nat} {M:CM} {ι:Inj} {σ:Sto} {s:Slots} {a:Act} {fr:Nat} {o:Oper} {res:Res}
theorem Xu {a b:Nat} (h:Nat.ble a b=true):a≤b:=Nat.le_of_ble_eq_true h
theorem Yd {a b:Nat} (h:Nat.blt a b=true):a < b:=Nat.le_of_ble_eq_true h
theorem Vd {a b:Nat} (h:Nat.beq a b=true):a=b:=Nat.eq_of_beq_eq_true h
theorem Qo9 (h:Rel P B W0 D M ι σ W) (hs:Qi M ι s a.tmps) {e:TypeId} {E:TI} {t:TypeId} (ht:P.underlying t=some (.slice e)) (hE:ti P e=some E)
  {x:Operand} {y:AV} (hx:Qa M ι (a.eval x) y) {lo hi mx:Option Operand} {lo' hi' mx':Option AV} (h1:Km s lo=some lo') (h2:Km s hi=some hi') (h3:Km s mx=some mx') {z:AV × List Nat}
  (he:J4 σ E.size y lo' hi' mx'=some z) (hmx:mx'.isSome=true→hi'.isSome=true) :
  ∃v,(Instr.sliceAt t (a.eval x) (lo.map a.eval) (hi.map a.eval) (mx.map a.eval)).run P W=.ok v W∧Qa M ι v z.1:=by
 obtain ⟨d,i,g1,g2,g3,g4,_⟩:=Zy hE
 have hrun:∀(base:Option Addr) (len cap l h m:Nat),a.eval x=.slice base len cap→(Instr.sliceBounds true len cap (lo.map a.eval) (hi.map a.eval) (mx.map a.eval)).run P W=.ok (l,h,m) W →
   (Instr.sliceAt t (a.eval x) (lo.map a.eval) (hi.map a.eval) (mx.map a.eval)).run P W=.ok (.slice (if m=l then base else base.map (·.add (l*E.size))) (h - l) (m - l)) W:=by
  intro base len cap l h m hb hsb
  simp only [Instr.sliceAt,Sem.run_bind,run_underlying ht,Result.andThen_ok,Instr.slice,hb,hsb,Xv g2,g4,Sem.run_pure]
 have nz:∀(base:Option Addr),a.eval x=.slice base 0 0→Y3 lo' 0=some 0→Y3 hi' 0=some 0→Y3 mx' 0=some 0→(Instr.sliceAt t (a.eval x) (lo.map a.eval) (hi.map a.eval) (mx.map a.eval)).run P W=.ok (.slice base 0 0) W:=by
  intro base hb e1 e2 e3
  have hsb:=V9 (P:=P) hs h1 h2 h3 (len:=0) (cap:=0) (m:=0) e1 e2 (by
   cases hm:mx' with
   | none=>exact .inl ⟨rfl,rfl⟩
   | some q=>exact .inr ⟨rfl,hmx (by rw [hm]; rfl),by rw [←hm]; exact e3⟩) (Nat.le_refl _) (Nat.le_refl _) (Nat.le_refl _) W
  have:=hrun base 0 0 0 0 0 hb hsb
  simpa using this
 unfold J4 at he
 split at he
 ·split at he
  ·rename_i e1 e2 e3
   cases he
   exact ⟨_,nz _ hx.nils_inv e1 e2 e3,.nils⟩
  ·cases he
 ·split at he
  ·rename_i e1 e2 e3
   cases he
   obtain ⟨ad,had⟩:=hx.emp_inv
   exact ⟨_,nz _ had e1 e2 e3,.emp _⟩
  ·cases he
 ·rename_i fl xs
  split at he
  ·rename_i l hh m e1 e2 e3
   split at he
   ·rename_i hc
    simp only [Bool.and_eq_true] at hc
    obtain ⟨⟨⟨c1,c2⟩,c3⟩,c4⟩:=hc
    have c1:=Xu c1; have c2:=Xu c2; have c3:=Xu c3
    generalize hu:a.eval x=u at hx
    cases hx with
    | lst0 ad _ =>
     have c3':m≤0:=c3
     have l0:l=0:=by omega
     have h0:hh=0:=by omega
     have m0:m=0:=by omega
     subst l0 h0 m0
     have hr0:=nz ad hu e1 e2 e3
     rw [hu] at hr0
     split at he
     ·cases he; exact ⟨_,hr0,.emp _⟩
     ·cases he; exact ⟨_,hr0,.lst0 _ _⟩
    | lst b off cap w _ _ f hcap hfl hcc hM hr =>
    have hsb:∃m',(Instr.sliceBounds true xs.length cap (lo.map a.eval) (hi.map a.eval) (mx.map a.eval)).run P W=.ok (l,hh,m') W∧hh≤m'∧(mx'.isSome=true→m'=m):=by
     cases hm:mx' with
     | none =>
      refine ⟨cap,V9 hs h1 h2 h3 e1 e2 (.inl ⟨hm,rfl⟩) c1 (by omega) (Nat.le_refl _) W,by omega,by simp⟩
     | some q =>
      rw [hm] at e3
      refine ⟨m,V9 hs h1 h2 h3 e1 e2 (.inr ⟨by rw [hm]; rfl,hmx (by rw [hm]; rfl),by rw [hm]; exact e3⟩) c1 c2 (by omega) W,c2,fun _=>rfl⟩
    obtain ⟨m',hsb,hm1,hm2⟩:=hsb
    have hr0:=hrun _ _ _ _ _ _ hu hsb
    rw [hu] at hr0
    split at he
    ·rename_i hme
     simp only [Bool.and_eq_true] at hme
     cases he
     have e4:=Vd hme.2
     have e5:=hm2 hme.1
     have e6:m'=l:=by omega
     have e7:hh=l:=by omega
     rw [if_pos e6,e6,e7] at hr0
     simp only [Nat.sub_self] at hr0
     exact ⟨_,hr0,.emp _⟩
    ·cases he
     refine ⟨_,hr0,?_⟩
     have hlen:((xs.drop l).take (hh - l)).length=hh - l:=by rw [List.length_take,List.length_drop]; omega
     have hw:∀j y,((xs.drop l).take (hh - l))[j]?=some y→xs[l+j]?=some y∧w=E.size∧m'≠l:=by
      intro j y hy
      have hj:j < hh - l:=by rw [←hlen]; exact (List.getElem?_eq_some_iff.1 hy).1
      rw [List.getElem?_take,if_pos hj,List.getElem?_drop] at hy
      refine ⟨hy,?_,by omega⟩
      cases xs with
      | nil=>simp at hy
      | cons x0 r =>
       simp only [Qja] at c4
       have:=Vd c4
       rw [←this]; exact (hcc x0 (by simp)).len.symm
     have key:Qa M ι (.slice (if m'=l then some ⟨b,off,none⟩ else Option.map (fun (x:Addr)=>x.add (l*E.size)) (some ⟨b,off,none⟩)) ((xs.drop l).take (hh - l)).length (m' - l)) (.lst fl ((xs.drop l).take (hh - l))):=by
      by_cases hml:m'=l
      ·rw [if_pos hml]
       exact .lst b off (m' - l) w fl _ f (by omega) (fun hf y hy=>hfl hf y (List.mem_of_mem_drop (List.mem_of_mem_take hy))) (fun y hy=>hcc y (List.mem_of_mem_drop (List.mem_of_mem_take hy)))
        (fun j k y z hy hz=>absurd hml (hw j y hy).2.2) (fun j k y z hy hz=>absurd hml (hw j y hy).2.2)
      ·rw [if_neg hml]
       simp only [Option.map_some,Qbu]
       exact .lst b (off+l*E.size) (m' - l) w fl _ (fun j k=>f (l+j) k) (by omega) (fun hf y hy=>hfl hf y (List.mem_of_mem_drop (List.mem_of_mem_take hy))) (fun y hy=>hcc y (List.mem_of_mem_drop (List.mem_of_mem_take hy)))
        (fun j k y z hy hz=>by
         obtain ⟨q1,q2,_⟩:=hw j y hy
         have:=hM (l+j) k y z q1 hz
         rw [←q2,show off+l*w+j*w+k=off+(l+j)*w+k by rw [Nat.add_mul]; omega]; exact this)
        (fun j k y z hy hz=>hr (l+j) k y z (hw j y hy).1 hz)
     rw [hlen] at key
     exact key
   ·cases he
  ·cases he
 ·rename_i ob ii n
  split at he
  ·rename_i ro nr fl w' xs hσ
   obtain ⟨q,hq,hrow⟩:=h.row _ _ _ _ _ _ _ hσ
   generalize hu:a.eval x=u at hx
   cases hx with
   | ref0 ad _ p hp hz =>
    have hpq:p=q:=by rw [hp] at hq; exact Option.some.inj hq
    subst hpq
    have hlenle:=hrow.len
    split at he
    ·rename_i l hh e1 e2
     split at he
     ·rename_i hc
      simp only [Bool.and_eq_true] at hc
      obtain ⟨⟨c1,c2⟩,c3⟩:=hc
      have c1:=Xu c1; have c2:=Xu c2
      have h0:hh=0:=by omega
      have l0:l=0:=by omega
      subst h0 l0
      cases he
      have hr0:=nz ad hu e1 e2 rfl
      rw [hu] at hr0
      exact ⟨_,hr0,.ref0 _ _ _ hp hz⟩
     ·cases he
    ·rename_i l hh m0 e1 e2
     split at he
     ·rename_i m em
      split at he
      ·rename_i hc
       simp only [Bool.and_eq_true] at hc
       obtain ⟨⟨⟨c1,c2⟩,c3⟩,c4⟩:=hc
       have c1:=Xu c1; have c2:=Xu c2; have c3:=Xu c3
       have m0:m=0:=by omega
       have h0:hh=0:=by omega
       have l0:l=0:=by omega
       subst m0 h0 l0
       cases he
       have hr0:=nz ad hu e1 e2 em
       rw [hu] at hr0
       exact ⟨_,hr0,.emp _⟩
      ·cases he
     ·cases he
    ·cases he
   | ref _ _ _ p off cap hp hi' hcap hoff =>
   have hpq:p=q:=by rw [hp] at hq; exact Option.some.inj hq
   subst hpq
   have hlenle:=hrow.len
   split at he
   ·rename_i l hh e1 e2
    split at he
    ·rename_i hc
     simp only [Bool.and_eq_true] at hc
     obtain ⟨⟨c1,c2⟩,c3⟩:=hc
     have c1:=Xu c1; have c2:=Xu c2; have c3:=Vd c3
     cases he
     have hsb:=V9 (P:=P) hs h1 h2 h3 e1 e2 (.inl ⟨rfl,rfl⟩) c1 (by omega:hh≤cap) (Nat.le_refl _) W
     have hr0:=hrun _ _ _ _ _ _ hu hsb
     rw [hu] at hr0
     refine ⟨_,hr0,?_⟩
     by_cases hml:cap=l
     ·rw [if_pos hml]
      exact .ref ob (ii+l) (hh - l) p off (cap - l) hp (by omega) (by omega) (.inr (by omega))
     ·rw [if_neg hml]
      simp only [Option.map_some,Qbu]
      refine .ref ob (ii+l) (hh - l) p _ (cap - l) hp (by omega) (by omega) (.inl ?_)
      rcases hoff with e | e
      ·rw [e,←c3,hrow.pw,Nat.add_mul]; omega
      ·omega
    ·cases he
   ·rename_i l hh m0 e1 e2
    split at he
    ·rename_i m em
     split at he
     ·rename_i hc
      simp only [Bool.and_eq_true] at hc
      obtain ⟨⟨⟨c1,c2⟩,c3⟩,c4⟩:=hc
      have c1:=Xu c1; have c2:=Xu c2; have c3:=Xu c3; have c4:=Vd c4
      cases he
      have hsb:=V9 (P:=P) hs h1 h2 h3 e1 e2 (.inr ⟨rfl,hmx rfl,em⟩) c1 c2 (by omega:m≤cap) W
      have hr0:=hrun _ _ _ _ _ _ hu hsb
      rw [hu] at hr0
      rw [if_pos c4,show hh - l=0 by omega,show m - l=0 by omega] at hr0
      exact ⟨_,hr0,.emp _⟩
     ·cases he
    ·cases he
   ·cases he
  ·cases he
 ·cases he
theorem Qwz (h:Rel P B W0 D M ι σ W) (hs:Qi M ι s a.tmps) {t:TypeId} {x:Operand} {lo hi mx:Option Operand} (ho:o.op=.slice t x lo hi mx) (he:evalOp P nf C σ fr s o=some (.val res)):Zc P B W0 D M ι σ fr a o W res:=by
 unfold evalOp at he
 rw [ho] at he
 simp only at he
 split at he
 ·cases he
 rename_i hmx0
 have hmx:mx.isSome=true→hi.isSome=true:=fun hm=>by
  cases hi with
  | none=>exact absurd (by simp [hm]) hmx0
  | some _=>rfl
 split at he
 ·rename_i T y lo' hi' mx' hT hx h1 h2 h3
  split at he
  ·rename_i e hk
   split at he
   ·rename_i E hE
    cases hz:J4 σ E.size y lo' hi' mx' with
    | none=>simp [hz] at he
    | some z =>
     simp [hz] at he
     subst he
     obtain ⟨d,i,g1,g2,g3,_⟩:=Zy hT
     rw [g3] at hk
     rw [Zt hk] at g1
     obtain ⟨v,hv,hr⟩:=Qo9 h hs g1 hE (Qg hs hx) h1 h2 h3 hz (fun hm=>by
      rcases Qax hs h3 with ⟨_,rfl⟩ | ⟨u,w,rfl,rfl,_⟩
      ·cases hm
      ·rcases Qax hs h2 with ⟨rfl,rfl⟩ | ⟨u',w',rfl,rfl,_⟩
       ·exact absurd (hmx rfl) (by simp)
       ·rfl)
     exact Qr h (v:=v) (by simp [execOp,ho,hv]) hr
   ·cases he
  ·cases he
 ·cases he
theorem Qot {u:TypeId} {U:TI} (hU:ti P u=some U) {cs:Array Value} {as:List AV} (hsz:cs.size=as.length) (hc:∀y∈as,AV.cell y=true)
  (hr:∀(j:Nat) (v:Value) (y:AV),cs[j]?=some v→as[j]?=some y→Qa M ι v y) {off:Nat} {x:AV} (hx:Qbg U (as.drop off)=some x) (W:World) :
  ∃v,(part u cs off).run P W=.ok v W∧Qa M ι v x:=by
 obtain ⟨d,i,g1,g2,g3,g4,_⟩:=Zy hU
 rcases Qms hU hx (fun y hy=>hc y (List.mem_of_mem_drop hy)) with ⟨hT,hlen,rfl⟩ | ⟨hT,r,he⟩
 ·refine ⟨.agg (cs.extract off (off+U.size)),by simp only [part,Sem.run_bind,Qfc hU,hT,Result.andThen_ok,if_true,Xv g2,g4,Sem.run_pure],?_⟩
  rw [List.length_drop] at hlen
  refine .agg _ _ (by simp; omega) (fun y hy=>hc y (List.mem_of_mem_drop (List.mem_of_mem_take hy))) (fun j v y hv hy=>?_)
  have hj:j < U.size:=by have:=(List.getElem?_eq_some_iff.1 hy).1; simp at this; omega
  rw [List.getElem?_take,if_pos hj,List.getElem?_drop] at hy
  rw [Array.getElem?_extract] at hv
  split at hv
  ·exact hr (off+j) v y hv hy
  ·cases hv
 ·have hx':as[off]?=some x:=by
   have:=List.getElem?_drop (xs:=as) (i:=off) (j:=0)
   rw [he] at this; simpa using this.symm
  have hlt:off < cs.size:=by rw [hsz]; exact (List.getElem?_eq_some_iff.1 hx').1
  have hg:=Array.getElem?_eq_getElem hlt
  refine ⟨cs[off],?_,hr off _ _ hg hx'⟩
  simp only [part,Sem.run_bind,Qfc hU,hT,Result.andThen_ok,Bool.false_eq_true,if_false,hg,Sem.run_pure]
theorem Qwh (h:Rel P B W0 D M ι σ W) (hs:Qi M ι s a.tmps) {t:TypeId} {x:Operand} {f:Nat} (ho:o.op=.field t x f) (he:evalOp P nf C σ fr s o=some (.val res)):Zc P B W0 D M ι σ fr a o W res:=by
 unfold evalOp at he
 rw [ho] at he
 simp only at he
 split at he
 ·rename_i T cs hT hx
  split at he
  ·rename_i fs hk
   split at he
   ·rename_i off u hf
    split at he
    ·rename_i U hU
     obtain ⟨z,hz,hr⟩:=Za he
     cases hr
     obtain ⟨d,i,g1,g2,g3,_⟩:=Zy hT
     rw [g3] at hk
     obtain ⟨gs,rfl,rfl⟩:=Qer hk
     simp only [List.getElem?_map,Option.map_eq_some_iff] at hf
     obtain ⟨fd,hfd,e⟩:=hf
     cases e
     have hv:=Qg hs hx
     generalize hu:a.eval x=w at hv
     cases hv with
     | agg cs' _ hsz hc hrr =>
     obtain ⟨v,hv,hrep⟩:=Qot hU hsz hc hrr hz W
     refine Qr h (v:=v) ?_ hrep
     have hfd':gs[f]?=some fd:=by simpa using hfd
     simp [execOp,ho,hu,Instr.field,run_underlying g1,hfd',asAgg,hv]
    ·cases he
   ·cases he
  ·cases he
 ·cases he
theorem Qv9 (h:Rel P B W0 D M ι σ W) (hs:Qi M ι s a.tmps) {t:TypeId} {x y:Operand} (ho:o.op=.index t x y) (he:evalOp P nf C σ fr s o=some (.val res)):Zc P B W0 D M ι σ fr a o W res:=by
 unfold evalOp at he
 rw [ho] at he
 simp only at he
 split at he
 ·rename_i T cs b hT hx hy
  split at he
  ·rename_i n e j hk hj
   split at he
   ·rename_i E hE
    split at he
    ·rename_i hlt
     have hlt:=Yd hlt
     obtain ⟨z,hz,hr⟩:=Za he
     cases hr
     obtain ⟨d,i,g1,g2,g3,_⟩:=Zy hT
     rw [g3] at hk
     rw [Qcw hk] at g1
     obtain ⟨d',i',g1',g2',g3',g4',_⟩:=Zy hE
     obtain ⟨k,hk'⟩:=Qfn (Qg hs hy) hj
     have hv:=Qg hs hx
     generalize hu:a.eval x=w at hv
     cases hv with
     | agg cs' _ hsz hc hrr =>
     obtain ⟨v,hv,hrep⟩:=Qot hE hsz hc hrr hz W
     refine Qr h (v:=v) ?_ hrep
     have h0:(0:Int)≤(j:Int)∧(j:Int) < (n:Int):=⟨by omega,by omega⟩
     simp only [execOp,ho,hu,hk',Sem.run_bind,Instr.index,asIntOf,Sem.run_pure,Result.andThen_ok,run_underlying g1,h0,if_true,and_self,Int.toNat_natCast,Xv g2',←g4',hv]
    ·cases he
   ·cases he
  ·cases he
 ·cases he
theorem Qpq (h:Rel P B W0 D M ι σ W) (hs:Qi M ι s a.tmps) {t:TypeId} {x:Operand} {f:Nat} (ho:o.op=.fieldAddr t x f) (he:evalOp P nf C σ fr s o=some (.val res)):Zc P B W0 D M ι σ fr a o W res:=by
 unfold evalOp at he
 rw [ho] at he
 simp only at he
 split at he
 ·rename_i T y hT hx
  split at he
  ·rename_i fs hk
   split at he
   ·rename_i off u hf
    split at he
    ·rename_i U hU
     split at he
     ·cases he
     ·rename_i hsz
      obtain ⟨d,i,g1,g2,g3,_⟩:=Zy hT
      rw [g3] at hk
      obtain ⟨gs,rfl,rfl⟩:=Qer hk
      simp only [List.getElem?_map,Option.map_eq_some_iff] at hf
      obtain ⟨fd,hfd,e⟩:=hf
      cases e
      obtain ⟨d',i',g1',g2',g3',g4',_⟩:=Zy hU
      have hfd':gs[f]?=some fd:=by simpa using hfd
      have hsz':¬ i'.size=0:=by rw [←g4']; exact hsz
      have hrun:∀b k,a.eval x=.pointer (some ⟨b,k,none⟩)→(execOp a.eval o).run P W=.ok (.value (.pointer (some ⟨b,k+fd.offset,none⟩))) W:=by
       intro b k hb
       simp [execOp,ho,hb,Instr.fieldAt,run_underlying g1,hfd',Instr.sureAddr,fieldPlace,Xv g2',hsz',Qbu]
      have hv:=Qg hs hx
      generalize hu:a.eval x=w at hv hrun
      split at he
      ·obtain ⟨z,hz,hr⟩:=Za he
       cases hr; cases hz
       cases hv with
       | fz b k cs g hcs hM hrr =>
       refine Qr h (hrun b k rfl) (.fz b _ _ (fun j=>g (fd.offset+j)) (fun z hz=>hcs z (List.mem_of_mem_drop hz)) (fun j z hz=>?_) (fun j z hz=>?_))
       ·rw [List.getElem?_drop] at hz
        rw [show k+fd.offset+j=k+(fd.offset+j) by omega]; exact hM _ z hz
       ·rw [List.getElem?_drop] at hz
        exact hrr _ z hz
      ·rename_i ob ii c
       obtain ⟨z,hz,hr⟩:=Za he
       cases hr; cases hz
       cases hv with
       | ptr _ _ _ p hp =>
       have:=hrun _ _ rfl
       refine Qr h this ?_
       rw [show p.base+ii*p.w+c+fd.offset=p.base+ii*p.w+(c+fd.offset) by omega]
       exact .ptr _ _ _ p hp
      ·cases he
    ·cases he
   ·cases he
  ·cases he
 ·cases he
theorem Qqb (h:Rel P B W0 D M ι σ W) (hs:Qi M ι s a.tmps) {t:TypeId} {x y:Operand} (ho:o.op=.indexAddr t x y) (he:evalOp P nf C σ fr s o=some (.val res)):Zc P B W0 D M ι σ fr a o W res:=by
 unfold evalOp at he
 rw [ho] at he
 simp only at he
 split at he
 ·rename_i T z b hT hx hy
  obtain ⟨d,i,g1,g2,g3,_⟩:=Zy hT
  have hv:=Qg hs hx
  split at he
  ·rename_i e j hk hj
   rw [g3] at hk
   rw [Zt hk] at g1
   obtain ⟨k,hk'⟩:=Qfn (Qg hs hy) hj
   split at he
   ·rename_i E hE
    obtain ⟨d',i',g1',g2',g3',g4',_⟩:=Zy hE
    have hrun:∀bl off len cap,a.eval x=.slice (some ⟨bl,off,none⟩) len cap→j < len→(execOp a.eval o).run P W=.ok (.value (.pointer (some ⟨bl,off+j*E.size,none⟩))) W:=by
     intro bl off len cap hb hlt
     have h0:(0:Int)≤(j:Int)∧(j:Int) < (len:Int):=⟨by omega,by omega⟩
     simp only [execOp,ho,hb,hk',Instr.indexAt,Sem.run_bind,asIntOf,Sem.run_pure,Result.andThen_ok,run_underlying g1,h0,and_self,if_true,Xv g2',Int.toNat_natCast,Qbu,g4']
    generalize hu:a.eval x=w at hv hrun
    split at he
    ·rename_i fl xs
     split at he
     ·rename_i u hxj
      split at he
      ·rename_i hlen
       obtain ⟨r,hr,hr'⟩:=Za he
       cases hr'; cases hr
       cases hv with
       | lst0=>simp at hxj
       | lst bl off cap w fl xs f hcap hfl hc hM hrr =>
       have hw:E.size=w:=by rw [←hlen]; exact (hc u (List.mem_of_getElem? hxj)).len
       refine Qr h (hrun bl off xs.length cap rfl (List.getElem?_eq_some_iff.1 hxj).1) (.fz bl _ _ (f j) (hc u (List.mem_of_getElem? hxj)).cells (fun q z hz=>?_) (fun q z hz=>hrr j q u z hxj hz))
       rw [hw]; exact hM j q u z hxj hz
      ·cases he
     ·cases he
    ·rename_i ob ii n
     split at he
     ·rename_i ro nr fl w' xs hσ
      split at he
      ·rename_i hc
       simp only [Bool.and_eq_true,decide_eq_true_eq] at hc
       obtain ⟨c1,c2⟩:=hc
       have c1:=Yd c1
       cases he
       obtain ⟨q,hq,hrow⟩:=h.row _ _ _ _ _ _ _ hσ
       cases hv with
       | ref0=>omega
       | ref _ _ _ p off cap hp hi' hcap hoff =>
       have hpq:p=q:=by rw [hp] at hq; exact Option.some.inj hq
       subst hpq
       have hr0:=hrun p.blk off n cap rfl c1
       refine Qr h hr0 ?_
       have hoff':off=p.base+ii*p.w:=by
        rcases hoff with e | e
        ·exact e
        ·omega
       rw [hoff',show p.base+ii*p.w+j*E.size=p.base+(ii+j)*p.w+0 by rw [hrow.pw,←c2,Nat.add_mul]; omega]
       exact .ptr _ _ _ p hp
      ·cases he
     ·cases he
    ·cases he
   ·cases he
  ·rename_i n e j hk hj
   rw [g3] at hk
   rw [Qcw hk] at g1
   obtain ⟨k,hk'⟩:=Qfn (Qg hs hy) hj
   split at he
   ·rename_i E hE
    obtain ⟨d',i',g1',g2',g3',g4',_⟩:=Zy hE
    split at he
    ·rename_i hlt
     have hlt:=Yd hlt
     have hrun:∀bl off,a.eval x=.pointer (some ⟨bl,off,none⟩)→(execOp a.eval o).run P W=.ok (.value (.pointer (some ⟨bl,off+j*E.size,none⟩))) W:=by
      intro bl off hb
      have h0:(0:Int)≤(j:Int)∧(j:Int) < (n:Int):=⟨by omega,by omega⟩
      simp only [execOp,ho,hb,hk',Instr.indexAt,Instr.sureAddr,Sem.run_bind,asIntOf,Sem.run_pure,Result.andThen_ok,run_underlying g1,h0,and_self,if_true,Xv g2',Int.toNat_natCast,Qbu,g4']
     generalize hu:a.eval x=w at hv hrun
     split at he
     ·obtain ⟨r,hr,hr'⟩:=Za he
      cases hr'; cases hr
      cases hv with
      | fz b k cs g hcs hM hrr =>
      refine Qr h (hrun b k rfl) (.fz b _ _ (fun q=>g (j*E.size+q)) (fun z hz=>hcs z (List.mem_of_mem_drop hz)) (fun q z hz=>?_) (fun q z hz=>?_))
      ·rw [List.getElem?_drop] at hz
       rw [show k+j*E.size+q=k+(j*E.size+q) by omega]; exact hM _ z hz
      ·rw [List.getElem?_drop] at hz
       exact hrr _ z hz
     ·rename_i ob ii c
      obtain ⟨r,hr,hr'⟩:=Za he
      cases hr'; cases hr
      cases hv with
      | ptr _ _ _ p hp =>
      have:=hrun _ _ rfl
      refine Qr h this ?_
      rw [show p.base+ii*p.w+c+j*E.size=p.base+ii*p.w+(c+j*E.size) by omega]
      exact .ptr _ _ _ p hp
     ·cases he
    ·cases he
   ·cases he
  ·cases he
 ·cases he
theorem Qxy (h:Rel P B W0 D M ι σ W) (hs:Qi M ι s a.tmps) {t:TypeId} {x:Operand} (ho:o.op=.load t x) (he:evalOp P nf C σ fr s o=some (.val res)):Zc P B W0 D M ι σ fr a o W res:=by
 unfold evalOp at he
 rw [ho] at he
 simp only at he
 split at he
 ·rename_i T cs hT hx
  obtain ⟨z,hz,hr⟩:=Za he
  cases hr
  have hv:=Qg hs hx
  generalize hu:a.eval x=w at hv
  cases hv with
  | fz b off cs f hcs hM hrr =>
  obtain ⟨v,h1,h2⟩:=Qdc (W:=W) (M:=M) (ι:=ι) hT hz hcs (b:=b) (off:=off) (fun j y hy=>⟨f j,h.agree _ _ _ (hM j y hy),(hrr j y hy).mono (CM.le_refl _) (Inj.noInj_le _)⟩)
  exact Qr h (v:=v) (by simp [execOp,ho,hu,Instr.loadAt,Instr.sureAddr,h1]) h2
 ·rename_i T ob ii c hT hx
  split at he
  ·rename_i bx ro nr fl w xs hσ
   split at he
   ·rename_i y hy
    cases hz:Qbg T (y.flat.drop c) with
    | none=>simp [hz] at he
    | some z =>
     simp [hz] at he
     subst he
     obtain ⟨p,hp,hrow⟩:=h.row _ _ _ _ _ _ _ hσ
     have hv:=Qg hs hx
     generalize hu:a.eval x=u at hv
     cases hv with
     | ptr _ _ _ p' hp' =>
     rw [hp] at hp'; cases hp'
     obtain ⟨v,h1,h2⟩:=Qdc (W:=W) (M:=M) (ι:=ι) hT hz (fun q hq=>(hrow.shaped y (List.mem_of_getElem? hy)).cells q (List.mem_of_mem_drop hq)) (b:=p.blk) (off:=p.base+ii*p.w+c) (fun j q hq=>by
      rw [List.getElem?_drop] at hq
      obtain ⟨v,hv,hr⟩:=hrow.cells ii (c+j) y q hy hq
      refine ⟨v,?_,hr⟩
      rw [hrow.pw,show p.base+ii*w+c+j=p.base+ii*w+(c+j) by omega]; exact hv)
     exact Qr h (v:=v) (by simp [execOp,ho,hu,Instr.loadAt,Instr.sureAddr,h1]) h2
   ·cases he
  ·cases he
 ·cases he
end
end Go.Ab
namespace Go.Ab
open Go.RowKit
section
variable {P:Program} {nf:Bool} {C:FuncId→List AV→Option Xp} {B:Nat} {W0 W W':World} {D:List Nat} {M:CM} {ι:Inj} {σ:Sto} {s:Slots} {a:Act} {fr:Nat} {o:Oper} {res:Res}
theorem Y6 {b:Builtin} {args:Array Operand} {ts:Array TypeId} (ho:o.op=.call { callee:=.builtin b,args,argTypes:=ts }) :
  ∃cs,(execOp a.eval o).run P W=(builtin b ts o.type cs (args.map a.eval)).run P W:=by
 refine ⟨args.map fun | .const _=>true | _=>false,?_⟩
 simp only [execOp,ho,resolve,Sem.run_bind,Sem.run_pure,Result.andThen_ok,invoke]
 rfl
theorem Q3y {α:Type} {xs:Array α} {x:α} (h:xs.toList=[x]):xs=#[x]:=by cases xs; simp_all
theorem Q02 {α:Type} {xs:Array α} {x y:α} (h:xs.toList=[x,y]):xs=#[x,y]:=by cases xs; simp_all
theorem Q0r (h:Rel P B W0 D M ι σ W) (hs:Qi M ι s a.tmps) {args:Array Operand} {ts:Array TypeId} (ho:o.op=.call { callee:=.builtin .len,args,argTypes:=ts }) (he:evalOp P nf C σ fr s o=some (.val res)):Zc P B W0 D M ι σ fr a o W res:=by
 unfold evalOp at he
 rw [ho] at he
 simp only at he
 obtain ⟨cs,hrun⟩:=Y6 (P:=P) (W:=W) (a:=a) ho
 unfold Qrq at he
 split at he <;> first | (cases he; done) | skip
 rename_i x t tr hargs hts
 have hargs':=Q3y hargs
 subst hargs'
 split at he
 ·rename_i T y hT hx
  obtain ⟨d,i,g1,g2,g3,_⟩:=Zy hT
  have ht0:ts[0]?=some t:=by cases ts; simp_all
  have hv:=Qg hs hx
  have fin:∀n:Int,(Builtin.len_ ts o.type #[a.eval x]).run P W=.ok (.int .i64 n) W→(execOp a.eval o).run P W=.ok (.value (.int .i64 n)) W:=by
   intro n hn
   rw [hrun]
   simp only [builtin,List.map_toArray,List.map_cons,List.map_nil,Sem.run_bind,hn,Result.andThen_ok,Sem.run_pure]
  generalize hu:a.eval x=u at hv fin
  split at he
  ·rename_i e hk
   obtain ⟨z,hz,hr⟩:=Za he
   cases hr; cases hz
   rw [g3] at hk; rw [Zt hk] at g1
   cases hv
   exact Qr h (fin 0 (by simp [Builtin.len_,ht0,run_underlying g1,goInt])) (.int _ _)
  ·rename_i e hk
   obtain ⟨z,hz,hr⟩:=Za he
   cases hr; cases hz
   rw [g3] at hk; rw [Zt hk] at g1
   cases hv
   exact Qr h (fin 0 (by simp [Builtin.len_,ht0,run_underlying g1,goInt])) (.int _ _)
  ·rename_i e hk
   obtain ⟨z,hz,hr⟩:=Za he
   cases hr; cases hz
   rw [g3] at hk; rw [Zt hk] at g1
   cases hv
   exact Qr h (fin 0 (by simp [Builtin.len_,ht0,run_underlying g1,goInt])) (.int _ _)
  ·rename_i e fl xs hk
   obtain ⟨z,hz,hr⟩:=Za he
   cases hr; cases hz
   rw [g3] at hk; rw [Zt hk] at g1
   cases hv with
   | lst0=>exact Qr h (fin 0 (by simp [Builtin.len_,ht0,run_underlying g1,goInt])) (.int _ _)
   | lst=>exact Qr h (fin xs.length (by simp [Builtin.len_,ht0,run_underlying g1,goInt])) (.int _ _)
  ·rename_i e q1 q2 n hk
   obtain ⟨z,hz,hr⟩:=Za he
   cases hr; cases hz
   rw [g3] at hk; rw [Zt hk] at g1
   cases hv with
   | ref0=>exact Qr h (fin 0 (by simp [Builtin.len_,ht0,run_underlying g1,goInt])) (.int _ _)
   | ref=>exact Qr h (fin n (by simp [Builtin.len_,ht0,run_underlying g1,goInt])) (.int _ _)
  ·rename_i n e hk
   obtain ⟨z,hz,hr⟩:=Za he
   cases hr; cases hz
   rw [g3] at hk; rw [Qcw hk] at g1
   exact Qr h (fin n (by simp [Builtin.len_,ht0,run_underlying g1,goInt])) (.int _ _)
  ·cases he
 ·cases he
theorem Qlc:∀{xs:List AV} {x z:AV} {vs:List Value} {v:Value},Qed x xs=some z→Qa M ι v x→vs.length=xs.length→(∀(j:Nat) (u:Value) (y:AV),vs[j]?=some u→xs[j]?=some y→Qa M ι u y) →
  ∃r,(vs.foldlM Builtin.min2 v).run P W=.ok r W∧Qa M ι r z
 | [],x,z,vs,v,h,hv,hl,hr=>by
  simp [Qed] at h; subst h
  have:vs=[]:=List.eq_nil_of_length_eq_zero hl
  subst this
  exact ⟨v,by simp,hv⟩
 | y::ys,x,z,vs,v,h,hv,hl,hr=>by
  cases vs with
  | nil=>simp at hl
  | cons u us =>
   have hu:=hr 0 u y rfl rfl
   cases x with
   | int k p=>cases y with
    | int k' q =>
     simp only [Qed] at h
     split at h
     ·rename_i hk
      subst hk
      rw [hv.int_inv,hu.int_inv]
      obtain ⟨r,h1,h2⟩:=Qlc (v:=.int k (if q < p then q else p)) h (.int _ _) (by simpa using hl) (fun j u' y' a b=>hr (j+1) u' y' (by simpa using a) (by simpa using b))
      exact ⟨r,by simpa [List.foldlM_cons,Builtin.min2] using h1,h2⟩
     ·cases h
    | _=>simp [Qed] at h
   | _=>simp [Qed] at h
theorem Qk3:∀{xs:List AV} {x z:AV} {vs:List Value} {v:Value},Qec x xs=some z→Qa M ι v x→vs.length=xs.length→(∀(j:Nat) (u:Value) (y:AV),vs[j]?=some u→xs[j]?=some y→Qa M ι u y) →
  ∃r,(vs.foldlM Builtin.max2 v).run P W=.ok r W∧Qa M ι r z
 | [],x,z,vs,v,h,hv,hl,hr=>by
  simp [Qec] at h; subst h
  have:vs=[]:=List.eq_nil_of_length_eq_zero hl
  subst this
  exact ⟨v,by simp,hv⟩
 | y::ys,x,z,vs,v,h,hv,hl,hr=>by
  cases vs with
  | nil=>simp at hl
  | cons u us =>
   have hu:=hr 0 u y rfl rfl
   cases x with
   | int k p=>cases y with
    | int k' q =>
     simp only [Qec] at h
     split at h
     ·rename_i hk
      subst hk
      rw [hv.int_inv,hu.int_inv]
      obtain ⟨r,h1,h2⟩:=Qk3 (v:=.int k (if q > p then q else p)) h (.int _ _) (by simpa using hl) (fun j u' y' a b=>hr (j+1) u' y' (by simpa using a) (by simpa using b))
      exact ⟨r,by simpa [List.foldlM_cons,Builtin.max2] using h1,h2⟩
     ·cases h
    | _=>simp [Qec] at h
   | _=>simp [Qec] at h
theorem Q09 (h:Rel P B W0 D M ι σ W) (hs:Qi M ι s a.tmps) {args:Array Operand} {ts:Array TypeId} (ho:o.op=.call { callee:=.builtin .cap,args,argTypes:=ts }) (he:evalOp P nf C σ fr s o=some (.val res)):Zc P B W0 D M ι σ fr a o W res:=by
 unfold evalOp at he
 rw [ho] at he
 simp only at he
 obtain ⟨cs,hrun⟩:=Y6 (P:=P) (W:=W) (a:=a) ho
 unfold Qxa at he
 split at he <;> first | (cases he; done) | skip
 rename_i x t tr hargs hts
 have hargs':=Q3y hargs
 subst hargs'
 split at he
 ·rename_i T y hT hx
  obtain ⟨d,i,g1,g2,g3,_⟩:=Zy hT
  have ht0:ts[0]?=some t:=by cases ts; simp_all
  have hv:=Qg hs hx
  have fin:∀n:Int,(Builtin.cap_ ts o.type #[a.eval x]).run P W=.ok (.int .i64 n) W→(execOp a.eval o).run P W=.ok (.value (.int .i64 n)) W:=by
   intro n hn
   rw [hrun]
   simp only [builtin,List.map_toArray,List.map_cons,List.map_nil,Sem.run_bind,hn,Result.andThen_ok,Sem.run_pure]
  generalize hu:a.eval x=u at hv fin
  split at he
  ·rename_i e hk
   obtain ⟨z,hz,hr⟩:=Za he
   cases hr; cases hz
   rw [g3] at hk; rw [Zt hk] at g1
   cases hv
   exact Qr h (fin 0 (by simp [Builtin.cap_,ht0,run_underlying g1,goInt])) (.int _ _)
  ·rename_i e hk
   obtain ⟨z,hz,hr⟩:=Za he
   cases hr; cases hz
   rw [g3] at hk; rw [Zt hk] at g1
   cases hv
   exact Qr h (fin 0 (by simp [Builtin.cap_,ht0,run_underlying g1,goInt])) (.int _ _)
  ·cases he
 ·cases he
theorem Qmt (h:Rel P B W0 D M ι σ W) (hs:Qi M ι s a.tmps) {b:Builtin} (hb:b=.min∨b=.max) {args:Array Operand} {ts:Array TypeId} (ho:o.op=.call { callee:=.builtin b,args,argTypes:=ts }) (he:evalOp P nf C σ fr s o=some (.val res)):Zc P B W0 D M ι σ fr a o W res:=by
 obtain ⟨cs,hrun⟩:=Y6 (P:=P) (W:=W) (a:=a) ho
 have key:∃x xs p ps,args.toList=x::xs∧evo s x=some p∧Jw s xs=some ps∧(b=.min→Xa fr (Qed p ps)=some (.val res))∧(b=.max→Xa fr (Qec p ps)=some (.val res)):=by
  unfold evalOp at he
  rw [ho] at he
  rcases hb with rfl | rfl
  ·simp only [Qxp] at he
   split at he <;> first | (cases he; done) | skip
   rename_i x xs hargs
   split at he
   ·rename_i p ps hp hps
    exact ⟨x,xs,p,ps,hargs,hp,hps,fun _=>he,(fun h=>by cases h)⟩
   ·cases he
  ·simp only [Qv8] at he
   split at he <;> first | (cases he; done) | skip
   rename_i x xs hargs
   split at he
   ·rename_i p ps hp hps
    exact ⟨x,xs,p,ps,hargs,hp,hps,(fun h=>by cases h),fun _=>he⟩
   ·cases he
 obtain ⟨x,xs,p,ps,hargs,hp,hps,k1,k2⟩:=key
 obtain ⟨l1,g1⟩:=Vn hs hps
 have hal:(args.map a.eval).toList=a.eval x::xs.map a.eval:=by rw [Array.toList_map,hargs]; rfl
 have hrep:∀(j:Nat) (u:Value) (y:AV),(xs.map a.eval)[j]?=some u→ps[j]?=some y→Qa M ι u y:=by
  intro j u y hu hy
  simp only [List.getElem?_map,Option.map_eq_some_iff] at hu
  obtain ⟨w,hw,rfl⟩:=hu
  exact (g1 j w y hw hy).2
 rcases hb with rfl | rfl
 ·obtain ⟨z,hz,hr⟩:=Za (k1 rfl)
  cases hr
  obtain ⟨r,r1,r2⟩:=Qlc (P:=P) (W:=W) hz (Qg hs hp) (by simp [l1]) hrep
  refine Qr h (v:=r) ?_ r2
  rw [hrun]
  simp only [builtin,Builtin.min_,hal,Sem.run_bind,r1,Result.andThen_ok,Sem.run_pure]
 ·obtain ⟨z,hz,hr⟩:=Za (k2 rfl)
  cases hr
  obtain ⟨r,r1,r2⟩:=Qk3 (P:=P) (W:=W) hz (Qg hs hp) (by simp [l1]) hrep
  refine Qr h (v:=r) ?_ r2
  rw [hrun]
  simp only [builtin,Builtin.max_,hal,Sem.run_bind,r1,Result.andThen_ok,Sem.run_pure]
theorem Qew (hs:Qi M ι s a.tmps):∀{ps:List (Nat × Operand)} {qs:List (Nat × AV)},Kx s ps=some qs →
  qs.length=ps.length∧∀(j:Nat) (p:Nat × Operand) (q:Nat × AV),ps[j]?=some p→qs[j]?=some q→q.1=p.1∧Qa M ι (a.eval p.2) q.2
 | [],qs,h=>by simp [Kx] at h; subst h; simp
 | (i,x)::ps,qs,h=>by
  simp only [Kx] at h
  split at h
  ·rename_i b bs h1 h2
   cases h
   obtain ⟨e1,e2⟩:=Qew hs h2
   refine ⟨by simp [e1],fun j u y hu hy=>?_⟩
   cases j with
   | zero=>simp at hu hy; subst hu; subst hy; exact ⟨rfl,Qg hs h1⟩
   | succ j=>exact e2 j u y (by simpa using hu) (by simpa using hy)
  ·cases h
theorem Qqo (vs:List Value):∀(off k:Nat) (cs:Array Value),off+k+vs.length≤cs.size →
  ((vs.zipIdx k).foldl (fun cs (c,j)=>cs.setIfInBounds (off+j) c) cs).toList=cs.toList.take (off+k)++vs++cs.toList.drop (off+k+vs.length):=by
 induction vs with
 | nil=>intro off k cs h; simp
 | cons v vs ih =>
  intro off k cs h
  simp only [List.length_cons] at h
  simp only [List.zipIdx_cons,List.foldl_cons]
  rw [ih off (k+1) _ (by simp; omega)]
  have h1:(cs.setIfInBounds (off+k) v).toList=cs.toList.set (off+k) v:=by simp
  rw [h1,show off+(k+1)=off+k+1 by omega]
  have h2:(cs.toList.set (off+k) v).take (off+k+1)=cs.toList.take (off+k)++[v]:=by
   rw [List.take_add_one,List.take_set_of_le (by omega)]
   simp [List.getElem?_set,show off+k < cs.size by omega]
  rw [h2,List.drop_set_of_lt (by omega)]
  simp only [List.append_assoc,List.singleton_append,List.length_cons]
  rw [show off+k+1+vs.length=off+k+(vs.length+1) by omega]
theorem Qnk {x:AV} (h:x.okv=true):x=.agg x.flat ∨ x.cell=true:=by
 cases x <;> simp_all [AV.okv,AV.flat,AV.cell]
theorem Qik {place:Nat → Option (Nat × Nat)} {place':Nat → Option (Nat × Nat)} (hp:∀i p,place' i=some p→place i=some p) :
  ∀{qs:List (Nat × AV)} {ps:List (Nat × Value)} {cs:Array Value} {as bs:List AV},qs.length=ps.length→(∀(j:Nat) (p:Nat × Value) (q:Nat × AV),ps[j]?=some p→qs[j]?=some q→q.1=p.1∧Qa M ι p.2 q.2) →
  cs.size=as.length→(∀y∈as,AV.cell y=true)→(∀(j:Nat) (v:Value) (y:AV),cs[j]?=some v→as[j]?=some y→Qa M ι v y)→Qch place' as qs=some bs →
  ∃ds,Instr.fill place cs ps=some ds∧ds.size=bs.length∧(∀y∈bs,AV.cell y=true)∧∀(j:Nat) (v:Value) (y:AV),ds[j]?=some v→bs[j]?=some y→Qa M ι v y
 | [],ps,cs,as,bs,hl,hr,hsz,hc,hcr,h=>by
  have:ps=[]:=List.eq_nil_of_length_eq_zero hl.symm
  subst this
  simp [Qch] at h; subst h
  exact ⟨cs,rfl,hsz,hc,hcr⟩
 | (i,x)::qs,ps,cs,as,bs,hl,hr,hsz,hc,hcr,h=>by
  cases ps with
  | nil=>simp at hl
  | cons p ps =>
   obtain ⟨e1,e2⟩:=hr 0 p (i,x) rfl rfl
   simp only at e1 e2
   simp only [Qch] at h
   split at h
   ·rename_i off size hpl
    split at h
    ·rename_i hcond
     simp only [Bool.and_eq_true] at hcond
     obtain ⟨⟨c0,c1⟩,c2⟩:=hcond
     have c1:=Vd c1
     have c2:=Xu c2
     have hcells:=e2.cells (Qnk c0)
     obtain ⟨d1,d2,d3⟩:=hcells
     have hsize:p.2.cells.size=size:=by rw [d1,c1]
     have hfit:¬ (p.2.cells.size≠size∨off+p.2.cells.size > cs.size):=by rw [hsize,hsz]; omega
     have hfold:=Qqo p.2.cells.toList off 0 cs (by simp only [Array.length_toList]; omega)
     simp only [Nat.add_zero,Array.length_toList,hsize] at hfold
     obtain ⟨ds,f1,f2,f3,f4⟩:=Qik hp (qs:=qs) (ps:=ps) (cs:=p.2.cells.zipIdx.foldl (fun cs (c,j)=>cs.setIfInBounds (off+j) c) cs) (bs:=bs) (by simpa using hl)
      (fun j p' q' a b=>hr (j+1) p' q' (by simpa using a) (by simpa using b)) (by
       rw [←Array.length_toList,←Array.foldl_toList,Array.toList_zipIdx,hfold]
       simp only [List.length_append,List.length_take,List.length_drop,Array.length_toList,hsize,hsz,c1]) (fun y hy=>by
       simp only [List.mem_append] at hy
       rcases hy with (hy | hy) | hy
       ·exact hc y (List.mem_of_mem_take hy)
       ·exact d3 y hy
       ·exact hc y (List.mem_of_mem_drop hy)) (fun j v y hv hy=>by
       rw [←Array.getElem?_toList,←Array.foldl_toList,Array.toList_zipIdx,hfold] at hv
       have l1:(cs.toList.take off).length=off:=by simp; omega
       have l2:(as.take off).length=off:=by simp; omega
       rcases Nat.lt_or_ge j off with hj | hj
       ·rw [List.append_assoc,List.getElem?_append_left (by omega),List.getElem?_take,if_pos hj] at hv hy
        exact hcr j v y (by simpa using hv) hy
       ·rw [List.append_assoc,List.getElem?_append_right (by omega),l1] at hv
        rw [List.append_assoc,List.getElem?_append_right (by omega),l2] at hy
        rcases Nat.lt_or_ge (j - off) size with hj2 | hj2
        ·rw [List.getElem?_append_left (by simp [hsize]; omega)] at hv
         rw [List.getElem?_append_left (by omega)] at hy
         exact (d2 (j - off) v y (by simpa using hv) hy).1
        ·rw [List.getElem?_append_right (by simp [hsize]; omega),List.getElem?_drop] at hv
         rw [List.getElem?_append_right (by omega),List.getElem?_drop] at hy
         simp only [Array.length_toList,hsize] at hv
         rw [c1] at hy
         exact hcr _ v y (by simpa using hv) hy) h
     refine ⟨ds,?_,f2,f3,f4⟩
     simp only [Instr.fill,←e1,hp i _ hpl]
     rw [if_neg (by simpa using hfit)]
     exact f1
    ·cases h
   ·cases h
end
end Go.Ab
namespace Go.Ab
open Go.RowKit
section
variable {P:Program} {nf:Bool} {C:FuncId→List AV→Option Xp} {B:Nat} {W0 W W':World} {D:List Nat} {M:CM} {ι:Inj} {σ:Sto} {s:Slots} {a:Act} {fr:Nat} {o:Oper} {res:Res}
theorem Qa.shaped_of {v:Value} {x:AV} (h:Qa M ι v x) (hk:x.okv=true):x.shaped x.flat.length :=
 ⟨Qnk hk,rfl,(h.cells (Qnk hk)).2.2⟩
theorem Qa1 {t:TypeId} {T:TI} (ht:ti P t=some T) {z:AV} (hz:T.zero=some z):∃i zv,P.info? t=some i∧i.zero=some zv∧T.size=i.size∧(∀M ι,Qa M ι zv z)∧z.shaped zv.cells.size:=by
 obtain ⟨d,i,h1,h2,h3,h4,h5,h6,h7,h8,_⟩:=Zy ht
 rw [h7] at hz
 cases hi:i.zero with
 | none=>simp [hi] at hz
 | some zv =>
  simp [hi] at hz
  exact ⟨i,zv,h2,hi,h4,fun M ι=>(Qfw (M:=M) (ι:=ι) hz).1,(Qfw (M:=M0) (ι:=noInj) hz).2⟩
theorem Vw {t:TypeId} {i:TypeInfo} (h:P.info? t=some i) {z:Value} (hz:i.zero=some z) (W:World):(zeroValue t).run P W=.ok z W:=by simp [zeroValue,typeInfo,h,hz]
theorem Qnc (h:Rel P B W0 D M ι σ W) (hfr:ι fr=none) {c:Array Value} {e:TypeId} {bx nr fl:Bool} {w cap:Nat} {xs:List AV} {v:Value} {x:AV} {rd:List Nat}
  (hrun:(execOp a.eval o).run P W=.ok (.value v) (W.alloc (.cells c e)))
  (pos:0 < w) (cpos:0 < cap) (hc:c.size=cap*w) (hl:xs.length≤cap) (hs:∀x∈xs,AV.shaped x w) (hnr:nr=true→AV.nrL xs=true) (hfl:fl=true→∀x∈xs,AV.scs x=true)
  (hcells:∀(i j:Nat) (x y:AV),xs[i]?=some x→x.flat[j]?=some y→∃v,c[i*w+j]?=some v∧Qa M ι v y)
  (hv:∀ι',ι' fr=some ⟨W.heap.size,0,w,cap⟩→Qa M ι' v x) :
  Zc P B W0 D M ι σ fr a o W ⟨some x,[(fr,.row bx false nr fl w xs)],fr+1,rd⟩:=by
 refine ⟨v,_,M,ι.put fr ⟨W.heap.size,0,w,cap⟩,.inl hrun,.refl _ _,Inj.le_put _ hfr,fun k hk=>Inj.put_ne _ _ ?_,h.allocRow hfr c e pos cpos hc hl hs hnr hfl hcells,fun y hy=>?_⟩
 ·simp at hk; omega
 ·cases hy; exact hv _ (Inj.put_same _ _ _)
theorem Qw0 (h:Rel P B W0 D M ι σ W) (hfr:∀k,fr≤k→k < res.fr→ι k=none) {t:TypeId} (ho:o.op=.alloc t) (he:evalOp P nf C σ fr s o=some (.val res)):Zc P B W0 D M ι σ fr a o W res:=by
 unfold evalOp at he
 rw [ho] at he
 simp only at he
 split at he
 ·rename_i T hT
  split at he
  ·rename_i z hz
   split at he
   ·rename_i hc
    simp only [Bool.and_eq_true] at hc
    obtain ⟨c1,c2⟩:=hc
    have c1:=Vd c1; have c2:=Yd c2
    cases he
    obtain ⟨i,zv,h2,hi,h4,hrep,hsh⟩:=Qa1 hT hz
    have hsz:zv.cells.size=T.size:=by rw [←hsh.len,c1]
    refine Qnc h (hfr fr (Nat.le_refl _) (by simp)) (c:=zv.cells) (e:=t) (v:=.pointer (some ⟨W.heap.size,0,none⟩)) (cap:=1) ?_ c2 (by omega) (by omega) (by simp) (fun x hx=>?_) (fun hn=>by simpa [AV.nrL] using hn) (fun hf x hx=>by simp at hx; subst hx; exact hf) (fun i j x y hi' hj=>?_) (fun ι' hι=>?_)
    ·simp [execOp,ho,Instr.alloc,Vw h2 hi,newVar,newRow]
    ·simp at hx; subst hx; rw [←hsz]; exact hsh
    ·cases i with
     | zero =>
      simp at hi'; subst hi'
      have hj':j < zv.cells.size:=by rw [←hsh.len]; exact (List.getElem?_eq_some_iff.1 hj).1
      exact ⟨zv.cells[j],by simpa using Array.getElem?_eq_getElem hj',(((hrep M ι).cells hsh.form).2.1 j _ y (Array.getElem?_eq_getElem hj') hj).1⟩
     | succ i=>simp at hi'
    ·have:=Qa.ptr (M:=M) (ι:=ι') fr 0 0 ⟨W.heap.size,0,T.size,1⟩ hι
     simpa using this
   ·cases he
  ·cases he
 ·cases he
theorem Q1q (h:Rel P B W0 D M ι σ W) (hs:Qi M ι s a.tmps) (hfr:∀k,fr≤k→k < res.fr→ι k=none) {t:TypeId} {x:Operand} (ho:o.op=.box t x) (he:evalOp P nf C σ fr s o=some (.val res)):Zc P B W0 D M ι σ fr a o W res:=by
 unfold evalOp at he
 rw [ho] at he
 simp only at he
 split at he
 ·rename_i T z hT hz
  split at he
  ·rename_i hc
   simp only [Bool.and_eq_true] at hc
   obtain ⟨⟨c0,c1⟩,c2⟩:=hc
   have c1:=Vd c1; have c2:=Yd c2
   cases he
   have hrep:=Qg hs hz
   have hsh:=hrep.shaped_of c0
   rw [c1] at hsh
   obtain ⟨d1,d2,d3⟩:=hrep.cells hsh.form
   refine Qnc h (hfr fr (Nat.le_refl _) (by simp)) (c:=(a.eval x).cells) (e:=t) (v:=.pointer (some ⟨W.heap.size,0,none⟩)) (cap:=1) ?_ c2 (by omega) (by omega) (by simp) (fun y hy=>?_) (fun hn=>by simpa [AV.nrL] using hn) (fun hf y hy=>by simp at hy; subst hy; exact hf) (fun i j y q hi' hj=>?_) (fun ι' hι=>?_)
   ·simp [execOp,ho,Instr.box,newVar,newRow]
   ·simp at hy; subst hy; exact hsh
   ·cases i with
    | zero =>
     simp at hi'; subst hi'
     have hj':j < (a.eval x).cells.size:=by rw [d1]; exact (List.getElem?_eq_some_iff.1 hj).1
     exact ⟨(a.eval x).cells[j],by simpa using Array.getElem?_eq_getElem hj',(d2 j _ q (Array.getElem?_eq_getElem hj') hj).1⟩
    | succ i=>simp at hi'
   ·have:=Qa.ptr (M:=M) (ι:=ι') fr 0 0 ⟨W.heap.size,0,T.size,1⟩ hι
    simpa using this
  ·cases he
 ·cases he
theorem Qir {z:Value} {x:AV} (hrep:Qa M ι z x) (hsh:x.shaped z.cells.size) {n m:Nat} (hnm:n≤m) (i j:Nat) (y u:AV) (hi:(List.replicate n x)[i]?=some y) (hj:y.flat[j]?=some u) :
  ∃v,((Array.range (m*z.cells.size)).map (z.cells[· % z.cells.size]!))[i*z.cells.size+j]?=some v∧Qa M ι v u:=by
 have hin:i < n:=by have:=(List.getElem?_eq_some_iff.1 hi).1; simpa using this
 rw [List.getElem?_replicate] at hi
 split at hi
 ·cases hi
  have hjz:j < z.cells.size:=by rw [←hsh.len]; exact (List.getElem?_eq_some_iff.1 hj).1
  have hlt:i*z.cells.size+j < m*z.cells.size:=by
   calc i*z.cells.size+j < (i+1)*z.cells.size:=by rw [Nat.succ_mul]; omega
     _≤m*z.cells.size:=Nat.mul_le_mul_right _ (by omega)
  refine ⟨z.cells[j],?_,((hrep.cells hsh.form).2.1 j _ u (Array.getElem?_eq_getElem hjz) hj).1⟩
  have hmod:(i*z.cells.size+j) % z.cells.size=j:=by rw [Nat.mul_comm,Nat.mul_add_mod,Nat.mod_eq_of_lt hjz]
  rw [Array.getElem?_map,Array.getElem?_eq_getElem (by simpa using hlt)]
  simp [hmod,hjz]
 ·rename_i hn
  exact absurd hin hn
theorem Qpv (h:Rel P B W0 D M ι σ W) (hs:Qi M ι s a.tmps) (hfr:∀k,fr≤k→k < res.fr→ι k=none) {t:TypeId} {x y:Operand} (ho:o.op=.makeSlice t x y) (he:evalOp P nf C σ fr s o=some (.val res)):Zc P B W0 D M ι σ fr a o W res:=by
 unfold evalOp at he
 rw [ho] at he
 simp only at he
 split at he
 ·rename_i T p q hT hp hq
  split at he
  ·rename_i e n m hk hn hm
   split at he
   ·rename_i E hE
    split at he
    ·rename_i z hz
     split at he
     ·rename_i hc
      simp only [Bool.and_eq_true] at hc
      obtain ⟨⟨⟨⟨c1,c2⟩,c3⟩,c4⟩,c5⟩:=hc
      have c1:=Xu c1; have c3:=Xu c3; have c4:=Vd c4; have c5:=Yd c5
      obtain ⟨d,i0,g1,g2,g3,_⟩:=Zy hT
      rw [g3] at hk; rw [Zt hk] at g1
      obtain ⟨i,zv,h2,hi,h4,hrep,hsh⟩:=Qa1 hE hz
      obtain ⟨_,i',_,h2',_,_,hby,_⟩:=Zy hE
      rw [h2] at h2'; cases h2'
      have hsz:zv.cells.size=E.size:=by rw [←hsh.len,c4]
      obtain ⟨k1,hk1⟩:=Qfn (Qg hs hp) hn
      obtain ⟨k2,hk2⟩:=Qfn (Qg hs hq) hm
      have hb:(i.bytes:Int)*(m:Int)≤281474976710656:=by
       simp only [Yu,Bool.and_eq_true] at c2
       have c2:=Xu c2.2
       rw [hby] at c2
       have:i.bytes*m≤140737488355328:=by rw [Nat.mul_comm]; exact c2
       have:((i.bytes*m:Nat):Int)≤281474976710656:=by omega
       rwa [Int.natCast_mul] at this
      have hmk:=run_make (P:=P) W t e i zv g1 h2 hi k1 k2 (n:Int) (m:Int) (by omega) (by omega) hb (by omega)
      simp only [Int.toNat_natCast] at hmk
      have hrun:(execOp a.eval o).run P W=.ok (.value (.slice (some ⟨W.heap.size,0,none⟩) n m)) (W.alloc (.cells (madeCells zv.cells (m*i.size)) e)):=by
       simp only [execOp,ho,hk1,hk2,Sem.run_bind,hmk,Result.andThen_ok,Sem.run_pure]
      by_cases hm0:m=0
      ·cases he
       subst hm0
       have hn0:n=0:=by omega
       subst hn0
       have hnone:=hfr fr (Nat.le_refl _) (by simp)
       exact ⟨_,_,M,ι.put fr ⟨B,0,E.size,0⟩,.inl hrun,.refl _ _,Inj.le_put _ hnone,fun k hk=>Inj.put_ne _ _ (by simp only at hk; omega),(h.alloc _ _).virt hnone c5,fun y hy=>by cases hy; exact .ref0 _ _ _ (Inj.put_same _ _ _) rfl⟩
      ·cases he
       refine Qnc h (hfr fr (Nat.le_refl _) (by simp)) (cap:=m) hrun c5 (by omega) ?_ ?_ (fun x hx=>?_) (fun hnr=>?_) (fun hf x hx=>?_) (fun a' j y u hi' hj=>?_) (fun ι' hι=>?_)
       ·rw [size_madeCells,←h4]
       ·simpa using c1
       ·have:=List.eq_of_mem_replicate hx; subst this; rw [←hsz]; exact hsh
       ·rw [Qx]; intro x hx; have:=List.eq_of_mem_replicate hx; subst this; exact hnr
       ·have:=List.eq_of_mem_replicate hx; subst this; exact hf
       ·have:=Qir (hrep M ι) hsh c1 a' j y u hi' hj
        rw [hsz] at this
        simp only [madeCells,←h4]
        have hsz':=hsz
        simpa [hsz] using this
       ·have:=Qa.ref (M:=M) (ι:=ι') fr 0 n ⟨W.heap.size,0,E.size,m⟩ 0 m hι (by simpa using c1) (by simp) (.inl (by simp))
        exact this
     ·cases he
    ·cases he
   ·cases he
  ·cases he
 ·cases he
theorem Qjt {α β:Type} {f:α→Sem β} {g:α→β}:∀(xs:List α),(∀x∈xs,(f x).run P W=.ok (g x) W)→(xs.mapM f).run P W=.ok (xs.map g) W
 | [],_=>by simp
 | x::xs,h=>by
  rw [List.mapM_cons]
  simp only [Sem.run_bind,h x (by simp),Result.andThen_ok,Qjt xs (fun y hy=>h y (by simp [hy])),Sem.run_pure,List.map_cons]
theorem Qo7 {α β:Type} {f:α→Sem β} {g:α→β} (xs:Array α) (h:∀x∈xs.toList,(f x).run P W=.ok (g x) W):(xs.mapM f).run P W=.ok (xs.map g) W:=by
 rw [Array.mapM_eq_mapM_toList]
 refine (Sem.run_map P W _ _).trans ?_
 rw [Qjt (g:=g) xs.toList h]
 have:(xs.toList.map g).toArray=xs.map g:=Array.ext' (by simp)
 show Result.ok ((xs.toList.map g).toArray) W=_
 rw [this]
theorem Qwy (h:Rel P B W0 D M ι σ W) (hs:Qi M ι s a.tmps) {t:TypeId} {ps:Array (Nat × Operand)} (ho:o.op=.build t ps) (he:evalOp P nf C σ fr s o=some (.val res)):Zc P B W0 D M ι σ fr a o W res:=by
 unfold evalOp at he
 rw [ho] at he
 simp only at he
 split at he
 ·rename_i T parts hT hps
  split at he
  ·cases he
  ·rename_i hfok
   obtain ⟨d,i0,g1,g2,g3,g4,_,_,g7,_,g9⟩:=Zy hT
   obtain ⟨l1,q1⟩:=Qew hs hps
   have hrepP:∀(j:Nat) (p:Nat × Value) (q:Nat × AV),((ps.map fun (i,x)=>(i,a.eval x)).toList)[j]?=some p→parts[j]?=some q→q.1=p.1∧Qa M ι p.2 q.2:=by
    intro j p q hp hq
    simp only [Array.toList_map,List.getElem?_map,Option.map_eq_some_iff] at hp
    obtain ⟨w,hw,rfl⟩:=hp
    exact q1 j w q hw hq
   have hlen:parts.length=((ps.map fun (i,x)=>(i,a.eval x)).toList).length:=by simp [l1]
   split at he
   ·rename_i fs z hk hz
    split at he
    ·rename_i cs hfill
     cases he
     rw [g3] at hk
     obtain ⟨gs,rfl,rfl⟩:=Qer hk
     simp only [Bool.not_eq_true,Bool.not_eq_false'] at hfok
     rw [g9] at hfok
     simp only [List.all_eq_true] at hfok
     have hmap:∀W,(gs.mapM fun f=>do pure (f.offset,←sizeOf f.type):Sem (Array (Nat × Nat))).run P W=.ok (gs.map fun f=>(f.offset,P.cellsOf f.type)) W:=fun W=>by
      refine Qo7 gs (fun f hf=>?_)
      obtain ⟨i,hi⟩:=Option.isSome_iff_exists.1 (hfok f hf)
      simp [Xv hi,Program.cellsOf,hi]
     have hplace:∀i p,Qhi P (gs.toList.map fun f=>(f.offset,f.type)) i=some p→(gs.map fun f=>(f.offset,P.cellsOf f.type))[i]?=some p:=by
      intro i p hp
      simp only [Qhi,List.getElem?_map] at hp
      cases hg:gs.toList[i]? with
      | none=>simp [hg] at hp
      | some f =>
       simp only [hg,Option.map_some] at hp
       cases hu:ti P f.type with
       | none=>simp [hu] at hp
       | some U =>
        simp only [hu,Option.map_some,Option.some.injEq] at hp
        subst hp
        obtain ⟨_,i',_,hi',_,hsz,_⟩:=Zy hu
        have:gs[i]?=some f:=by simpa using hg
        simp [this,Program.cellsOf,hi',hsz]
     obtain ⟨i,zv,h2,hi,h4,hrep,hsh⟩:=Qa1 hT hz
     obtain ⟨e1,e2,e3⟩:=(hrep M ι).cells hsh.form
     obtain ⟨ds,f1,f2,f3,f4⟩:=Qik (M:=M) (ι:=ι) hplace hlen hrepP e1 e3 (fun j v y hv hy=>(e2 j v y hv hy).1) hfill
     refine Qr h ?_ (.agg ds cs f2 f3 f4)
     simp only [execOp,ho,Instr.build,Sem.run_bind,Vw h2 hi,Result.andThen_ok,run_underlying g1,hmap,f1,Sem.run_pure]
    ·cases he
   ·rename_i n e z hk hz
    split at he
    ·rename_i E hE
     split at he
     ·rename_i cs hfill
      cases he
      rw [g3] at hk
      rw [Qcw hk] at g1
      obtain ⟨_,i',_,hi',_,hsz',_⟩:=Zy hE
      obtain ⟨i,zv,h2,hi,h4,hrep,hsh⟩:=Qa1 hT hz
      obtain ⟨e1,e2,e3⟩:=(hrep M ι).cells hsh.form
      obtain ⟨ds,f1,f2,f3,f4⟩:=Qik (M:=M) (ι:=ι) (place:=fun i=>some (i*i'.size,i'.size)) (fun i p hp=>by rw [←hsz']; exact hp) hlen hrepP e1 e3 (fun j v y hv hy=>(e2 j v y hv hy).1) hfill
      refine Qr h ?_ (.agg ds cs f2 f3 f4)
      simp only [execOp,ho,Instr.build,Sem.run_bind,Vw h2 hi,Result.andThen_ok,run_underlying g1,Xv hi',f1,Sem.run_pure]
     ·cases he
    ·cases he
   ·cases he
 ·cases he
end
end Go.Ab
namespace Go.Ab
open Go.RowKit
section
variable {P:Program} {nf:Bool} {C:FuncId→List AV→Option Xp} {B:Nat} {W0 W W':World} {D:List Nat} {M:CM} {ι:Inj} {σ:Sto} {s:Slots} {a:Act} {fr:Nat} {o:Oper} {res:Res}
structure Ya (M:CM) (ι:Inj) (w:Nat) (xs:List AV) (cs:List Value):Prop where
 size:cs.length=xs.length*w
 shaped:∀x∈xs,AV.shaped x w
 rep:∀(i j:Nat) (x y:AV),xs[i]?=some x→x.flat[j]?=some y→∃v,cs[i*w+j]?=some v∧Qa M ι v y∧v.oneCell'=true
theorem Ya.mono {M':CM} {ι':Inj} {w:Nat} {xs:List AV} {cs:List Value} (h:Ya M ι w xs cs) (hM:M.le M') (hι:ι.le ι'):Ya M' ι' w xs cs :=
 ⟨h.size,h.shaped,fun i j x y hi hj=>let ⟨v,a,b,c⟩:=h.rep i j x y hi hj; ⟨v,a,b.mono hM hι,c⟩⟩
theorem Ya.set {w:Nat} {xs:List AV} {cs:List Value} (h:Ya M ι w xs cs) {i:Nat} (hi:i < xs.length) {v:Value} {x:AV} (hv:Qa M ι v x) (hx:x.shaped w) :
  Ya M ι w (xs.set i x) (cs.take (i*w)++v.cells.toList++cs.drop (i*w+w)):=by
 obtain ⟨d1,d2,d3⟩:=hv.cells hx.form
 have hvl:v.cells.toList.length=w:=by rw [Array.length_toList,d1,hx.len]
 have hle:(i+1)*w≤xs.length*w:=Nat.mul_le_mul_right _ (by omega)
 rw [Nat.succ_mul] at hle
 have hs:=h.size
 refine ⟨?_,fun y hy=>?_,fun k j y z hk hj=>?_⟩
 ·simp only [List.length_append,List.length_take,List.length_drop,hvl,List.length_set]; omega
 ·rcases List.mem_or_eq_of_mem_set hy with hy | rfl
  ·exact h.shaped y hy
  ·exact hx
 ·have hkl:k < xs.length:=by have:=(List.getElem?_eq_some_iff.1 hk).1; simpa using this
  by_cases e:k=i
  ·subst e
   rw [List.getElem?_set_self hkl] at hk
   cases hk
   have hjw:j < w:=by rw [←hx.len]; exact (List.getElem?_eq_some_iff.1 hj).1
   have hjc:j < v.cells.size:=by rw [d1,hx.len]; exact hjw
   obtain ⟨r1,r2⟩:=d2 j _ z (Array.getElem?_eq_getElem hjc) hj
   refine ⟨v.cells[j],?_,r1,r2⟩
   rw [List.append_assoc,List.getElem?_append_right (by simp; omega),List.length_take,Nat.min_eq_left (by omega),List.getElem?_append_left (by omega)]
   simp [show k*w+j - k*w=j by omega,hjc]
  ·rw [List.getElem?_set_ne (Ne.symm e)] at hk
   obtain ⟨u,hu,r1,r2⟩:=h.rep k j y z hk hj
   have hjw:j < w:=by rw [←(h.shaped y (List.mem_of_getElem? hk)).len]; exact (List.getElem?_eq_some_iff.1 hj).1
   refine ⟨u,?_,r1,r2⟩
   rcases Nat.lt_or_ge k i with hlt | hge
   ·have:(k+1)*w≤i*w:=Nat.mul_le_mul_right _ (by omega)
    rw [Nat.succ_mul] at this
    rw [List.append_assoc,List.getElem?_append_left (by simp; omega),List.getElem?_take,if_pos (by omega)]; exact hu
   ·have:(i+1)*w≤k*w:=Nat.mul_le_mul_right _ (by omega)
    rw [Nat.succ_mul] at this
    rw [List.append_assoc,List.getElem?_append_right (by simp; omega),List.length_take,Nat.min_eq_left (by omega),List.getElem?_append_right (by omega),hvl,List.getElem?_drop,
     show i*w+w+(k*w+j - i*w - w)=k*w+j by omega]; exact hu
theorem Qg1 {w:Nat}:∀{qs:List (Nat × AV)} {ps:List (Nat × Value)} {cs:Array Value} {xs ys:List AV},qs.length=ps.length→(∀(j:Nat) (p:Nat × Value) (q:Nat × AV),ps[j]?=some p→qs[j]?=some q→q.1=p.1∧Qa M ι p.2 q.2) →
  Ya M ι w xs cs.toList→Qce w xs qs=some ys →
  ∃ds,Instr.fill (fun i=>some (i*w,w)) cs ps=some ds∧Ya M ι w ys ds.toList∧ys.length=xs.length
 | [],ps,cs,xs,ys,hl,hr,he,h=>by
  have:ps=[]:=List.eq_nil_of_length_eq_zero hl.symm
  subst this
  simp [Qce] at h; subst h
  exact ⟨cs,rfl,he,rfl⟩
 | (i,x)::qs,ps,cs,xs,ys,hl,hr,he,h=>by
  cases ps with
  | nil=>simp at hl
  | cons p ps =>
   obtain ⟨e1,e2⟩:=hr 0 p (i,x) rfl rfl
   simp only at e1 e2
   simp only [Qce] at h
   split at h
   ·rename_i hcond
    simp only [Bool.and_eq_true] at hcond
    obtain ⟨⟨c0,c1⟩,c2⟩:=hcond
    have c1:=Vd c1; have c2:=Yd c2
    have hsh:=e2.shaped_of c0
    rw [c1] at hsh
    obtain ⟨d1,d2,d3⟩:=e2.cells hsh.form
    have hsize:p.2.cells.size=w:=by rw [d1,c1]
    have hle:(i+1)*w≤xs.length*w:=Nat.mul_le_mul_right _ (by omega)
    rw [Nat.succ_mul] at hle
    have hcs:cs.size=xs.length*w:=by rw [←Array.length_toList]; exact he.size
    have hfold:=Qqo p.2.cells.toList (i*w) 0 cs (by simp only [Array.length_toList]; omega)
    simp only [Nat.add_zero,Array.length_toList,hsize] at hfold
    have hset:=he.set c2 e2 hsh
    obtain ⟨ds,f1,f2,f3⟩:=Qg1 (qs:=qs) (ps:=ps) (cs:=p.2.cells.zipIdx.foldl (fun cs (c,j)=>cs.setIfInBounds (i*w+j) c) cs) (xs:=xs.set i x) (ys:=ys) (by simpa using hl)
     (fun j p' q' a b=>hr (j+1) p' q' (by simpa using a) (by simpa using b)) (by
      rw [←Array.foldl_toList,Array.toList_zipIdx,hfold]; exact hset) h
    refine ⟨ds,?_,f2,by simpa using f3⟩
    have hfit:¬ (p.2.cells.size≠w∨p.1*w+p.2.cells.size > cs.size):=by rw [hsize,hcs,←e1]; omega
    simp only [Instr.fill]
    rw [if_neg (by simpa using hfit),←e1]
    exact f1
   ·cases h
theorem Qg3 (h:Rel P B W0 D M ι σ W) (ids:List Nat):∀{ps qs:List (Nat × AV)} {is:List Nat},Zx σ ps=some (qs,is)→(∀k∈is,k∈ids) →
  qs.length=ps.length∧∀(j:Nat) (p q:Nat × AV) (v:Value),ps[j]?=some p→qs[j]?=some q→Qa M ι v p.2→q.1=p.1∧Qa (Zw M W (inC σ ι ids)) ι v q.2
 | [],qs,is,hs,hsub=>by simp [Zx] at hs; obtain ⟨rfl,rfl⟩:=hs; simp
 | (i,x)::ps,qs,is,hs,hsub=>by
  simp only [Zx] at hs
  split at hs
  ·rename_i y a1 ys b1 h1 h2
   simp only [Option.some.injEq,Prod.mk.injEq] at hs
   obtain ⟨rfl,rfl⟩:=hs
   obtain ⟨l1,g1⟩:=Qg3 h ids h2 (fun k hk=>hsub k (List.mem_append_right _ hk))
   refine ⟨by simp [l1],fun j p q v hp hq hr=>?_⟩
   cases j with
   | zero =>
    simp at hp hq; subst hp; subst hq
    refine ⟨rfl,?_⟩
    split at h1
    ·cases h1; exact hr.mono (addM_le _ _ _) (Inj.le_refl _)
    ·exact (Ys h ids Qs x y a1 v h1 (fun k hk=>hsub k (List.mem_append_left _ hk)) hr).mono (CM.le_refl _) (Inj.noInj_le _)
   | succ j=>exact g1 j p q v (by simpa using hp) (by simpa using hq) hr
  ·cases hs
theorem Qu6 (o:Obj) (W:World):(newObj o).run P W=.ok W.heap.size (W.alloc o):=rfl
theorem Qu2 (h:Rel P B W0 D M ι σ W):(Zw M W (inC σ ι [])).le M:=fun b k v hv=>by
 classical
 rw [Qh2] at hv
 unfold Qgr at hv
 split at hv
 ·exact hv
 ·split at hv
  ·rename_i hd
   obtain ⟨o,ho,_⟩:=hd
   simp at ho
  ·cases hv
theorem Qyh (h:Rel P B W0 D M ι σ W) {ids:List Nat} {es:List (Nat × AObj)} (hf:frz σ ids=some es) (hfr:ι fr=none) {c:Array Value} {e:TypeId} {bx nr fl:Bool} {w cap:Nat} {xs:List AV} {v:Value} {x:AV} {rd:List Nat}
  (hrun:(execOp a.eval o).run P W=.ok (.value v) (W.alloc (.cells c e)))
  (pos:0 < w) (cpos:0 < cap) (hc:c.size=cap*w) (hl:xs.length≤cap) (hs:∀x∈xs,AV.shaped x w) (hnr:nr=true→AV.nrL xs=true) (hfl:fl=true→∀x∈xs,AV.scs x=true)
  (hcells:∀(i j:Nat) (x y:AV),xs[i]?=some x→x.flat[j]?=some y→∃v,c[i*w+j]?=some v∧Qa (Zw M W (inC σ ι ids)) ι v y)
  (hv:∀ι',ι' fr=some ⟨W.heap.size,0,w,cap⟩→Qa (Zw M W (inC σ ι ids)) ι' v x) :
  Zc P B W0 D M ι σ fr a o W ⟨some x,es++[(fr,.row bx false nr fl w xs)],fr+1,rd⟩:=by
 have h':=Qad h hf
 refine ⟨v,_,Zw M W (inC σ ι ids),ι.put fr ⟨W.heap.size,0,w,cap⟩,.inl hrun,h.growC ids,Inj.le_put _ hfr,fun k hk=>Inj.put_ne _ _ ?_,?_,fun y hy=>?_⟩
 ·simp at hk; omega
 ·rw [Sto.puts_append]; exact h'.allocRow hfr c e pos cpos hc hl hs hnr hfl hcells
 ·cases hy; exact hv _ (Inj.put_same _ _ _)
theorem Qnt (h:Rel P B W0 D M ι σ W) (hs:Qi M ι s a.tmps) (hfr:∀k,fr≤k→k < res.fr→ι k=none) {t:TypeId} {n:Nat} {ps:Array (Nat × Operand)} (ho:o.op=.buildSlice t n ps) (he:evalOp P nf C σ fr s o=some (.val res)):Zc P B W0 D M ι σ fr a o W res:=by
 unfold evalOp at he
 rw [ho] at he
 simp only at he
 split at he
 ·rename_i T hT
  split at he
  ·rename_i e hk
   obtain ⟨d,i0,g1,g2,g3,_⟩:=Zy hT
   rw [g3] at hk; rw [Zt hk] at g1
   split at he
   ·rename_i E parts0 hE hps
    obtain ⟨l1,q1⟩:=Qew hs hps
    obtain ⟨_,i1,_,hi1,_,hsz1,_⟩:=Zy hE
    split at he
    ·rename_i hn0
     subst hn0
     split at he
     ·rename_i hemp
      cases he
      have hps0:ps.toList=[]:=List.eq_nil_of_length_eq_zero (by rw [←l1]; simpa using hemp)
      have hps1:ps=#[]:=by cases ps; simp_all
      subst hps1
      have hrun:∃c,(execOp a.eval o).run P W=.ok (.value (.slice (some ⟨W.heap.size,0,none⟩) 0 0)) (W.alloc (.cells c e)) :=
       ⟨_,by simp [execOp,ho,Instr.buildSlice,run_underlying g1,Xv hi1,Instr.fill,newRow]; rfl⟩
      obtain ⟨c,hrun⟩:=hrun
      exact ⟨_,W.alloc (.cells c e),M,ι,.inl hrun,.refl _ _,Inj.le_refl _,fun _ _=>rfl,h.alloc _ _,fun y hy=>by cases hy; exact .emp (some ⟨W.heap.size,0,none⟩)⟩
     ·cases he
    ·rename_i hn0
     split at he
     ·rename_i z parts ids hz hpp
      split at he
      ·rename_i hc
       simp only [Bool.and_eq_true] at hc
       obtain ⟨⟨c1,c2⟩,c3⟩:=hc
       have c1:=Vd c1; have c2:=Yd c2; have c3:=Xu c3
       split at he
       ·rename_i xs es hfill hfz
        cases he
        obtain ⟨i,zv,h2,hi,h4,hrep,hsh⟩:=Qa1 hE hz
        rw [hi1] at h2; cases h2
        have hzs:zv.cells.size=E.size:=by rw [←hsh.len,c1]
        have hparts:parts.length=parts0.length∧∀(j:Nat) (p q:Nat × AV) (v:Value),parts0[j]?=some p→parts[j]?=some q→Qa M ι v p.2→q.1=p.1∧Qa (Zw M W (inC σ ι ids)) ι v q.2:=by
         cases nf with
         | true =>
          simp only [if_true,Option.some.injEq,Prod.mk.injEq] at hpp
          obtain ⟨rfl,rfl⟩:=hpp
          exact ⟨rfl,fun j p q v hp hq hr=>by rw [hp] at hq; cases hq; exact ⟨rfl,hr.mono (addM_le _ _ _) (Inj.le_refl _)⟩⟩
         | false =>
          simp only [Bool.false_eq_true,if_false] at hpp
          exact Qg3 h ids hpp (fun k hk=>hk)
        obtain ⟨l2,q2⟩:=hparts
        have hrepP:∀(j:Nat) (p:Nat × Value) (q:Nat × AV),((ps.map fun (i,x)=>(i,a.eval x)).toList)[j]?=some p→parts[j]?=some q→q.1=p.1∧Qa (Zw M W (inC σ ι ids)) ι p.2 q.2:=by
         intro j p q hp hq
         simp only [Array.toList_map,List.getElem?_map,Option.map_eq_some_iff] at hp
         obtain ⟨w,hw,rfl⟩:=hp
         have hj:j < parts0.length:=by rw [←l2]; exact (List.getElem?_eq_some_iff.1 hq).1
         have hp0:=List.getElem?_eq_getElem hj
         obtain ⟨e1,e2⟩:=q1 j w _ hw hp0
         obtain ⟨e3,e4⟩:=q2 j _ q _ hp0 hq e2
         exact ⟨e3.trans e1,e4⟩
        have hbase:Ya (Zw M W (inC σ ι ids)) ι E.size (List.replicate n z) ((Array.range (n*E.size)).map (zv.cells[· % zv.cells.size]!)).toList:=by
         refine ⟨by simp,fun x hx=>?_,fun i' j x y hi' hj=>?_⟩
         ·have:=List.eq_of_mem_replicate hx; subst this; rw [←hzs]; exact hsh
         ·have hm:=Qir (hrep (Zw M W (inC σ ι ids)) ι) hsh (Nat.le_refl n) i' j x y hi' hj
          rw [hzs] at hm
          obtain ⟨v,hv,hr⟩:=hm
          refine ⟨v,by rw [Array.getElem?_toList,hzs]; exact hv,hr,?_⟩
          have hx:=List.mem_of_getElem? hi'
          have:=List.eq_of_mem_replicate hx; subst this
          exact hr.oneCell (hsh.cells y (List.mem_of_getElem? hj))
        obtain ⟨ds,f1,f2,f3⟩:=Qg1 (w:=E.size) (by simp [l2,l1]) hrepP hbase hfill
        have hsize:ds.size=n*E.size:=by rw [←Array.length_toList,f2.size,f3]; simp
        have hnz:¬ (n*E.size=0):=by have:=Nat.mul_pos (Nat.pos_of_ne_zero hn0) c2; omega
        have hle:¬ (n*E.size > 2^24):=by omega
        have hrun:(execOp a.eval o).run P W=.ok (.value (.slice (some ⟨W.heap.size,0,none⟩) n n)) (W.alloc (.cells ds e)):=by
         simp only [execOp,ho,Instr.buildSlice,Sem.run_bind,run_underlying g1,Result.andThen_ok,Xv hi1,←hsz1]
         rw [if_neg hle,if_neg hnz]
         simp only [Sem.run_bind,Sem.run_pure,Vw hi1 hi,Result.andThen_ok,f1,newRow,Qu6]
        refine Qyh h hfz (hfr fr (Nat.le_refl _) (by simp)) (cap:=n) hrun c2 (by omega) hsize (by rw [f3]; simp) f2.shaped (fun hx=>hx) (fun hx=>by simpa using hx) (fun i' j x y hi' hj=>?_) (fun ι' hι=>?_)
        ·obtain ⟨v,hv,hr,_⟩:=f2.rep i' j x y hi' hj
         exact ⟨v,by simpa using hv,hr⟩
        ·exact .ref fr 0 n ⟨W.heap.size,0,E.size,n⟩ 0 n hι (by simp) (by simp) (.inl (by simp))
       ·cases he
      ·cases he
     ·cases he
   ·cases he
  ·cases he
 ·cases he
end
end Go.Ab
namespace Go.Ab
open Go.RowKit
section
variable {P:Program} {nf:Bool} {C:FuncId→List AV→Option Xp} {B:Nat} {W0 W W':World} {D:List Nat} {M:CM} {ι:Inj} {σ:Sto} {s:Slots} {a:Act} {fr:Nat} {o:Oper} {res:Res}
theorem AV.flat_agg (cs:List AV):(AV.agg cs).flat = cs:=rfl
theorem Qhg {x v x':AV} {c w:Nat} (h:Qd7 x c v=some x') (hx:x.shaped w) (hv:v.shaped v.flat.length) :
  x'.shaped w∧c+v.flat.length≤w∧(∀j y,x'.flat[j]?=some y→(c≤j∧j < c+v.flat.length∧v.flat[j - c]?=some y)∨((j < c∨c+v.flat.length≤j)∧x.flat[j]?=some y)):=by
 unfold Qd7 at h
 split at h
 ·rename_i cs
  split at h
  ·rename_i hle
   cases h
   have hw:cs.length=w:=by simpa [AV.flat_agg] using hx.len
   refine ⟨⟨.inl rfl,by simp only [AV.flat_agg,List.length_append,List.length_take,List.length_drop]; omega,fun y hy=>?_⟩,by omega,fun j y hy=>?_⟩
   ·simp only [AV.flat_agg,List.mem_append] at hy
    rcases hy with (hy | hy) | hy
    ·exact hx.cells y (by simp only [AV.flat_agg]; exact List.mem_of_mem_take hy)
    ·exact hv.cells y hy
    ·exact hx.cells y (by simp only [AV.flat_agg]; exact List.mem_of_mem_drop hy)
   ·simp only [AV.flat_agg] at hy ⊢
    have l1:(cs.take c).length=c:=by simp; omega
    rcases Nat.lt_or_ge j c with hj | hj
    ·rw [List.append_assoc,List.getElem?_append_left (by omega),List.getElem?_take,if_pos hj] at hy
     exact .inr ⟨.inl hj,hy⟩
    ·rw [List.append_assoc,List.getElem?_append_right (by omega),l1] at hy
     rcases Nat.lt_or_ge (j - c) v.flat.length with hj2 | hj2
     ·rw [List.getElem?_append_left hj2] at hy
      exact .inl ⟨hj,by omega,hy⟩
     ·rw [List.getElem?_append_right hj2,List.getElem?_drop] at hy
      refine .inr ⟨.inr (by omega),?_⟩
      rw [←hy]; congr 1; omega
  ·cases h
 ·split at h
  ·rename_i hc
   simp only [Bool.and_eq_true,decide_eq_true_eq] at hc
   obtain ⟨⟨rfl,hvc⟩,hxc⟩:=hc
   cases h
   have hfv:=AV.flat_cell hvc
   have hw:w=1:=by rw [←hx.len,AV.flat_cell hxc]; rfl
   refine ⟨⟨.inr hvc,by rw [hfv,hw]; rfl,hv.cells⟩,by rw [hfv,hw]; simp,fun j y hy=>.inl ⟨Nat.zero_le _,?_,by simpa using hy⟩⟩
   rw [Nat.zero_add]; exact (List.getElem?_eq_some_iff.1 hy).1
  ·cases h
theorem Qjk {x:AV} {w:Nat} (hx:x.shaped w) (h:∀y∈x.flat,AV.nr y=true):x.nr=true:=by
 rcases hx.form with e | e
 ·rw [e]; simp only [AV.nr,Qx]; exact h
 ·exact h x (by rw [AV.flat_cell e]; simp)
theorem Qb7 {x:AV}:x.scs=true↔∀y∈x.flat,AV.sc y=true:=by simp [AV.scs]
theorem Qun {x v x':AV} {c w:Nat} (h:Qd7 x c v=some x') (hx:x.shaped w) (hv:v.shaped v.flat.length) :
  (x.nr=true→v.nr=true→x'.nr=true)∧(x.scs=true→v.scs=true→x'.scs=true):=by
 obtain ⟨h1,_,h3⟩:=Qhg h hx hv
 have hin:∀y∈x'.flat,y∈v.flat ∨ y∈x.flat := fun y hy=>by
  obtain ⟨j,hj,rfl⟩:=List.mem_iff_getElem.1 hy
  rcases h3 j _ (List.getElem?_eq_getElem hj) with ⟨_,_,e⟩ | ⟨_,e⟩
  ·exact .inl (List.mem_of_getElem? e)
  ·exact .inr (List.mem_of_getElem? e)
 refine ⟨fun a b=>Qjk h1 fun y hy=>?_,fun a b=>Qb7.2 fun y hy=>?_⟩
 ·rcases hin y hy with e | e
  ·exact AV.nr_flat b y e
  ·exact AV.nr_flat a y e
 ·rcases hin y hy with e | e
  ·exact Qb7.1 b y e
  ·exact Qb7.1 a y e
theorem K8 {ids:List Nat} {es:List (Nat × AObj)} (hf:frz σ ids=some es) {k:Nat} (hk:k ∉ ids):σ.puts es k=σ k:=by
 rcases Qf5 hf k with ⟨a,_⟩ | ⟨a,_⟩
 ·exact a
 ·exact absurd a hk
theorem Qwe (h:Rel P B W0 D M ι σ W) (hs:Qi M ι s a.tmps) {t:TypeId} {x y:Operand} (ho:o.op=.store t x y) (he:evalOp P nf C σ fr s o=some (.val res)):Zc P B W0 D M ι σ fr a o W res:=by
 unfold evalOp at he
 rw [ho] at he
 simp only at he
 split at he
 ·rename_i T ob ii c v0 hT hx hy
  split at he
  ·rename_i bx nr fl w xs hσ
   split at he
   ·rename_i x0 hx0
    split at he
    ·rename_i hc
     simp only [Bool.and_eq_true] at hc
     obtain ⟨c0,c1⟩:=hc
     have c1:=Vd c1
     split at he
     ·rename_i v ids hsn
      split at he
      ·rename_i x' es hput hfz
       split at he
       ·cases he
       ·rename_i hnc
        cases he
        have hoids:ob ∉ ids:=by simpa using hnc
        have hrep0:=Qg hs hy
        have hsh0:=hrep0.shaped_of c0
        have hval:Qa (Zw M W (inC σ ι ids)) ι (a.eval y) v∧v.shaped v0.flat.length:=by
         split at hsn
         ·cases hsn; exact ⟨hrep0.mono (addM_le _ _ _) (Inj.le_refl _),hsh0⟩
         ·exact ⟨(Ys h ids Qs v0 v ids _ hsn (fun k hk=>hk) hrep0).mono (CM.le_refl _) (Inj.noInj_le _),(Kh hsn hsh0).1⟩
        obtain ⟨hv,hsv⟩:=hval
        have hvl:=hsv.len
        have hsv':v.shaped v.flat.length:=by rw [hvl]; exact hsv
        obtain ⟨p,hp,hrow⟩:=h.row _ _ _ _ _ _ _ hσ
        have h':=Qad h hfz
        have hσ':σ.puts es ob=some (.row bx false nr fl w xs):=by rw [K8 hfz hoids]; exact hσ
        obtain ⟨p',hp',hrow'⟩:=h'.row _ _ _ _ _ _ _ hσ'
        have hpp:p=p':=by rw [hp] at hp'; exact Option.some.inj hp'
        subst hpp
        have hx0m:=List.mem_of_getElem? hx0
        obtain ⟨g1,g2,g3⟩:=Qhg hput (hrow.shaped x0 hx0m) hsv'
        obtain ⟨f1,f2⟩:=Qun hput (hrow.shaped x0 hx0m) hsv'
        obtain ⟨d1,d2,d3⟩:=hv.cells hsv.form
        have hvsz:(a.eval y).cells.toList.length=v.flat.length:=by rw [Array.length_toList]; exact d1
        have hil:ii < xs.length:=(List.getElem?_eq_some_iff.1 hx0).1
        have hiw:ii*w+w≤p.cap*w:=by
         have:(ii+1)*w≤p.cap*w:=Nat.mul_le_mul_right _ (by have:=hrow.len; omega)
         rwa [Nat.succ_mul] at this
        obtain ⟨_,i1,_,hi1,_,hsz1,_⟩:=Zy hT
        have hptr:a.eval x=.pointer (some ⟨p.blk,p.base+ii*w+c,none⟩):=by
         have hq:=Qg hs hx
         generalize hu:a.eval x=u at hq
         cases hq with
         | ptr _ _ _ q hq' =>
         have:p=q:=by rw [hp] at hq'; exact Option.some.inj hq'
         subst this
         rw [hrow.pw]
        have hown:=(hrow.own rfl).2
        have hst:=run_storeCells_cells (P:=P) p.blk (p.base+ii*w+c) (a.eval y).cells.toList 0 W (fun j hj=>by
          have:=(hown (ii*w+c+j) (by omega)).1
          rw [Nat.add_zero,show p.base+ii*w+c+j=p.base+(ii*w+c+j) by omega]; exact this)
         (fun j hj=>by
          have:=(h.cool _ _ _ _ _ _ _ (ii*w+c+j) (by assumption) hp (by omega)).1 (p.base+(ii*w+c+j))
          rw [Nat.add_zero,show p.base+ii*w+c+j=p.base+(ii*w+c+j) by omega]; exact this) (fun u hu=>by
          obtain ⟨j,hj,rfl⟩:=List.mem_iff_getElem.1 hu
          have hj':j < (a.eval y).cells.size:=by simpa using hj
          have hj2:j < v.flat.length:=by omega
          have:=(d2 j _ _ (Array.getElem?_eq_getElem hj') (List.getElem?_eq_getElem hj2)).2
          simpa using this)
        rw [Nat.add_zero] at hst
        have hrun:(execOp a.eval o).run P W=.ok .skip (W.setCells p.blk (p.base+(ii*w+c)) (a.eval y).cells.toList):=by
         have hne:¬ ((a.eval y).cells.size≠i1.size):=by rw [d1,hvl,c1,hsz1]; simp
         rw [←Nat.add_assoc]
         simp only [execOp,ho,Instr.storeAt,Instr.sureAddr,hptr,Sem.run_bind,Sem.run_pure,Result.andThen_ok,storeVar,Xv hi1]
         rw [if_neg hne]
         simp only [hst,Result.andThen_ok]
        have hnr':(nr && v.nr)=true→AV.nrL (xs.set ii x')=true:=fun hn=>by
         simp only [Bool.and_eq_true] at hn
         rw [Qx]
         intro z hz
         rcases List.mem_or_eq_of_mem_set hz with hz | rfl
         ·exact Qx.1 (hrow.nr hn.1) z hz
         ·exact f1 (Qx.1 (hrow.nr hn.1) x0 hx0m) hn.2
        have hfl':(fl && v.scs)=true→∀z∈xs.set ii x',AV.scs z=true:=fun hn z hz=>by
         simp only [Bool.and_eq_true] at hn
         rcases List.mem_or_eq_of_mem_set hz with hz | rfl
         ·exact hrow.fl hn.1 z hz
         ·exact f2 (hrow.fl hn.1 x0 hx0m) hn.2
        have key:=h'.write (bx':=bx) (nr':=nr && v.nr) (fl':=fl && v.scs) (xs':=xs.set ii x') hσ' hp (ii*w+c) (a.eval y).cells.toList (by omega) (by simpa using hrow.len)
         (fun z hz=>by
          rcases List.mem_or_eq_of_mem_set hz with hz | rfl
          ·exact hrow.shaped z hz
          ·exact g1) hnr' hfl'
         (fun i j z q hi hj hlo hhi=>by
          by_cases e:i=ii
          ·subst e
           rw [List.getElem?_set_self hil] at hi
           cases hi
           rcases g3 j q hj with ⟨b1,b2,b3⟩ | ⟨b1,b2⟩
           ·have hjj:j - c < (a.eval y).cells.size:=by rw [d1]; exact (List.getElem?_eq_some_iff.1 b3).1
            refine ⟨(a.eval y).cells[j - c],?_,(d2 (j - c) _ q (Array.getElem?_eq_getElem hjj) b3).1⟩
            rw [show i*w+j - (i*w+c)=j - c by omega]
            simp [hjj]
           ·exfalso; omega
          ·exfalso
           rw [List.getElem?_set_ne (Ne.symm e)] at hi
           have hjw:j < w:=by rw [←(hrow.shaped z (List.mem_of_getElem? hi)).len]; exact (List.getElem?_eq_some_iff.1 hj).1
           rcases Nat.lt_or_ge i ii with hlt | hge
           ·have:(i+1)*w≤ii*w:=Nat.mul_le_mul_right _ (by omega)
            rw [Nat.succ_mul] at this; omega
           ·have:(ii+1)*w≤i*w:=Nat.mul_le_mul_right _ (by omega)
            rw [Nat.succ_mul] at this; omega)
         (fun i j z q hi hj hout=>by
          by_cases e:i=ii
          ·subst e
           rw [List.getElem?_set_self hil] at hi
           cases hi
           rcases g3 j q hj with ⟨b1,b2,b3⟩ | ⟨b1,b2⟩
           ·exfalso; omega
           ·obtain ⟨u,hu,hr⟩:=hrow'.cells i j x0 q hx0 b2
            exact ⟨u,by rw [←Nat.add_assoc]; exact hu,hr⟩
          ·rw [List.getElem?_set_ne (Ne.symm e)] at hi
           obtain ⟨u,hu,hr⟩:=hrow'.cells i j z q hi hj
           exact ⟨u,by rw [←Nat.add_assoc]; exact hu,hr⟩)
        refine ⟨undef,_,Zw M W (inC σ ι ids),ι,.inr ⟨hrun,rfl⟩,h.growC ids,Inj.le_refl _,fun _ _=>rfl,?_,fun z hz=>by cases hz⟩
        rw [Sto.puts_append]
        exact key
      ·cases he
     ·cases he
    ·cases he
   ·cases he
  ·cases he
 ·cases he
structure Qim (M:CM) (ι:Inj) (W:World) (w:Nat) (v:Value) (ys:List AV) (nr fl:Bool):Prop where
 form:∃ad c,v=.slice ad ys.length c∧(ys≠[]→∃b off,ad=some ⟨b,off,none⟩∧∀(i j:Nat) (x y:AV),ys[i]?=some x→x.flat[j]?=some y→∃u,W.cell? ⟨b,off+i*w+j,none⟩=some u∧Qa M ι u y)
 shaped:∀x∈ys,AV.shaped x w
 nr:nr=true→AV.nrL ys=true
 fl:fl=true→∀x∈ys,AV.scs x=true
theorem Qe0 (h:Rel P B W0 D M ι σ W) {w:Nat} {x:AV} {ys:List AV} {nr fl:Bool} {rd:List Nat} (he:Yh σ w x=some (ys,nr,fl,rd)) {v:Value} (hv:Qa M ι v x):Qim M ι W w v ys nr fl:=by
 unfold Yh at he
 split at he
 ·cases he; cases hv; exact ⟨⟨none,0,rfl,by simp⟩,by simp,by simp [AV.nrL],by simp⟩
 ·cases he; cases hv; exact ⟨⟨_,0,rfl,by simp⟩,by simp,by simp [AV.nrL],by simp⟩
 ·cases he; cases hv; exact ⟨⟨_,_,rfl,by simp⟩,by simp,by simp [AV.nrL],by simp⟩
 ·rename_i f xs
  split at he
  ·rename_i hw
   cases he
   cases hv with
   | lst0=>exact ⟨⟨_,0,rfl,by simp⟩,by simp,by simp [AV.nrL],by simp⟩
   | lst b off cap w' _ _ f hcap hfl hc hM hr =>
    cases hxs:ys with
    | nil=>exact ⟨⟨_,cap,rfl,by simp⟩,by simp,by simp [AV.nrL],by simp⟩
    | cons x0 r =>
    have hww:w'=w:=by
     rw [hxs] at hw
     rw [←Vd hw]; exact (hc x0 (by rw [hxs]; simp)).len.symm
    subst hww
    rw [←hxs]
    refine ⟨⟨_,cap,rfl,fun _=>⟨b,off,rfl,fun i j x y hi hj=>⟨f i j,h.agree _ _ _ (hM i j x y hi hj),(hr i j x y hi hj).mono (CM.le_refl _) (Inj.noInj_le _)⟩⟩⟩,hc,fun _=>Qx.2 fun x hx=>?_,hfl⟩
    refine Qjk (hc x hx) fun y hy=>?_
    obtain ⟨i,hi,rfl⟩:=List.mem_iff_getElem.1 hx
    obtain ⟨j,hj,rfl⟩:=List.mem_iff_getElem.1 hy
    exact (hr i j _ _ (List.getElem?_eq_getElem hi) (List.getElem?_eq_getElem hj)).nr_of_noInj
  ·cases he
 ·rename_i ob ii n
  split at he
  ·rename_i ro nr' fl' w' xs hσ
   split at he
   ·rename_i hc
    simp only [Bool.and_eq_true,decide_eq_true_eq] at hc
    obtain ⟨c1,c2⟩:=hc
    have c2:=Xu c2
    cases he
    obtain ⟨p,hp,hrow⟩:=h.row _ _ _ _ _ _ _ hσ
    cases hv with
    | ref0 ad _ _ _ _=>exact ⟨⟨ad,0,by simp,by simp⟩,by simp,by simp [AV.nrL],by simp⟩
    | ref _ _ _ q off cap hq hi hcap hoff =>
    have hpq:p=q:=by rw [hp] at hq; exact Option.some.inj hq
    subst hpq
    subst c1
    have hn:((xs.drop ii).take n).length=n:=by rw [List.length_take,List.length_drop]; omega
    have hmem:∀x∈(xs.drop ii).take n,x∈xs:=fun x hx=>List.mem_of_mem_drop (List.mem_of_mem_take hx)
    refine ⟨⟨_,cap,by rw [hn],fun hne=>⟨p.blk,off,rfl,fun i j x y hi' hj=>?_⟩⟩,fun x hx=>hrow.shaped x (hmem x hx),fun hn=>Qx.2 fun x hx=>Qx.1 (hrow.nr hn) x (hmem x hx),fun hf x hx=>hrow.fl hf x (hmem x hx)⟩
    have hin:i < n:=by rw [←hn]; exact (List.getElem?_eq_some_iff.1 hi').1
    rw [List.getElem?_take,if_pos hin,List.getElem?_drop] at hi'
    obtain ⟨u,hu,hr⟩:=hrow.cells (ii+i) j x y hi' hj
    refine ⟨u,?_,hr⟩
    have hoff':off=p.base+ii*p.w:=by
     rcases hoff with e | e
     ·exact e
     ·omega
    rw [hoff',hrow.pw,show p.base+ii*w'+i*w'+j=p.base+(ii+i)*w'+j by rw [Nat.add_mul]; omega]; exact hu
   ·cases he
  ·cases he
 ·cases he
theorem Qim.cells {w:Nat} {v:Value} {ys:List AV} {nr fl:Bool} (h:Qim M ι W w v ys nr fl) {b off:Nat} {c n:Nat} (hv:v=.slice (some ⟨b,off,none⟩) n c) (hne:ys≠[]) :
  ∃vs:List Value,vs.length=ys.length*w∧(∀j u,vs[j]?=some u→W.cell? ((⟨b,off,none⟩:Addr).add j)=some u)∧Ya M ι w ys vs∧∀u∈vs,u.oneCell'=true:=by
 obtain ⟨ad,c',e,hcell⟩:=h.form
 rw [hv] at e
 cases e
 obtain ⟨b',off',e,hcell⟩:=hcell hne
 cases e
 have hat : ∀k,k < ys.length*w→∃u,W.cell? ⟨b,off+k,none⟩=some u∧u.oneCell'=true∧∀i j x y,k=i*w+j→ys[i]?=some x→x.flat[j]?=some y→Qa M ι u y:=by
  intro k hk
  have hw0:0 < w:=by
   rcases Nat.eq_zero_or_pos w with e | e
   ·subst e; simp at hk
   ·exact e
  have hi:k / w < ys.length:=Nat.div_lt_of_lt_mul (by rw [Nat.mul_comm]; exact hk)
  have hj:k % w < w:=Nat.mod_lt _ hw0
  have hsh:=h.shaped ys[k / w] (List.getElem_mem hi)
  have hjl:k % w < (ys[k / w]).flat.length:=by rw [hsh.len]; exact hj
  obtain ⟨u,hu,hr⟩:=hcell (k / w) (k % w) _ _ (List.getElem?_eq_getElem hi) (List.getElem?_eq_getElem hjl)
  have hk':k / w*w+k % w=k:=by rw [Nat.mul_comm]; exact Nat.div_add_mod k w
  rw [Nat.add_assoc,hk'] at hu
  refine ⟨u,hu,hr.oneCell (hsh.cells _ (List.getElem_mem hjl)),fun i j x y e hx hy=>?_⟩
  obtain ⟨u',hu',hr'⟩:=hcell i j x y hx hy
  rw [Nat.add_assoc,←e,hu] at hu'
  cases hu'
  exact hr'
 refine ⟨(List.range (ys.length*w)).map fun k=>(W.cell? ⟨b,off+k,none⟩).getD undef,by simp,fun j u hu=>?_,⟨by simp,h.shaped,fun i j x y hi hj=>?_⟩,fun u hu=>?_⟩
 ·simp only [List.getElem?_map,Option.map_eq_some_iff] at hu
  obtain ⟨k,hk,rfl⟩:=hu
  have hjl:j < ys.length*w:=by have:=(List.getElem?_eq_some_iff.1 hk).1; simpa using this
  rw [List.getElem?_range hjl] at hk
  cases hk
  obtain ⟨u,hu,_⟩:=hat j hjl
  rw [Qbu,hu]; rfl
 ·have hil:=(List.getElem?_eq_some_iff.1 hi).1
  have hjw:j < w:=by rw [←(h.shaped x (List.mem_of_getElem? hi)).len]; exact (List.getElem?_eq_some_iff.1 hj).1
  have hlt:i*w+j < ys.length*w:=by
   have:(i+1)*w≤ys.length*w:=Nat.mul_le_mul_right _ (by omega)
   rw [Nat.succ_mul] at this; omega
  obtain ⟨u,hu,h1,h2⟩:=hat _ hlt
  refine ⟨u,?_,h2 i j x y rfl hi hj,h1⟩
  rw [List.getElem?_map,List.getElem?_range hlt,Option.map_some,hu]; rfl
 ·simp only [List.mem_map,List.mem_range] at hu
  obtain ⟨k,hk,rfl⟩:=hu
  obtain ⟨u,hu,h1,_⟩:=hat k hk
  rw [hu]; exact h1
end
end Go.Ab
