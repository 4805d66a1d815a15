/- Rules. No conditions. -/
import Derived.Test.YtapoljjoedcknaaEng1
set_option linter.all false
namespace Go.Ab
open Go.RowKit
section
variable {P:Program} {nf:Bool} {C:FuncId→List AV→Option Z2} {B:Nat} {W0 W W':World} {D:List Nat} {M:CM} {ι:Inj} {σ:Sto} {s:Slots} {a:Act} {fr:Nat} {o:Oper} {res:Res}
theorem Y8 {b:Builtin} {args:Array Operand} {ts:Array TypeId} (ho:o.op=.call { callee:=.builtin b,args,argTypes:=ts }) :
  ∃cs,(execOp a.eval o).run P W=(builtin b ts o.type cs (args.map a.eval)).run P W:=by
 refine ⟨args.map fun | .const _=>true | _=>false,?_⟩
 simp only [execOp,ho,resolve,Sem.run_bind,Sem.run_pure,Result.andThen_ok,invoke]
 rfl
theorem Q1e {α:Type} {xs:Array α} {x:α} (h:xs.toList=[x]):xs=#[x]:=by cases xs; simp_all
theorem Q02 {α:Type} {xs:Array α} {x y:α} (h:xs.toList=[x,y]):xs=#[x,y]:=by cases xs; simp_all
theorem Qxq (h:Rel P B W0 D M ι σ W) (hs:Qg M ι s a.tmps) {args:Array Operand} {ts:Array TypeId} (ho:o.op=.call { callee:=.builtin .len,args,argTypes:=ts }) (he:evalOp P nf C σ fr s o=some (.val res)):Q8 P B W0 D M ι σ fr a o W res:=by
 unfold evalOp at he
 rw [ho] at he
 simp only at he
 obtain ⟨cs,hrun⟩:=Y8 (P:=P) (W:=W) (a:=a) ho
 unfold Qof at he
 split at he <;> first | (cases he; done) | skip
 rename_i x t tr hargs hts
 have hargs':=Q1e hargs
 subst hargs'
 split at he
 ·rename_i T y hT hx
  obtain ⟨d,i,g1,g2,g3,_⟩:=Zq hT
  have ht0:ts[0]?=some t:=by cases ts; simp_all
  have hv:=Qe hs hx
  have fin:∀n:Int,(Builtin.len_ ts o.type #[a.eval x]).run P W=.ok (.int .i64 n) W→(execOp a.eval o).run P W=.ok (.value (.int .i64 n)) W:=by
   intro n hn
   rw [hrun]
   simp only [builtin,List.map_toArray,List.map_cons,List.map_nil,Sem.run_bind,hn,Result.andThen_ok,Sem.run_pure]
  generalize hu:a.eval x=u at hv fin
  split at he
  ·rename_i e hk
   obtain ⟨z,hz,hr⟩:=Q5 he
   cases hr; cases hz
   rw [g3] at hk; rw [Zk hk] at g1
   cases hv
   exact Ql h (fin 0 (by simp [Builtin.len_,ht0,run_underlying g1,goInt])) (.int _ _)
  ·rename_i e hk
   obtain ⟨z,hz,hr⟩:=Q5 he
   cases hr; cases hz
   rw [g3] at hk; rw [Zk hk] at g1
   cases hv
   exact Ql h (fin 0 (by simp [Builtin.len_,ht0,run_underlying g1,goInt])) (.int _ _)
  ·rename_i e hk
   obtain ⟨z,hz,hr⟩:=Q5 he
   cases hr; cases hz
   rw [g3] at hk; rw [Zk hk] at g1
   cases hv
   exact Ql h (fin 0 (by simp [Builtin.len_,ht0,run_underlying g1,goInt])) (.int _ _)
  ·rename_i e fl xs hk
   obtain ⟨z,hz,hr⟩:=Q5 he
   cases hr; cases hz
   rw [g3] at hk; rw [Zk hk] at g1
   cases hv with
   | lst0=>exact Ql h (fin 0 (by simp [Builtin.len_,ht0,run_underlying g1,goInt])) (.int _ _)
   | lst=>exact Ql h (fin xs.length (by simp [Builtin.len_,ht0,run_underlying g1,goInt])) (.int _ _)
  ·rename_i e q1 q2 n hk
   obtain ⟨z,hz,hr⟩:=Q5 he
   cases hr; cases hz
   rw [g3] at hk; rw [Zk hk] at g1
   cases hv with
   | ref0=>exact Ql h (fin 0 (by simp [Builtin.len_,ht0,run_underlying g1,goInt])) (.int _ _)
   | ref=>exact Ql h (fin n (by simp [Builtin.len_,ht0,run_underlying g1,goInt])) (.int _ _)
  ·rename_i n e hk
   obtain ⟨z,hz,hr⟩:=Q5 he
   cases hr; cases hz
   rw [g3] at hk; rw [Qa4 hk] at g1
   exact Ql h (fin n (by simp [Builtin.len_,ht0,run_underlying g1,goInt])) (.int _ _)
  ·cases he
 ·cases he
theorem Qhr:∀{xs:List AV} {x z:AV} {vs:List Value} {v:Value},Qcs x xs=some z→Qa M ι v x→vs.length=xs.length→(∀(j:Nat) (u:Value) (y:AV),vs[j]?=some u→xs[j]?=some y→Qa M ι u y) →
  ∃r,(vs.foldlM Builtin.min2 v).run P W=.ok r W∧Qa M ι r z
 | [],x,z,vs,v,h,hv,hl,hr=>by
  simp [Qcs] at h; subst h
  have:vs=[]:=List.eq_nil_of_length_eq_zero hl
  subst this
  exact ⟨v,by simp,hv⟩
 | y::ys,x,z,vs,v,h,hv,hl,hr=>by
  cases vs with
  | nil=>simp at hl
  | cons u us =>
   have hu:=hr 0 u y rfl rfl
   cases x with
   | int k p=>cases y with
    | int k' q =>
     simp only [Qcs] at h
     split at h
     ·rename_i hk
      subst hk
      rw [hv.int_inv,hu.int_inv]
      obtain ⟨r,h1,h2⟩:=Qhr (v:=.int k (if q < p then q else p)) h (.int _ _) (by simpa using hl) (fun j u' y' a b=>hr (j+1) u' y' (by simpa using a) (by simpa using b))
      exact ⟨r,by simpa [List.foldlM_cons,Builtin.min2] using h1,h2⟩
     ·cases h
    | _=>simp [Qcs] at h
   | _=>simp [Qcs] at h
theorem Qit:∀{xs:List AV} {x z:AV} {vs:List Value} {v:Value},Qcg x xs=some z→Qa M ι v x→vs.length=xs.length→(∀(j:Nat) (u:Value) (y:AV),vs[j]?=some u→xs[j]?=some y→Qa M ι u y) →
  ∃r,(vs.foldlM Builtin.max2 v).run P W=.ok r W∧Qa M ι r z
 | [],x,z,vs,v,h,hv,hl,hr=>by
  simp [Qcg] at h; subst h
  have:vs=[]:=List.eq_nil_of_length_eq_zero hl
  subst this
  exact ⟨v,by simp,hv⟩
 | y::ys,x,z,vs,v,h,hv,hl,hr=>by
  cases vs with
  | nil=>simp at hl
  | cons u us =>
   have hu:=hr 0 u y rfl rfl
   cases x with
   | int k p=>cases y with
    | int k' q =>
     simp only [Qcg] at h
     split at h
     ·rename_i hk
      subst hk
      rw [hv.int_inv,hu.int_inv]
      obtain ⟨r,h1,h2⟩:=Qit (v:=.int k (if q > p then q else p)) h (.int _ _) (by simpa using hl) (fun j u' y' a b=>hr (j+1) u' y' (by simpa using a) (by simpa using b))
      exact ⟨r,by simpa [List.foldlM_cons,Builtin.max2] using h1,h2⟩
     ·cases h
    | _=>simp [Qcg] at h
   | _=>simp [Qcg] at h
theorem Qwo (h:Rel P B W0 D M ι σ W) (hs:Qg M ι s a.tmps) {args:Array Operand} {ts:Array TypeId} (ho:o.op=.call { callee:=.builtin .cap,args,argTypes:=ts }) (he:evalOp P nf C σ fr s o=some (.val res)):Q8 P B W0 D M ι σ fr a o W res:=by
 unfold evalOp at he
 rw [ho] at he
 simp only at he
 obtain ⟨cs,hrun⟩:=Y8 (P:=P) (W:=W) (a:=a) ho
 unfold Qtg at he
 split at he <;> first | (cases he; done) | skip
 rename_i x t tr hargs hts
 have hargs':=Q1e hargs
 subst hargs'
 split at he
 ·rename_i T y hT hx
  obtain ⟨d,i,g1,g2,g3,_⟩:=Zq hT
  have ht0:ts[0]?=some t:=by cases ts; simp_all
  have hv:=Qe hs hx
  have fin:∀n:Int,(Builtin.cap_ ts o.type #[a.eval x]).run P W=.ok (.int .i64 n) W→(execOp a.eval o).run P W=.ok (.value (.int .i64 n)) W:=by
   intro n hn
   rw [hrun]
   simp only [builtin,List.map_toArray,List.map_cons,List.map_nil,Sem.run_bind,hn,Result.andThen_ok,Sem.run_pure]
  generalize hu:a.eval x=u at hv fin
  split at he
  ·rename_i e hk
   obtain ⟨z,hz,hr⟩:=Q5 he
   cases hr; cases hz
   rw [g3] at hk; rw [Zk hk] at g1
   cases hv
   exact Ql h (fin 0 (by simp [Builtin.cap_,ht0,run_underlying g1,goInt])) (.int _ _)
  ·rename_i e hk
   obtain ⟨z,hz,hr⟩:=Q5 he
   cases hr; cases hz
   rw [g3] at hk; rw [Zk hk] at g1
   cases hv
   exact Ql h (fin 0 (by simp [Builtin.cap_,ht0,run_underlying g1,goInt])) (.int _ _)
  ·cases he
 ·cases he
theorem Qju (h:Rel P B W0 D M ι σ W) (hs:Qg M ι s a.tmps) {b:Builtin} (hb:b=.min∨b=.max) {args:Array Operand} {ts:Array TypeId} (ho:o.op=.call { callee:=.builtin b,args,argTypes:=ts }) (he:evalOp P nf C σ fr s o=some (.val res)):Q8 P B W0 D M ι σ fr a o W res:=by
 obtain ⟨cs,hrun⟩:=Y8 (P:=P) (W:=W) (a:=a) ho
 have key:∃x xs p ps,args.toList=x::xs∧evo s x=some p∧Ja s xs=some ps∧(b=.min→Zt fr (Qcs p ps)=some (.val res))∧(b=.max→Zt fr (Qcg p ps)=some (.val res)):=by
  unfold evalOp at he
  rw [ho] at he
  rcases hb with rfl | rfl
  ·simp only [Qsm] at he
   split at he <;> first | (cases he; done) | skip
   rename_i x xs hargs
   split at he
   ·rename_i p ps hp hps
    exact ⟨x,xs,p,ps,hargs,hp,hps,fun _=>he,(fun h=>by cases h)⟩
   ·cases he
  ·simp only [Qtl] at he
   split at he <;> first | (cases he; done) | skip
   rename_i x xs hargs
   split at he
   ·rename_i p ps hp hps
    exact ⟨x,xs,p,ps,hargs,hp,hps,(fun h=>by cases h),fun _=>he⟩
   ·cases he
 obtain ⟨x,xs,p,ps,hargs,hp,hps,k1,k2⟩:=key
 obtain ⟨l1,g1⟩:=Vo hs hps
 have hal:(args.map a.eval).toList=a.eval x::xs.map a.eval:=by rw [Array.toList_map,hargs]; rfl
 have hrep:∀(j:Nat) (u:Value) (y:AV),(xs.map a.eval)[j]?=some u→ps[j]?=some y→Qa M ι u y:=by
  intro j u y hu hy
  simp only [List.getElem?_map,Option.map_eq_some_iff] at hu
  obtain ⟨w,hw,rfl⟩:=hu
  exact (g1 j w y hw hy).2
 rcases hb with rfl | rfl
 ·obtain ⟨z,hz,hr⟩:=Q5 (k1 rfl)
  cases hr
  obtain ⟨r,r1,r2⟩:=Qhr (P:=P) (W:=W) hz (Qe hs hp) (by simp [l1]) hrep
  refine Ql h (v:=r) ?_ r2
  rw [hrun]
  simp only [builtin,Builtin.min_,hal,Sem.run_bind,r1,Result.andThen_ok,Sem.run_pure]
 ·obtain ⟨z,hz,hr⟩:=Q5 (k2 rfl)
  cases hr
  obtain ⟨r,r1,r2⟩:=Qit (P:=P) (W:=W) hz (Qe hs hp) (by simp [l1]) hrep
  refine Ql h (v:=r) ?_ r2
  rw [hrun]
  simp only [builtin,Builtin.max_,hal,Sem.run_bind,r1,Result.andThen_ok,Sem.run_pure]
theorem Qcw (hs:Qg M ι s a.tmps):∀{ps:List (Nat × Operand)} {qs:List (Nat × AV)},Jq s ps=some qs →
  qs.length=ps.length∧∀(j:Nat) (p:Nat × Operand) (q:Nat × AV),ps[j]?=some p→qs[j]?=some q→q.1=p.1∧Qa M ι (a.eval p.2) q.2
 | [],qs,h=>by simp [Jq] at h; subst h; simp
 | (i,x)::ps,qs,h=>by
  simp only [Jq] at h
  split at h
  ·rename_i b bs h1 h2
   cases h
   obtain ⟨e1,e2⟩:=Qcw hs h2
   refine ⟨by simp [e1],fun j u y hu hy=>?_⟩
   cases j with
   | zero=>simp at hu hy; subst hu; subst hy; exact ⟨rfl,Qe hs h1⟩
   | succ j=>exact e2 j u y (by simpa using hu) (by simpa using hy)
  ·cases h
theorem Qnq (vs:List Value):∀(off k:Nat) (cs:Array Value),off+k+vs.length≤cs.size →
  ((vs.zipIdx k).foldl (fun cs (c,j)=>cs.setIfInBounds (off+j) c) cs).toList=cs.toList.take (off+k)++vs++cs.toList.drop (off+k+vs.length):=by
 induction vs with
 | nil=>intro off k cs h; simp
 | cons v vs ih =>
  intro off k cs h
  simp only [List.length_cons] at h
  simp only [List.zipIdx_cons,List.foldl_cons]
  rw [ih off (k+1) _ (by simp; omega)]
  have h1:(cs.setIfInBounds (off+k) v).toList=cs.toList.set (off+k) v:=by simp
  rw [h1,show off+(k+1)=off+k+1 by omega]
  have h2:(cs.toList.set (off+k) v).take (off+k+1)=cs.toList.take (off+k)++[v]:=by
   rw [List.take_add_one,List.take_set_of_le (by omega)]
   simp [List.getElem?_set,show off+k < cs.size by omega]
  rw [h2,List.drop_set_of_lt (by omega)]
  simp only [List.append_assoc,List.singleton_append,List.length_cons]
  rw [show off+k+1+vs.length=off+k+(vs.length+1) by omega]
theorem Qj5 {x:AV} (h:x.okv=true):x=.agg x.flat ∨ x.cell=true:=by
 cases x <;> simp_all [AV.okv,AV.flat,AV.cell]
theorem Qg0 {place:Nat → Option (Nat × Nat)} {place':Nat → Option (Nat × Nat)} (hp:∀i p,place' i=some p→place i=some p) :
  ∀{qs:List (Nat × AV)} {ps:List (Nat × Value)} {cs:Array Value} {as bs:List AV},qs.length=ps.length→(∀(j:Nat) (p:Nat × Value) (q:Nat × AV),ps[j]?=some p→qs[j]?=some q→q.1=p.1∧Qa M ι p.2 q.2) →
  cs.size=as.length→(∀y∈as,AV.cell y=true)→(∀(j:Nat) (v:Value) (y:AV),cs[j]?=some v→as[j]?=some y→Qa M ι v y)→Qap place' as qs=some bs →
  ∃ds,Instr.fill place cs ps=some ds∧ds.size=bs.length∧(∀y∈bs,AV.cell y=true)∧∀(j:Nat) (v:Value) (y:AV),ds[j]?=some v→bs[j]?=some y→Qa M ι v y
 | [],ps,cs,as,bs,hl,hr,hsz,hc,hcr,h=>by
  have:ps=[]:=List.eq_nil_of_length_eq_zero hl.symm
  subst this
  simp [Qap] at h; subst h
  exact ⟨cs,rfl,hsz,hc,hcr⟩
 | (i,x)::qs,ps,cs,as,bs,hl,hr,hsz,hc,hcr,h=>by
  cases ps with
  | nil=>simp at hl
  | cons p ps =>
   obtain ⟨e1,e2⟩:=hr 0 p (i,x) rfl rfl
   simp only at e1 e2
   simp only [Qap] at h
   split at h
   ·rename_i off size hpl
    split at h
    ·rename_i hcond
     simp only [Bool.and_eq_true] at hcond
     obtain ⟨⟨c0,c1⟩,c2⟩:=hcond
     have c1:=Yj c1
     have c2:=Z8 c2
     have hcells:=e2.cells (Qj5 c0)
     obtain ⟨d1,d2,d3⟩:=hcells
     have hsize:p.2.cells.size=size:=by rw [d1,c1]
     have hfit:¬ (p.2.cells.size≠size∨off+p.2.cells.size > cs.size):=by rw [hsize,hsz]; omega
     have hfold:=Qnq p.2.cells.toList off 0 cs (by simp only [Array.length_toList]; omega)
     simp only [Nat.add_zero,Array.length_toList,hsize] at hfold
     obtain ⟨ds,f1,f2,f3,f4⟩:=Qg0 hp (qs:=qs) (ps:=ps) (cs:=p.2.cells.zipIdx.foldl (fun cs (c,j)=>cs.setIfInBounds (off+j) c) cs) (bs:=bs) (by simpa using hl)
      (fun j p' q' a b=>hr (j+1) p' q' (by simpa using a) (by simpa using b)) (by
       rw [←Array.length_toList,←Array.foldl_toList,Array.toList_zipIdx,hfold]
       simp only [List.length_append,List.length_take,List.length_drop,Array.length_toList,hsize,hsz,c1]) (fun y hy=>by
       simp only [List.mem_append] at hy
       rcases hy with (hy | hy) | hy
       ·exact hc y (List.mem_of_mem_take hy)
       ·exact d3 y hy
       ·exact hc y (List.mem_of_mem_drop hy)) (fun j v y hv hy=>by
       rw [←Array.getElem?_toList,←Array.foldl_toList,Array.toList_zipIdx,hfold] at hv
       have l1:(cs.toList.take off).length=off:=by simp; omega
       have l2:(as.take off).length=off:=by simp; omega
       rcases Nat.lt_or_ge j off with hj | hj
       ·rw [List.append_assoc,List.getElem?_append_left (by omega),List.getElem?_take,if_pos hj] at hv hy
        exact hcr j v y (by simpa using hv) hy
       ·rw [List.append_assoc,List.getElem?_append_right (by omega),l1] at hv
        rw [List.append_assoc,List.getElem?_append_right (by omega),l2] at hy
        rcases Nat.lt_or_ge (j - off) size with hj2 | hj2
        ·rw [List.getElem?_append_left (by simp [hsize]; omega)] at hv
         rw [List.getElem?_append_left (by omega)] at hy
         exact (d2 (j - off) v y (by simpa using hv) hy).1
        ·rw [List.getElem?_append_right (by simp [hsize]; omega),List.getElem?_drop] at hv
         rw [List.getElem?_append_right (by omega),List.getElem?_drop] at hy
         simp only [Array.length_toList,hsize] at hv
         rw [c1] at hy
         exact hcr _ v y (by simpa using hv) hy) h
     refine ⟨ds,?_,f2,f3,f4⟩
     simp only [Instr.fill,←e1,hp i _ hpl]
     rw [if_neg (by simpa using hfit)]
     exact f1
    ·cases h
   ·cases h
end
end Go.Ab
namespace Go.Ab
open Go.RowKit
section
variable {P:Program} {nf:Bool} {C:FuncId→List AV→Option Z2} {B:Nat} {W0 W W':World} {D:List Nat} {M:CM} {ι:Inj} {σ:Sto} {s:Slots} {a:Act} {fr:Nat} {o:Oper} {res:Res}
theorem Qa.shaped_of {v:Value} {x:AV} (h:Qa M ι v x) (hk:x.okv=true):x.shaped x.flat.length :=
 ⟨Qj5 hk,rfl,(h.cells (Qj5 hk)).2.2⟩
theorem Qau {t:TypeId} {T:TI} (ht:ti P t=some T) {z:AV} (hz:T.zero=some z):∃i zv,P.info? t=some i∧i.zero=some zv∧T.size=i.size∧(∀M ι,Qa M ι zv z)∧z.shaped zv.cells.size:=by
 obtain ⟨d,i,h1,h2,h3,h4,h5,h6,h7,h8,_⟩:=Zq ht
 rw [h7] at hz
 cases hi:i.zero with
 | none=>simp [hi] at hz
 | some zv =>
  simp [hi] at hz
  exact ⟨i,zv,h2,hi,h4,fun M ι=>(Qd1 (M:=M) (ι:=ι) hz).1,(Qd1 (M:=M0) (ι:=noInj) hz).2⟩
theorem Y3 {t:TypeId} {i:TypeInfo} (h:P.info? t=some i) {z:Value} (hz:i.zero=some z) (W:World):(zeroValue t).run P W=.ok z W:=by simp [zeroValue,typeInfo,h,hz]
theorem Qka (h:Rel P B W0 D M ι σ W) (hfr:ι fr=none) {c:Array Value} {e:TypeId} {bx nr fl:Bool} {w cap:Nat} {xs:List AV} {v:Value} {x:AV} {rd:List Nat}
  (hrun:(execOp a.eval o).run P W=.ok (.value v) (W.alloc (.cells c e)))
  (pos:0 < w) (cpos:0 < cap) (hc:c.size=cap*w) (hl:xs.length≤cap) (hs:∀x∈xs,AV.shaped x w) (hnr:nr=true→AV.nrL xs=true) (hfl:fl=true→∀x∈xs,AV.scs x=true)
  (hcells:∀(i j:Nat) (x y:AV),xs[i]?=some x→x.flat[j]?=some y→∃v,c[i*w+j]?=some v∧Qa M ι v y)
  (hv:∀ι',ι' fr=some ⟨W.heap.size,0,w,cap⟩→Qa M ι' v x) :
  Q8 P B W0 D M ι σ fr a o W ⟨some x,[(fr,.row bx false nr fl w xs)],fr+1,rd⟩:=by
 refine ⟨v,_,M,ι.put fr ⟨W.heap.size,0,w,cap⟩,.inl hrun,.refl _ _,Inj.le_put _ hfr,fun k hk=>Inj.put_ne _ _ ?_,h.allocRow hfr c e pos cpos hc hl hs hnr hfl hcells,fun y hy=>?_⟩
 ·simp at hk; omega
 ·cases hy; exact hv _ (Inj.put_same _ _ _)
theorem Qs1 (h:Rel P B W0 D M ι σ W) (hfr:∀k,fr≤k→k < res.fr→ι k=none) {t:TypeId} (ho:o.op=.alloc t) (he:evalOp P nf C σ fr s o=some (.val res)):Q8 P B W0 D M ι σ fr a o W res:=by
 unfold evalOp at he
 rw [ho] at he
 simp only at he
 split at he
 ·rename_i T hT
  split at he
  ·rename_i z hz
   split at he
   ·rename_i hc
    simp only [Bool.and_eq_true] at hc
    obtain ⟨c1,c2⟩:=hc
    have c1:=Yj c1; have c2:=X0 c2
    cases he
    obtain ⟨i,zv,h2,hi,h4,hrep,hsh⟩:=Qau hT hz
    have hsz:zv.cells.size=T.size:=by rw [←hsh.len,c1]
    refine Qka h (hfr fr (Nat.le_refl _) (by simp)) (c:=zv.cells) (e:=t) (v:=.pointer (some ⟨W.heap.size,0,none⟩)) (cap:=1) ?_ c2 (by omega) (by omega) (by simp) (fun x hx=>?_) (fun hn=>by simpa [AV.nrL] using hn) (fun hf x hx=>by simp at hx; subst hx; exact hf) (fun i j x y hi' hj=>?_) (fun ι' hι=>?_)
    ·simp [execOp,ho,Instr.alloc,Y3 h2 hi,newVar,newRow]
    ·simp at hx; subst hx; rw [←hsz]; exact hsh
    ·cases i with
     | zero =>
      simp at hi'; subst hi'
      have hj':j < zv.cells.size:=by rw [←hsh.len]; exact (List.getElem?_eq_some_iff.1 hj).1
      exact ⟨zv.cells[j],by simpa using Array.getElem?_eq_getElem hj',(((hrep M ι).cells hsh.form).2.1 j _ y (Array.getElem?_eq_getElem hj') hj).1⟩
     | succ i=>simp at hi'
    ·have:=Qa.ptr (M:=M) (ι:=ι') fr 0 0 ⟨W.heap.size,0,T.size,1⟩ hι
     simpa using this
   ·cases he
  ·cases he
 ·cases he
theorem Qwc (h:Rel P B W0 D M ι σ W) (hs:Qg M ι s a.tmps) (hfr:∀k,fr≤k→k < res.fr→ι k=none) {t:TypeId} {x:Operand} (ho:o.op=.box t x) (he:evalOp P nf C σ fr s o=some (.val res)):Q8 P B W0 D M ι σ fr a o W res:=by
 unfold evalOp at he
 rw [ho] at he
 simp only at he
 split at he
 ·rename_i T z hT hz
  split at he
  ·rename_i hc
   simp only [Bool.and_eq_true] at hc
   obtain ⟨⟨c0,c1⟩,c2⟩:=hc
   have c1:=Yj c1; have c2:=X0 c2
   cases he
   have hrep:=Qe hs hz
   have hsh:=hrep.shaped_of c0
   rw [c1] at hsh
   obtain ⟨d1,d2,d3⟩:=hrep.cells hsh.form
   refine Qka h (hfr fr (Nat.le_refl _) (by simp)) (c:=(a.eval x).cells) (e:=t) (v:=.pointer (some ⟨W.heap.size,0,none⟩)) (cap:=1) ?_ c2 (by omega) (by omega) (by simp) (fun y hy=>?_) (fun hn=>by simpa [AV.nrL] using hn) (fun hf y hy=>by simp at hy; subst hy; exact hf) (fun i j y q hi' hj=>?_) (fun ι' hι=>?_)
   ·simp [execOp,ho,Instr.box,newVar,newRow]
   ·simp at hy; subst hy; exact hsh
   ·cases i with
    | zero =>
     simp at hi'; subst hi'
     have hj':j < (a.eval x).cells.size:=by rw [d1]; exact (List.getElem?_eq_some_iff.1 hj).1
     exact ⟨(a.eval x).cells[j],by simpa using Array.getElem?_eq_getElem hj',(d2 j _ q (Array.getElem?_eq_getElem hj') hj).1⟩
    | succ i=>simp at hi'
   ·have:=Qa.ptr (M:=M) (ι:=ι') fr 0 0 ⟨W.heap.size,0,T.size,1⟩ hι
    simpa using this
  ·cases he
 ·cases he
theorem Qlz {z:Value} {x:AV} (hrep:Qa M ι z x) (hsh:x.shaped z.cells.size) {n m:Nat} (hnm:n≤m) (i j:Nat) (y u:AV) (hi:(List.replicate n x)[i]?=some y) (hj:y.flat[j]?=some u) :
  ∃v,((Array.range (m*z.cells.size)).map (z.cells[· % z.cells.size]!))[i*z.cells.size+j]?=some v∧Qa M ι v u:=by
 have hin:i < n:=by have:=(List.getElem?_eq_some_iff.1 hi).1; simpa using this
 rw [List.getElem?_replicate] at hi
 split at hi
 ·cases hi
  have hjz:j < z.cells.size:=by rw [←hsh.len]; exact (List.getElem?_eq_some_iff.1 hj).1
  have hlt:i*z.cells.size+j < m*z.cells.size:=by
   calc i*z.cells.size+j < (i+1)*z.cells.size:=by rw [Nat.succ_mul]; omega
     _≤m*z.cells.size:=Nat.mul_le_mul_right _ (by omega)
  refine ⟨z.cells[j],?_,((hrep.cells hsh.form).2.1 j _ u (Array.getElem?_eq_getElem hjz) hj).1⟩
  have hmod:(i*z.cells.size+j) % z.cells.size=j:=by rw [Nat.mul_comm,Nat.mul_add_mod,Nat.mod_eq_of_lt hjz]
  rw [Array.getElem?_map,Array.getElem?_eq_getElem (by simpa using hlt)]
  simp [hmod,hjz]
 ·rename_i hn
  exact absurd hin hn
theorem Qml (h:Rel P B W0 D M ι σ W) (hs:Qg M ι s a.tmps) (hfr:∀k,fr≤k→k < res.fr→ι k=none) {t:TypeId} {x y:Operand} (ho:o.op=.makeSlice t x y) (he:evalOp P nf C σ fr s o=some (.val res)):Q8 P B W0 D M ι σ fr a o W res:=by
 unfold evalOp at he
 rw [ho] at he
 simp only at he
 split at he
 ·rename_i T p q hT hp hq
  split at he
  ·rename_i e n m hk hn hm
   split at he
   ·rename_i E hE
    split at he
    ·rename_i z hz
     split at he
     ·rename_i hc
      simp only [Bool.and_eq_true] at hc
      obtain ⟨⟨⟨⟨c1,c2⟩,c3⟩,c4⟩,c5⟩:=hc
      have c1:=Z8 c1; have c3:=Z8 c3; have c4:=Yj c4; have c5:=X0 c5
      obtain ⟨d,i0,g1,g2,g3,_⟩:=Zq hT
      rw [g3] at hk; rw [Zk hk] at g1
      obtain ⟨i,zv,h2,hi,h4,hrep,hsh⟩:=Qau hE hz
      obtain ⟨_,i',_,h2',_,_,hby,_⟩:=Zq hE
      rw [h2] at h2'; cases h2'
      have hsz:zv.cells.size=E.size:=by rw [←hsh.len,c4]
      obtain ⟨k1,hk1⟩:=Qdk (Qe hs hp) hn
      obtain ⟨k2,hk2⟩:=Qdk (Qe hs hq) hm
      have hb:(i.bytes:Int)*(m:Int)≤281474976710656:=by
       simp only [Yr,Bool.and_eq_true] at c2
       have c2:=Z8 c2.2
       rw [hby] at c2
       have:i.bytes*m≤140737488355328:=by rw [Nat.mul_comm]; exact c2
       have:((i.bytes*m:Nat):Int)≤281474976710656:=by omega
       rwa [Int.natCast_mul] at this
      have hmk:=run_make (P:=P) W t e i zv g1 h2 hi k1 k2 (n:Int) (m:Int) (by omega) (by omega) hb (by omega)
      simp only [Int.toNat_natCast] at hmk
      have hrun:(execOp a.eval o).run P W=.ok (.value (.slice (some ⟨W.heap.size,0,none⟩) n m)) (W.alloc (.cells (madeCells zv.cells (m*i.size)) e)):=by
       simp only [execOp,ho,hk1,hk2,Sem.run_bind,hmk,Result.andThen_ok,Sem.run_pure]
      by_cases hm0:m=0
      ·cases he
       subst hm0
       have hn0:n=0:=by omega
       subst hn0
       have hnone:=hfr fr (Nat.le_refl _) (by simp)
       exact ⟨_,_,M,ι.put fr ⟨B,0,E.size,0⟩,.inl hrun,.refl _ _,Inj.le_put _ hnone,fun k hk=>Inj.put_ne _ _ (by simp only at hk; omega),(h.alloc _ _).virt hnone c5,fun y hy=>by cases hy; exact .ref0 _ _ _ (Inj.put_same _ _ _) rfl⟩
      ·cases he
       refine Qka h (hfr fr (Nat.le_refl _) (by simp)) (cap:=m) hrun c5 (by omega) ?_ ?_ (fun x hx=>?_) (fun hnr=>?_) (fun hf x hx=>?_) (fun a' j y u hi' hj=>?_) (fun ι' hι=>?_)
       ·rw [size_madeCells,←h4]
       ·simpa using c1
       ·have:=List.eq_of_mem_replicate hx; subst this; rw [←hsz]; exact hsh
       ·rw [Q1]; intro x hx; have:=List.eq_of_mem_replicate hx; subst this; exact hnr
       ·have:=List.eq_of_mem_replicate hx; subst this; exact hf
       ·have:=Qlz (hrep M ι) hsh c1 a' j y u hi' hj
        rw [hsz] at this
        simp only [madeCells,←h4]
        have hsz':=hsz
        simpa [hsz] using this
       ·have:=Qa.ref (M:=M) (ι:=ι') fr 0 n ⟨W.heap.size,0,E.size,m⟩ 0 m hι (by simpa using c1) (by simp) (.inl (by simp))
        exact this
     ·cases he
    ·cases he
   ·cases he
  ·cases he
 ·cases he
theorem Qhc {α β:Type} {f:α→Sem β} {g:α→β}:∀(xs:List α),(∀x∈xs,(f x).run P W=.ok (g x) W)→(xs.mapM f).run P W=.ok (xs.map g) W
 | [],_=>by simp
 | x::xs,h=>by
  rw [List.mapM_cons]
  simp only [Sem.run_bind,h x (by simp),Result.andThen_ok,Qhc xs (fun y hy=>h y (by simp [hy])),Sem.run_pure,List.map_cons]
theorem Qmm {α β:Type} {f:α→Sem β} {g:α→β} (xs:Array α) (h:∀x∈xs.toList,(f x).run P W=.ok (g x) W):(xs.mapM f).run P W=.ok (xs.map g) W:=by
 rw [Array.mapM_eq_mapM_toList]
 refine (Sem.run_map P W _ _).trans ?_
 rw [Qhc (g:=g) xs.toList h]
 have:(xs.toList.map g).toArray=xs.map g:=Array.ext' (by simp)
 show Result.ok ((xs.toList.map g).toArray) W=_
 rw [this]
theorem Qsa (h:Rel P B W0 D M ι σ W) (hs:Qg M ι s a.tmps) {t:TypeId} {ps:Array (Nat × Operand)} (ho:o.op=.build t ps) (he:evalOp P nf C σ fr s o=some (.val res)):Q8 P B W0 D M ι σ fr a o W res:=by
 unfold evalOp at he
 rw [ho] at he
 simp only at he
 split at he
 ·rename_i T parts hT hps
  split at he
  ·cases he
  ·rename_i hfok
   obtain ⟨d,i0,g1,g2,g3,g4,_,_,g7,_,g9⟩:=Zq hT
   obtain ⟨l1,q1⟩:=Qcw hs hps
   have hrepP:∀(j:Nat) (p:Nat × Value) (q:Nat × AV),((ps.map fun (i,x)=>(i,a.eval x)).toList)[j]?=some p→parts[j]?=some q→q.1=p.1∧Qa M ι p.2 q.2:=by
    intro j p q hp hq
    simp only [Array.toList_map,List.getElem?_map,Option.map_eq_some_iff] at hp
    obtain ⟨w,hw,rfl⟩:=hp
    exact q1 j w q hw hq
   have hlen:parts.length=((ps.map fun (i,x)=>(i,a.eval x)).toList).length:=by simp [l1]
   split at he
   ·rename_i fs z hk hz
    split at he
    ·rename_i cs hfill
     cases he
     rw [g3] at hk
     obtain ⟨gs,rfl,rfl⟩:=Qcz hk
     simp only [Bool.not_eq_true,Bool.not_eq_false'] at hfok
     rw [g9] at hfok
     simp only [List.all_eq_true] at hfok
     have hmap:∀W,(gs.mapM fun f=>do pure (f.offset,←sizeOf f.type):Sem (Array (Nat × Nat))).run P W=.ok (gs.map fun f=>(f.offset,P.cellsOf f.type)) W:=fun W=>by
      refine Qmm gs (fun f hf=>?_)
      obtain ⟨i,hi⟩:=Option.isSome_iff_exists.1 (hfok f hf)
      simp [Z9 hi,Program.cellsOf,hi]
     have hplace:∀i p,Qe1 P (gs.toList.map fun f=>(f.offset,f.type)) i=some p→(gs.map fun f=>(f.offset,P.cellsOf f.type))[i]?=some p:=by
      intro i p hp
      simp only [Qe1,List.getElem?_map] at hp
      cases hg:gs.toList[i]? with
      | none=>simp [hg] at hp
      | some f =>
       simp only [hg,Option.map_some] at hp
       cases hu:ti P f.type with
       | none=>simp [hu] at hp
       | some U =>
        simp only [hu,Option.map_some,Option.some.injEq] at hp
        subst hp
        obtain ⟨_,i',_,hi',_,hsz,_⟩:=Zq hu
        have:gs[i]?=some f:=by simpa using hg
        simp [this,Program.cellsOf,hi',hsz]
     obtain ⟨i,zv,h2,hi,h4,hrep,hsh⟩:=Qau hT hz
     obtain ⟨e1,e2,e3⟩:=(hrep M ι).cells hsh.form
     obtain ⟨ds,f1,f2,f3,f4⟩:=Qg0 (M:=M) (ι:=ι) hplace hlen hrepP e1 e3 (fun j v y hv hy=>(e2 j v y hv hy).1) hfill
     refine Ql h ?_ (.agg ds cs f2 f3 f4)
     simp only [execOp,ho,Instr.build,Sem.run_bind,Y3 h2 hi,Result.andThen_ok,run_underlying g1,hmap,f1,Sem.run_pure]
    ·cases he
   ·rename_i n e z hk hz
    split at he
    ·rename_i E hE
     split at he
     ·rename_i cs hfill
      cases he
      rw [g3] at hk
      rw [Qa4 hk] at g1
      obtain ⟨_,i',_,hi',_,hsz',_⟩:=Zq hE
      obtain ⟨i,zv,h2,hi,h4,hrep,hsh⟩:=Qau hT hz
      obtain ⟨e1,e2,e3⟩:=(hrep M ι).cells hsh.form
      obtain ⟨ds,f1,f2,f3,f4⟩:=Qg0 (M:=M) (ι:=ι) (place:=fun i=>some (i*i'.size,i'.size)) (fun i p hp=>by rw [←hsz']; exact hp) hlen hrepP e1 e3 (fun j v y hv hy=>(e2 j v y hv hy).1) hfill
      refine Ql h ?_ (.agg ds cs f2 f3 f4)
      simp only [execOp,ho,Instr.build,Sem.run_bind,Y3 h2 hi,Result.andThen_ok,run_underlying g1,Z9 hi',f1,Sem.run_pure]
     ·cases he
    ·cases he
   ·cases he
 ·cases he
end
end Go.Ab
namespace Go.Ab
open Go.RowKit
section
variable {P:Program} {nf:Bool} {C:FuncId→List AV→Option Z2} {B:Nat} {W0 W W':World} {D:List Nat} {M:CM} {ι:Inj} {σ:Sto} {s:Slots} {a:Act} {fr:Nat} {o:Oper} {res:Res}
structure Xl (M:CM) (ι:Inj) (w:Nat) (xs:List AV) (cs:List Value):Prop where
 size:cs.length=xs.length*w
 shaped:∀x∈xs,AV.shaped x w
 rep:∀(i j:Nat) (x y:AV),xs[i]?=some x→x.flat[j]?=some y→∃v,cs[i*w+j]?=some v∧Qa M ι v y∧v.oneCell'=true
theorem Xl.mono {M':CM} {ι':Inj} {w:Nat} {xs:List AV} {cs:List Value} (h:Xl M ι w xs cs) (hM:M.le M') (hι:ι.le ι'):Xl M' ι' w xs cs :=
 ⟨h.size,h.shaped,fun i j x y hi hj=>let ⟨v,a,b,c⟩:=h.rep i j x y hi hj; ⟨v,a,b.mono hM hι,c⟩⟩
theorem Xl.set {w:Nat} {xs:List AV} {cs:List Value} (h:Xl M ι w xs cs) {i:Nat} (hi:i < xs.length) {v:Value} {x:AV} (hv:Qa M ι v x) (hx:x.shaped w) :
  Xl M ι w (xs.set i x) (cs.take (i*w)++v.cells.toList++cs.drop (i*w+w)):=by
 obtain ⟨d1,d2,d3⟩:=hv.cells hx.form
 have hvl:v.cells.toList.length=w:=by rw [Array.length_toList,d1,hx.len]
 have hle:(i+1)*w≤xs.length*w:=Nat.mul_le_mul_right _ (by omega)
 rw [Nat.succ_mul] at hle
 have hs:=h.size
 refine ⟨?_,fun y hy=>?_,fun k j y z hk hj=>?_⟩
 ·simp only [List.length_append,List.length_take,List.length_drop,hvl,List.length_set]; omega
 ·rcases List.mem_or_eq_of_mem_set hy with hy | rfl
  ·exact h.shaped y hy
  ·exact hx
 ·have hkl:k < xs.length:=by have:=(List.getElem?_eq_some_iff.1 hk).1; simpa using this
  by_cases e:k=i
  ·subst e
   rw [List.getElem?_set_self hkl] at hk
   cases hk
   have hjw:j < w:=by rw [←hx.len]; exact (List.getElem?_eq_some_iff.1 hj).1
   have hjc:j < v.cells.size:=by rw [d1,hx.len]; exact hjw
   obtain ⟨r1,r2⟩:=d2 j _ z (Array.getElem?_eq_getElem hjc) hj
   refine ⟨v.cells[j],?_,r1,r2⟩
   rw [List.append_assoc,List.getElem?_append_right (by simp; omega),List.length_take,Nat.min_eq_left (by omega),List.getElem?_append_left (by omega)]
   simp [show k*w+j - k*w=j by omega,hjc]
  ·rw [List.getElem?_set_ne (Ne.symm e)] at hk
   obtain ⟨u,hu,r1,r2⟩:=h.rep k j y z hk hj
   have hjw:j < w:=by rw [←(h.shaped y (List.mem_of_getElem? hk)).len]; exact (List.getElem?_eq_some_iff.1 hj).1
   refine ⟨u,?_,r1,r2⟩
   rcases Nat.lt_or_ge k i with hlt | hge
   ·have:(k+1)*w≤i*w:=Nat.mul_le_mul_right _ (by omega)
    rw [Nat.succ_mul] at this
    rw [List.append_assoc,List.getElem?_append_left (by simp; omega),List.getElem?_take,if_pos (by omega)]; exact hu
   ·have:(i+1)*w≤k*w:=Nat.mul_le_mul_right _ (by omega)
    rw [Nat.succ_mul] at this
    rw [List.append_assoc,List.getElem?_append_right (by simp; omega),List.length_take,Nat.min_eq_left (by omega),List.getElem?_append_right (by omega),hvl,List.getElem?_drop,
     show i*w+w+(k*w+j - i*w - w)=k*w+j by omega]; exact hu
theorem Qem {w:Nat}:∀{qs:List (Nat × AV)} {ps:List (Nat × Value)} {cs:Array Value} {xs ys:List AV},qs.length=ps.length→(∀(j:Nat) (p:Nat × Value) (q:Nat × AV),ps[j]?=some p→qs[j]?=some q→q.1=p.1∧Qa M ι p.2 q.2) →
  Xl M ι w xs cs.toList→Qat w xs qs=some ys →
  ∃ds,Instr.fill (fun i=>some (i*w,w)) cs ps=some ds∧Xl M ι w ys ds.toList∧ys.length=xs.length
 | [],ps,cs,xs,ys,hl,hr,he,h=>by
  have:ps=[]:=List.eq_nil_of_length_eq_zero hl.symm
  subst this
  simp [Qat] at h; subst h
  exact ⟨cs,rfl,he,rfl⟩
 | (i,x)::qs,ps,cs,xs,ys,hl,hr,he,h=>by
  cases ps with
  | nil=>simp at hl
  | cons p ps =>
   obtain ⟨e1,e2⟩:=hr 0 p (i,x) rfl rfl
   simp only at e1 e2
   simp only [Qat] at h
   split at h
   ·rename_i hcond
    simp only [Bool.and_eq_true] at hcond
    obtain ⟨⟨c0,c1⟩,c2⟩:=hcond
    have c1:=Yj c1; have c2:=X0 c2
    have hsh:=e2.shaped_of c0
    rw [c1] at hsh
    obtain ⟨d1,d2,d3⟩:=e2.cells hsh.form
    have hsize:p.2.cells.size=w:=by rw [d1,c1]
    have hle:(i+1)*w≤xs.length*w:=Nat.mul_le_mul_right _ (by omega)
    rw [Nat.succ_mul] at hle
    have hcs:cs.size=xs.length*w:=by rw [←Array.length_toList]; exact he.size
    have hfold:=Qnq p.2.cells.toList (i*w) 0 cs (by simp only [Array.length_toList]; omega)
    simp only [Nat.add_zero,Array.length_toList,hsize] at hfold
    have hset:=he.set c2 e2 hsh
    obtain ⟨ds,f1,f2,f3⟩:=Qem (qs:=qs) (ps:=ps) (cs:=p.2.cells.zipIdx.foldl (fun cs (c,j)=>cs.setIfInBounds (i*w+j) c) cs) (xs:=xs.set i x) (ys:=ys) (by simpa using hl)
     (fun j p' q' a b=>hr (j+1) p' q' (by simpa using a) (by simpa using b)) (by
      rw [←Array.foldl_toList,Array.toList_zipIdx,hfold]; exact hset) h
    refine ⟨ds,?_,f2,by simpa using f3⟩
    have hfit:¬ (p.2.cells.size≠w∨p.1*w+p.2.cells.size > cs.size):=by rw [hsize,hcs,←e1]; omega
    simp only [Instr.fill]
    rw [if_neg (by simpa using hfit),←e1]
    exact f1
   ·cases h
theorem Qel (h:Rel P B W0 D M ι σ W) (ids:List Nat):∀{ps qs:List (Nat × AV)} {is:List Nat},Zp σ ps=some (qs,is)→(∀k∈is,k∈ids) →
  qs.length=ps.length∧∀(j:Nat) (p q:Nat × AV) (v:Value),ps[j]?=some p→qs[j]?=some q→Qa M ι v p.2→q.1=p.1∧Qa (Zg M W (inC σ ι ids)) ι v q.2
 | [],qs,is,hs,hsub=>by simp [Zp] at hs; obtain ⟨rfl,rfl⟩:=hs; simp
 | (i,x)::ps,qs,is,hs,hsub=>by
  simp only [Zp] at hs
  split at hs
  ·rename_i y a1 ys b1 h1 h2
   simp only [Option.some.injEq,Prod.mk.injEq] at hs
   obtain ⟨rfl,rfl⟩:=hs
   obtain ⟨l1,g1⟩:=Qel h ids h2 (fun k hk=>hsub k (List.mem_append_right _ hk))
   refine ⟨by simp [l1],fun j p q v hp hq hr=>?_⟩
   cases j with
   | zero =>
    simp at hp hq; subst hp; subst hq
    refine ⟨rfl,?_⟩
    split at h1
    ·cases h1; exact hr.mono (addM_le _ _ _) (Inj.le_refl _)
    ·exact (X4 h ids Qn x y a1 v h1 (fun k hk=>hsub k (List.mem_append_left _ hk)) hr).mono (CM.le_refl _) (Inj.noInj_le _)
   | succ j=>exact g1 j p q v (by simpa using hp) (by simpa using hq) hr
  ·cases hs
theorem Qq4 (o:Obj) (W:World):(newObj o).run P W=.ok W.heap.size (W.alloc o):=rfl
theorem Qqp (h:Rel P B W0 D M ι σ W):(Zg M W (inC σ ι [])).le M:=fun b k v hv=>by
 classical
 rw [Qfm] at hv
 unfold Qen at hv
 split at hv
 ·exact hv
 ·split at hv
  ·rename_i hd
   obtain ⟨o,ho,_⟩:=hd
   simp at ho
  ·cases hv
theorem Qtw (h:Rel P B W0 D M ι σ W) {ids:List Nat} {es:List (Nat × AObj)} (hf:frz σ ids=some es) (hfr:ι fr=none) {c:Array Value} {e:TypeId} {bx nr fl:Bool} {w cap:Nat} {xs:List AV} {v:Value} {x:AV} {rd:List Nat}
  (hrun:(execOp a.eval o).run P W=.ok (.value v) (W.alloc (.cells c e)))
  (pos:0 < w) (cpos:0 < cap) (hc:c.size=cap*w) (hl:xs.length≤cap) (hs:∀x∈xs,AV.shaped x w) (hnr:nr=true→AV.nrL xs=true) (hfl:fl=true→∀x∈xs,AV.scs x=true)
  (hcells:∀(i j:Nat) (x y:AV),xs[i]?=some x→x.flat[j]?=some y→∃v,c[i*w+j]?=some v∧Qa (Zg M W (inC σ ι ids)) ι v y)
  (hv:∀ι',ι' fr=some ⟨W.heap.size,0,w,cap⟩→Qa (Zg M W (inC σ ι ids)) ι' v x) :
  Q8 P B W0 D M ι σ fr a o W ⟨some x,es++[(fr,.row bx false nr fl w xs)],fr+1,rd⟩:=by
 have h':=Jz h hf
 refine ⟨v,_,Zg M W (inC σ ι ids),ι.put fr ⟨W.heap.size,0,w,cap⟩,.inl hrun,h.growC ids,Inj.le_put _ hfr,fun k hk=>Inj.put_ne _ _ ?_,?_,fun y hy=>?_⟩
 ·simp at hk; omega
 ·rw [Sto.puts_append]; exact h'.allocRow hfr c e pos cpos hc hl hs hnr hfl hcells
 ·cases hy; exact hv _ (Inj.put_same _ _ _)
theorem Qln (h:Rel P B W0 D M ι σ W) (hs:Qg M ι s a.tmps) (hfr:∀k,fr≤k→k < res.fr→ι k=none) {t:TypeId} {n:Nat} {ps:Array (Nat × Operand)} (ho:o.op=.buildSlice t n ps) (he:evalOp P nf C σ fr s o=some (.val res)):Q8 P B W0 D M ι σ fr a o W res:=by
 unfold evalOp at he
 rw [ho] at he
 simp only at he
 split at he
 ·rename_i T hT
  split at he
  ·rename_i e hk
   obtain ⟨d,i0,g1,g2,g3,_⟩:=Zq hT
   rw [g3] at hk; rw [Zk hk] at g1
   split at he
   ·rename_i E parts0 hE hps
    obtain ⟨l1,q1⟩:=Qcw hs hps
    obtain ⟨_,i1,_,hi1,_,hsz1,_⟩:=Zq hE
    split at he
    ·rename_i hn0
     subst hn0
     split at he
     ·rename_i hemp
      cases he
      have hps0:ps.toList=[]:=List.eq_nil_of_length_eq_zero (by rw [←l1]; simpa using hemp)
      have hps1:ps=#[]:=by cases ps; simp_all
      subst hps1
      have hrun:∃c,(execOp a.eval o).run P W=.ok (.value (.slice (some ⟨W.heap.size,0,none⟩) 0 0)) (W.alloc (.cells c e)) :=
       ⟨_,by simp [execOp,ho,Instr.buildSlice,run_underlying g1,Z9 hi1,Instr.fill,newRow]; rfl⟩
      obtain ⟨c,hrun⟩:=hrun
      exact ⟨_,W.alloc (.cells c e),M,ι,.inl hrun,.refl _ _,Inj.le_refl _,fun _ _=>rfl,h.alloc _ _,fun y hy=>by cases hy; exact .emp (some ⟨W.heap.size,0,none⟩)⟩
     ·cases he
    ·rename_i hn0
     split at he
     ·rename_i z parts ids hz hpp
      split at he
      ·rename_i hc
       simp only [Bool.and_eq_true] at hc
       obtain ⟨⟨c1,c2⟩,c3⟩:=hc
       have c1:=Yj c1; have c2:=X0 c2; have c3:=Z8 c3
       split at he
       ·rename_i xs es hfill hfz
        cases he
        obtain ⟨i,zv,h2,hi,h4,hrep,hsh⟩:=Qau hE hz
        rw [hi1] at h2; cases h2
        have hzs:zv.cells.size=E.size:=by rw [←hsh.len,c1]
        have hparts:parts.length=parts0.length∧∀(j:Nat) (p q:Nat × AV) (v:Value),parts0[j]?=some p→parts[j]?=some q→Qa M ι v p.2→q.1=p.1∧Qa (Zg M W (inC σ ι ids)) ι v q.2:=by
         cases nf with
         | true =>
          simp only [if_true,Option.some.injEq,Prod.mk.injEq] at hpp
          obtain ⟨rfl,rfl⟩:=hpp
          exact ⟨rfl,fun j p q v hp hq hr=>by rw [hp] at hq; cases hq; exact ⟨rfl,hr.mono (addM_le _ _ _) (Inj.le_refl _)⟩⟩
         | false =>
          simp only [Bool.false_eq_true,if_false] at hpp
          exact Qel h ids hpp (fun k hk=>hk)
        obtain ⟨l2,q2⟩:=hparts
        have hrepP:∀(j:Nat) (p:Nat × Value) (q:Nat × AV),((ps.map fun (i,x)=>(i,a.eval x)).toList)[j]?=some p→parts[j]?=some q→q.1=p.1∧Qa (Zg M W (inC σ ι ids)) ι p.2 q.2:=by
         intro j p q hp hq
         simp only [Array.toList_map,List.getElem?_map,Option.map_eq_some_iff] at hp
         obtain ⟨w,hw,rfl⟩:=hp
         have hj:j < parts0.length:=by rw [←l2]; exact (List.getElem?_eq_some_iff.1 hq).1
         have hp0:=List.getElem?_eq_getElem hj
         obtain ⟨e1,e2⟩:=q1 j w _ hw hp0
         obtain ⟨e3,e4⟩:=q2 j _ q _ hp0 hq e2
         exact ⟨e3.trans e1,e4⟩
        have hbase:Xl (Zg M W (inC σ ι ids)) ι E.size (List.replicate n z) ((Array.range (n*E.size)).map (zv.cells[· % zv.cells.size]!)).toList:=by
         refine ⟨by simp,fun x hx=>?_,fun i' j x y hi' hj=>?_⟩
         ·have:=List.eq_of_mem_replicate hx; subst this; rw [←hzs]; exact hsh
         ·have hm:=Qlz (hrep (Zg M W (inC σ ι ids)) ι) hsh (Nat.le_refl n) i' j x y hi' hj
          rw [hzs] at hm
          obtain ⟨v,hv,hr⟩:=hm
          refine ⟨v,by rw [Array.getElem?_toList,hzs]; exact hv,hr,?_⟩
          have hx:=List.mem_of_getElem? hi'
          have:=List.eq_of_mem_replicate hx; subst this
          exact hr.oneCell (hsh.cells y (List.mem_of_getElem? hj))
        obtain ⟨ds,f1,f2,f3⟩:=Qem (w:=E.size) (by simp [l2,l1]) hrepP hbase hfill
        have hsize:ds.size=n*E.size:=by rw [←Array.length_toList,f2.size,f3]; simp
        have hnz:¬ (n*E.size=0):=by have:=Nat.mul_pos (Nat.pos_of_ne_zero hn0) c2; omega
        have hle:¬ (n*E.size > 2^24):=by omega
        have hrun:(execOp a.eval o).run P W=.ok (.value (.slice (some ⟨W.heap.size,0,none⟩) n n)) (W.alloc (.cells ds e)):=by
         simp only [execOp,ho,Instr.buildSlice,Sem.run_bind,run_underlying g1,Result.andThen_ok,Z9 hi1,←hsz1]
         rw [if_neg hle,if_neg hnz]
         simp only [Sem.run_bind,Sem.run_pure,Y3 hi1 hi,Result.andThen_ok,f1,newRow,Qq4]
        refine Qtw h hfz (hfr fr (Nat.le_refl _) (by simp)) (cap:=n) hrun c2 (by omega) hsize (by rw [f3]; simp) f2.shaped (fun hx=>hx) (fun hx=>by simpa using hx) (fun i' j x y hi' hj=>?_) (fun ι' hι=>?_)
        ·obtain ⟨v,hv,hr,_⟩:=f2.rep i' j x y hi' hj
         exact ⟨v,by simpa using hv,hr⟩
        ·exact .ref fr 0 n ⟨W.heap.size,0,E.size,n⟩ 0 n hι (by simp) (by simp) (.inl (by simp))
       ·cases he
      ·cases he
     ·cases he
   ·cases he
  ·cases he
 ·cases he
end
end Go.Ab
namespace Go.Ab
open Go.RowKit
section
variable {P:Program} {nf:Bool} {C:FuncId→List AV→Option Z2} {B:Nat} {W0 W W':World} {D:List Nat} {M:CM} {ι:Inj} {σ:Sto} {s:Slots} {a:Act} {fr:Nat} {o:Oper} {res:Res}
theorem AV.flat_agg (cs:List AV):(AV.agg cs).flat = cs:=rfl
theorem Qe0 {x v x':AV} {c w:Nat} (h:Qca x c v=some x') (hx:x.shaped w) (hv:v.shaped v.flat.length) :
  x'.shaped w∧c+v.flat.length≤w∧(∀j y,x'.flat[j]?=some y→(c≤j∧j < c+v.flat.length∧v.flat[j - c]?=some y)∨((j < c∨c+v.flat.length≤j)∧x.flat[j]?=some y)):=by
 unfold Qca at h
 split at h
 ·rename_i cs
  split at h
  ·rename_i hle
   cases h
   have hw:cs.length=w:=by simpa [AV.flat_agg] using hx.len
   refine ⟨⟨.inl rfl,by simp only [AV.flat_agg,List.length_append,List.length_take,List.length_drop]; omega,fun y hy=>?_⟩,by omega,fun j y hy=>?_⟩
   ·simp only [AV.flat_agg,List.mem_append] at hy
    rcases hy with (hy | hy) | hy
    ·exact hx.cells y (by simp only [AV.flat_agg]; exact List.mem_of_mem_take hy)
    ·exact hv.cells y hy
    ·exact hx.cells y (by simp only [AV.flat_agg]; exact List.mem_of_mem_drop hy)
   ·simp only [AV.flat_agg] at hy ⊢
    have l1:(cs.take c).length=c:=by simp; omega
    rcases Nat.lt_or_ge j c with hj | hj
    ·rw [List.append_assoc,List.getElem?_append_left (by omega),List.getElem?_take,if_pos hj] at hy
     exact .inr ⟨.inl hj,hy⟩
    ·rw [List.append_assoc,List.getElem?_append_right (by omega),l1] at hy
     rcases Nat.lt_or_ge (j - c) v.flat.length with hj2 | hj2
     ·rw [List.getElem?_append_left hj2] at hy
      exact .inl ⟨hj,by omega,hy⟩
     ·rw [List.getElem?_append_right hj2,List.getElem?_drop] at hy
      refine .inr ⟨.inr (by omega),?_⟩
      rw [←hy]; congr 1; omega
  ·cases h
 ·split at h
  ·rename_i hc
   simp only [Bool.and_eq_true,decide_eq_true_eq] at hc
   obtain ⟨⟨rfl,hvc⟩,hxc⟩:=hc
   cases h
   have hfv:=AV.flat_cell hvc
   have hw:w=1:=by rw [←hx.len,AV.flat_cell hxc]; rfl
   refine ⟨⟨.inr hvc,by rw [hfv,hw]; rfl,hv.cells⟩,by rw [hfv,hw]; simp,fun j y hy=>.inl ⟨Nat.zero_le _,?_,by simpa using hy⟩⟩
   rw [Nat.zero_add]; exact (List.getElem?_eq_some_iff.1 hy).1
  ·cases h
theorem Qg6 {x:AV} {w:Nat} (hx:x.shaped w) (h:∀y∈x.flat,AV.nr y=true):x.nr=true:=by
 rcases hx.form with e | e
 ·rw [e]; simp only [AV.nr,Q1]; exact h
 ·exact h x (by rw [AV.flat_cell e]; simp)
theorem Qak {x:AV}:x.scs=true↔∀y∈x.flat,AV.sc y=true:=by simp [AV.scs]
theorem Qq2 {x v x':AV} {c w:Nat} (h:Qca x c v=some x') (hx:x.shaped w) (hv:v.shaped v.flat.length) :
  (x.nr=true→v.nr=true→x'.nr=true)∧(x.scs=true→v.scs=true→x'.scs=true):=by
 obtain ⟨h1,_,h3⟩:=Qe0 h hx hv
 have hin:∀y∈x'.flat,y∈v.flat ∨ y∈x.flat := fun y hy=>by
  obtain ⟨j,hj,rfl⟩:=List.mem_iff_getElem.1 hy
  rcases h3 j _ (List.getElem?_eq_getElem hj) with ⟨_,_,e⟩ | ⟨_,e⟩
  ·exact .inl (List.mem_of_getElem? e)
  ·exact .inr (List.mem_of_getElem? e)
 refine ⟨fun a b=>Qg6 h1 fun y hy=>?_,fun a b=>Qak.2 fun y hy=>?_⟩
 ·rcases hin y hy with e | e
  ·exact AV.nr_flat b y e
  ·exact AV.nr_flat a y e
 ·rcases hin y hy with e | e
  ·exact Qak.1 b y e
  ·exact Qak.1 a y e
theorem J4 {ids:List Nat} {es:List (Nat × AObj)} (hf:frz σ ids=some es) {k:Nat} (hk:k ∉ ids):σ.puts es k=σ k:=by
 rcases Qd5 hf k with ⟨a,_⟩ | ⟨a,_⟩
 ·exact a
 ·exact absurd a hk
theorem Qtf (h:Rel P B W0 D M ι σ W) (hs:Qg M ι s a.tmps) {t:TypeId} {x y:Operand} (ho:o.op=.store t x y) (he:evalOp P nf C σ fr s o=some (.val res)):Q8 P B W0 D M ι σ fr a o W res:=by
 unfold evalOp at he
 rw [ho] at he
 simp only at he
 split at he
 ·rename_i T ob ii c v0 hT hx hy
  split at he
  ·rename_i bx nr fl w xs hσ
   split at he
   ·rename_i x0 hx0
    split at he
    ·rename_i hc
     simp only [Bool.and_eq_true] at hc
     obtain ⟨c0,c1⟩:=hc
     have c1:=Yj c1
     split at he
     ·rename_i v ids hsn
      split at he
      ·rename_i x' es hput hfz
       split at he
       ·cases he
       ·rename_i hnc
        cases he
        have hoids:ob ∉ ids:=by simpa using hnc
        have hrep0:=Qe hs hy
        have hsh0:=hrep0.shaped_of c0
        have hval:Qa (Zg M W (inC σ ι ids)) ι (a.eval y) v∧v.shaped v0.flat.length:=by
         split at hsn
         ·cases hsn; exact ⟨hrep0.mono (addM_le _ _ _) (Inj.le_refl _),hsh0⟩
         ·exact ⟨(X4 h ids Qn v0 v ids _ hsn (fun k hk=>hk) hrep0).mono (CM.le_refl _) (Inj.noInj_le _),(V8 hsn hsh0).1⟩
        obtain ⟨hv,hsv⟩:=hval
        have hvl:=hsv.len
        have hsv':v.shaped v.flat.length:=by rw [hvl]; exact hsv
        obtain ⟨p,hp,hrow⟩:=h.row _ _ _ _ _ _ _ hσ
        have h':=Jz h hfz
        have hσ':σ.puts es ob=some (.row bx false nr fl w xs):=by rw [J4 hfz hoids]; exact hσ
        obtain ⟨p',hp',hrow'⟩:=h'.row _ _ _ _ _ _ _ hσ'
        have hpp:p=p':=by rw [hp] at hp'; exact Option.some.inj hp'
        subst hpp
        have hx0m:=List.mem_of_getElem? hx0
        obtain ⟨g1,g2,g3⟩:=Qe0 hput (hrow.shaped x0 hx0m) hsv'
        obtain ⟨f1,f2⟩:=Qq2 hput (hrow.shaped x0 hx0m) hsv'
        obtain ⟨d1,d2,d3⟩:=hv.cells hsv.form
        have hvsz:(a.eval y).cells.toList.length=v.flat.length:=by rw [Array.length_toList]; exact d1
        have hil:ii < xs.length:=(List.getElem?_eq_some_iff.1 hx0).1
        have hiw:ii*w+w≤p.cap*w:=by
         have:(ii+1)*w≤p.cap*w:=Nat.mul_le_mul_right _ (by have:=hrow.len; omega)
         rwa [Nat.succ_mul] at this
        obtain ⟨_,i1,_,hi1,_,hsz1,_⟩:=Zq hT
        have hptr:a.eval x=.pointer (some ⟨p.blk,p.base+ii*w+c,none⟩):=by
         have hq:=Qe hs hx
         generalize hu:a.eval x=u at hq
         cases hq with
         | ptr _ _ _ q hq' =>
         have:p=q:=by rw [hp] at hq'; exact Option.some.inj hq'
         subst this
         rw [hrow.pw]
        have hown:=(hrow.own rfl).2
        have hst:=run_storeCells_cells (P:=P) p.blk (p.base+ii*w+c) (a.eval y).cells.toList 0 W (fun j hj=>by
          have:=(hown (ii*w+c+j) (by omega)).1
          rw [Nat.add_zero,show p.base+ii*w+c+j=p.base+(ii*w+c+j) by omega]; exact this)
         (fun j hj=>by
          have:=(h.cool _ _ _ _ _ _ _ (ii*w+c+j) (by assumption) hp (by omega)).1 (p.base+(ii*w+c+j))
          rw [Nat.add_zero,show p.base+ii*w+c+j=p.base+(ii*w+c+j) by omega]; exact this) (fun u hu=>by
          obtain ⟨j,hj,rfl⟩:=List.mem_iff_getElem.1 hu
          have hj':j < (a.eval y).cells.size:=by simpa using hj
          have hj2:j < v.flat.length:=by omega
          have:=(d2 j _ _ (Array.getElem?_eq_getElem hj') (List.getElem?_eq_getElem hj2)).2
          simpa using this)
        rw [Nat.add_zero] at hst
        have hrun:(execOp a.eval o).run P W=.ok .skip (W.setCells p.blk (p.base+(ii*w+c)) (a.eval y).cells.toList):=by
         have hne:¬ ((a.eval y).cells.size≠i1.size):=by rw [d1,hvl,c1,hsz1]; simp
         rw [←Nat.add_assoc]
         simp only [execOp,ho,Instr.storeAt,Instr.sureAddr,hptr,Sem.run_bind,Sem.run_pure,Result.andThen_ok,storeVar,Z9 hi1]
         rw [if_neg hne]
         simp only [hst,Result.andThen_ok]
        have hnr':(nr && v.nr)=true→AV.nrL (xs.set ii x')=true:=fun hn=>by
         simp only [Bool.and_eq_true] at hn
         rw [Q1]
         intro z hz
         rcases List.mem_or_eq_of_mem_set hz with hz | rfl
         ·exact Q1.1 (hrow.nr hn.1) z hz
         ·exact f1 (Q1.1 (hrow.nr hn.1) x0 hx0m) hn.2
        have hfl':(fl && v.scs)=true→∀z∈xs.set ii x',AV.scs z=true:=fun hn z hz=>by
         simp only [Bool.and_eq_true] at hn
         rcases List.mem_or_eq_of_mem_set hz with hz | rfl
         ·exact hrow.fl hn.1 z hz
         ·exact f2 (hrow.fl hn.1 x0 hx0m) hn.2
        have key:=h'.write (bx':=bx) (nr':=nr && v.nr) (fl':=fl && v.scs) (xs':=xs.set ii x') hσ' hp (ii*w+c) (a.eval y).cells.toList (by omega) (by simpa using hrow.len)
         (fun z hz=>by
          rcases List.mem_or_eq_of_mem_set hz with hz | rfl
          ·exact hrow.shaped z hz
          ·exact g1) hnr' hfl'
         (fun i j z q hi hj hlo hhi=>by
          by_cases e:i=ii
          ·subst e
           rw [List.getElem?_set_self hil] at hi
           cases hi
           rcases g3 j q hj with ⟨b1,b2,b3⟩ | ⟨b1,b2⟩
           ·have hjj:j - c < (a.eval y).cells.size:=by rw [d1]; exact (List.getElem?_eq_some_iff.1 b3).1
            refine ⟨(a.eval y).cells[j - c],?_,(d2 (j - c) _ q (Array.getElem?_eq_getElem hjj) b3).1⟩
            rw [show i*w+j - (i*w+c)=j - c by omega]
            simp [hjj]
           ·exfalso; omega
          ·exfalso
           rw [List.getElem?_set_ne (Ne.symm e)] at hi
           have hjw:j < w:=by rw [←(hrow.shaped z (List.mem_of_getElem? hi)).len]; exact (List.getElem?_eq_some_iff.1 hj).1
           rcases Nat.lt_or_ge i ii with hlt | hge
           ·have:(i+1)*w≤ii*w:=Nat.mul_le_mul_right _ (by omega)
            rw [Nat.succ_mul] at this; omega
           ·have:(ii+1)*w≤i*w:=Nat.mul_le_mul_right _ (by omega)
            rw [Nat.succ_mul] at this; omega)
         (fun i j z q hi hj hout=>by
          by_cases e:i=ii
          ·subst e
           rw [List.getElem?_set_self hil] at hi
           cases hi
           rcases g3 j q hj with ⟨b1,b2,b3⟩ | ⟨b1,b2⟩
           ·exfalso; omega
           ·obtain ⟨u,hu,hr⟩:=hrow'.cells i j x0 q hx0 b2
            exact ⟨u,by rw [←Nat.add_assoc]; exact hu,hr⟩
          ·rw [List.getElem?_set_ne (Ne.symm e)] at hi
           obtain ⟨u,hu,hr⟩:=hrow'.cells i j z q hi hj
           exact ⟨u,by rw [←Nat.add_assoc]; exact hu,hr⟩)
        refine ⟨undef,_,Zg M W (inC σ ι ids),ι,.inr ⟨hrun,rfl⟩,h.growC ids,Inj.le_refl _,fun _ _=>rfl,?_,fun z hz=>by cases hz⟩
        rw [Sto.puts_append]
        exact key
      ·cases he
     ·cases he
    ·cases he
   ·cases he
  ·cases he
 ·cases he
structure Qgb (M:CM) (ι:Inj) (W:World) (w:Nat) (v:Value) (ys:List AV) (nr fl:Bool):Prop where
 form:∃ad c,v=.slice ad ys.length c∧(ys≠[]→∃b off,ad=some ⟨b,off,none⟩∧∀(i j:Nat) (x y:AV),ys[i]?=some x→x.flat[j]?=some y→∃u,W.cell? ⟨b,off+i*w+j,none⟩=some u∧Qa M ι u y)
 shaped:∀x∈ys,AV.shaped x w
 nr:nr=true→AV.nrL ys=true
 fl:fl=true→∀x∈ys,AV.scs x=true
theorem Qc1 (h:Rel P B W0 D M ι σ W) {w:Nat} {x:AV} {ys:List AV} {nr fl:Bool} {rd:List Nat} (he:Y5 σ w x=some (ys,nr,fl,rd)) {v:Value} (hv:Qa M ι v x):Qgb M ι W w v ys nr fl:=by
 unfold Y5 at he
 split at he
 ·cases he; cases hv; exact ⟨⟨none,0,rfl,by simp⟩,by simp,by simp [AV.nrL],by simp⟩
 ·cases he; cases hv; exact ⟨⟨_,0,rfl,by simp⟩,by simp,by simp [AV.nrL],by simp⟩
 ·cases he; cases hv; exact ⟨⟨_,_,rfl,by simp⟩,by simp,by simp [AV.nrL],by simp⟩
 ·rename_i f xs
  split at he
  ·rename_i hw
   cases he
   cases hv with
   | lst0=>exact ⟨⟨_,0,rfl,by simp⟩,by simp,by simp [AV.nrL],by simp⟩
   | lst b off cap w' _ _ f hcap hfl hc hM hr =>
    cases hxs:ys with
    | nil=>exact ⟨⟨_,cap,rfl,by simp⟩,by simp,by simp [AV.nrL],by simp⟩
    | cons x0 r =>
    have hww:w'=w:=by
     rw [hxs] at hw
     rw [←Yj hw]; exact (hc x0 (by rw [hxs]; simp)).len.symm
    subst hww
    rw [←hxs]
    refine ⟨⟨_,cap,rfl,fun _=>⟨b,off,rfl,fun i j x y hi hj=>⟨f i j,h.agree _ _ _ (hM i j x y hi hj),(hr i j x y hi hj).mono (CM.le_refl _) (Inj.noInj_le _)⟩⟩⟩,hc,fun _=>Q1.2 fun x hx=>?_,hfl⟩
    refine Qg6 (hc x hx) fun y hy=>?_
    obtain ⟨i,hi,rfl⟩:=List.mem_iff_getElem.1 hx
    obtain ⟨j,hj,rfl⟩:=List.mem_iff_getElem.1 hy
    exact (hr i j _ _ (List.getElem?_eq_getElem hi) (List.getElem?_eq_getElem hj)).nr_of_noInj
  ·cases he
 ·rename_i ob ii n
  split at he
  ·rename_i ro nr' fl' w' xs hσ
   split at he
   ·rename_i hc
    simp only [Bool.and_eq_true,decide_eq_true_eq] at hc
    obtain ⟨c1,c2⟩:=hc
    have c2:=Z8 c2
    cases he
    obtain ⟨p,hp,hrow⟩:=h.row _ _ _ _ _ _ _ hσ
    cases hv with
    | ref0 ad _ _ _ _=>exact ⟨⟨ad,0,by simp,by simp⟩,by simp,by simp [AV.nrL],by simp⟩
    | ref _ _ _ q off cap hq hi hcap hoff =>
    have hpq:p=q:=by rw [hp] at hq; exact Option.some.inj hq
    subst hpq
    subst c1
    have hn:((xs.drop ii).take n).length=n:=by rw [List.length_take,List.length_drop]; omega
    have hmem:∀x∈(xs.drop ii).take n,x∈xs:=fun x hx=>List.mem_of_mem_drop (List.mem_of_mem_take hx)
    refine ⟨⟨_,cap,by rw [hn],fun hne=>⟨p.blk,off,rfl,fun i j x y hi' hj=>?_⟩⟩,fun x hx=>hrow.shaped x (hmem x hx),fun hn=>Q1.2 fun x hx=>Q1.1 (hrow.nr hn) x (hmem x hx),fun hf x hx=>hrow.fl hf x (hmem x hx)⟩
    have hin:i < n:=by rw [←hn]; exact (List.getElem?_eq_some_iff.1 hi').1
    rw [List.getElem?_take,if_pos hin,List.getElem?_drop] at hi'
    obtain ⟨u,hu,hr⟩:=hrow.cells (ii+i) j x y hi' hj
    refine ⟨u,?_,hr⟩
    have hoff':off=p.base+ii*p.w:=by
     rcases hoff with e | e
     ·exact e
     ·omega
    rw [hoff',hrow.pw,show p.base+ii*w'+i*w'+j=p.base+(ii+i)*w'+j by rw [Nat.add_mul]; omega]; exact hu
   ·cases he
  ·cases he
 ·cases he
theorem Qgb.cells {w:Nat} {v:Value} {ys:List AV} {nr fl:Bool} (h:Qgb M ι W w v ys nr fl) {b off:Nat} {c n:Nat} (hv:v=.slice (some ⟨b,off,none⟩) n c) (hne:ys≠[]) :
  ∃vs:List Value,vs.length=ys.length*w∧(∀j u,vs[j]?=some u→W.cell? ((⟨b,off,none⟩:Addr).add j)=some u)∧Xl M ι w ys vs∧∀u∈vs,u.oneCell'=true:=by
 obtain ⟨ad,c',e,hcell⟩:=h.form
 rw [hv] at e
 cases e
 obtain ⟨b',off',e,hcell⟩:=hcell hne
 cases e
 have hat : ∀k,k < ys.length*w→∃u,W.cell? ⟨b,off+k,none⟩=some u∧u.oneCell'=true∧∀i j x y,k=i*w+j→ys[i]?=some x→x.flat[j]?=some y→Qa M ι u y:=by
  intro k hk
  have hw0:0 < w:=by
   rcases Nat.eq_zero_or_pos w with e | e
   ·subst e; simp at hk
   ·exact e
  have hi:k / w < ys.length:=Nat.div_lt_of_lt_mul (by rw [Nat.mul_comm]; exact hk)
  have hj:k % w < w:=Nat.mod_lt _ hw0
  have hsh:=h.shaped ys[k / w] (List.getElem_mem hi)
  have hjl:k % w < (ys[k / w]).flat.length:=by rw [hsh.len]; exact hj
  obtain ⟨u,hu,hr⟩:=hcell (k / w) (k % w) _ _ (List.getElem?_eq_getElem hi) (List.getElem?_eq_getElem hjl)
  have hk':k / w*w+k % w=k:=by rw [Nat.mul_comm]; exact Nat.div_add_mod k w
  rw [Nat.add_assoc,hk'] at hu
  refine ⟨u,hu,hr.oneCell (hsh.cells _ (List.getElem_mem hjl)),fun i j x y e hx hy=>?_⟩
  obtain ⟨u',hu',hr'⟩:=hcell i j x y hx hy
  rw [Nat.add_assoc,←e,hu] at hu'
  cases hu'
  exact hr'
 refine ⟨(List.range (ys.length*w)).map fun k=>(W.cell? ⟨b,off+k,none⟩).getD undef,by simp,fun j u hu=>?_,⟨by simp,h.shaped,fun i j x y hi hj=>?_⟩,fun u hu=>?_⟩
 ·simp only [List.getElem?_map,Option.map_eq_some_iff] at hu
  obtain ⟨k,hk,rfl⟩:=hu
  have hjl:j < ys.length*w:=by have:=(List.getElem?_eq_some_iff.1 hk).1; simpa using this
  rw [List.getElem?_range hjl] at hk
  cases hk
  obtain ⟨u,hu,_⟩:=hat j hjl
  rw [Qan,hu]; rfl
 ·have hil:=(List.getElem?_eq_some_iff.1 hi).1
  have hjw:j < w:=by rw [←(h.shaped x (List.mem_of_getElem? hi)).len]; exact (List.getElem?_eq_some_iff.1 hj).1
  have hlt:i*w+j < ys.length*w:=by
   have:(i+1)*w≤ys.length*w:=Nat.mul_le_mul_right _ (by omega)
   rw [Nat.succ_mul] at this; omega
  obtain ⟨u,hu,h1,h2⟩:=hat _ hlt
  refine ⟨u,?_,h2 i j x y rfl hi hj,h1⟩
  rw [List.getElem?_map,List.getElem?_range hlt,Option.map_some,hu]; rfl
 ·simp only [List.mem_map,List.mem_range] at hu
  obtain ⟨k,hk,rfl⟩:=hu
  obtain ⟨u,hu,h1,_⟩:=hat k hk
  rw [hu]; exact h1
end
end Go.Ab
namespace Go.Ab
open Go.RowKit
section
variable {P:Program} {nf:Bool} {C:FuncId→List AV→Option Z2} {B:Nat} {W0 W W':World} {D:List Nat} {M:CM} {ι:Inj} {σ:Sto} {s:Slots} {a:Act} {fr:Nat} {o:Oper} {res:Res}
theorem Qmt (xs:List AV):∀(ys:List AV) (i:Nat),(Js xs i ys).length=xs.length:=by
 intro ys
 induction ys generalizing xs with
 | nil=>intro i; rfl
 | cons y ys ih=>intro i; simp [Js,ih]
theorem Qdb : ∀(ys xs:List AV) (i:Nat),i+ys.length≤xs.length→∀k,(Js xs i ys)[k]?=if i≤k∧k < i+ys.length then ys[k - i]? else xs[k]?
 | [],xs,i,_,k=>by simp [Js]; intro h1 h2; omega
 | y::ys,xs,i,h,k=>by
  simp only [List.length_cons] at h
  rw [Js,Qdb ys (xs.set i y) (i+1) (by simp; omega) k]
  by_cases e:k=i
  ·subst e
   rw [if_neg (by omega),if_pos (by simp),List.getElem?_set_self (by omega)]
   simp
  ·rw [List.getElem?_set_ne (Ne.symm e)]
   by_cases hlt:i≤k∧k < i+(ys.length+1)
   ·rw [if_pos (by omega),if_pos (by simpa using hlt)]
    rw [show k - i=(k - (i+1))+1 by omega]; simp
   ·rw [if_neg (by omega),if_neg (by simpa using hlt)]
theorem Qe9 {xs ys:List AV} {i:Nat} (h:i+ys.length≤xs.length):∀z∈Js xs i ys,z∈ys∨z∈xs:=by
 intro z hz
 obtain ⟨k,hk,rfl⟩:=List.mem_iff_getElem.1 hz
 have:=Qdb ys xs i h k
 rw [List.getElem?_eq_getElem hk] at this
 split at this
 ·exact .inl (List.mem_of_getElem? this.symm)
 ·exact .inr (List.mem_of_getElem? this.symm)
theorem Rel.overwrite (h:Rel P B W0 D M ι σ W) {o:Nat} {p:Place} {bx nr fl nr' fl':Bool} {w:Nat} {xs ys:List AV} {vs:List Value}
  (hσ:σ o=some (.row bx false nr fl w xs)) (hι:ι o=some p) (i:Nat) (hi:i+ys.length≤xs.length) (hys:Xl M ι w ys vs) (hnr:nr'=true→AV.nrL ys=true) (hfl:fl'=true→∀x∈ys,AV.scs x=true) :
  Rel P B W0 D M ι (σ.put o (.row bx false (nr && nr') (fl && fl') w (Js xs i ys))) (W.setCells p.blk (p.base+i*w) vs):=by
 obtain ⟨q,hq,hrow⟩:=h.row _ _ _ _ _ _ _ hσ
 have hpq:p=q:=by rw [hι] at hq; exact Option.some.inj hq
 subst hpq
 have hvl:=hys.size
 have hfit:i*w+ys.length*w≤p.cap*w:=by rw [←Nat.add_mul]; exact Nat.mul_le_mul_right _ (by have:=hrow.len; omega)
 refine h.write hσ hι (i*w) vs (by omega) (by rw [Qmt]; exact hrow.len) (fun z hz=>?_) (fun hn=>?_) (fun hf z hz=>?_) (fun k j z q hk hj hlo hhi=>?_) (fun k j z q hk hj hout=>?_)
 ·rcases Qe9 hi z hz with e | e
  ·exact hys.shaped z e
  ·exact hrow.shaped z e
 ·simp only [Bool.and_eq_true] at hn
  rw [Q1]
  intro z hz
  rcases Qe9 hi z hz with e | e
  ·exact Q1.1 (hnr hn.2) z e
  ·exact Q1.1 (hrow.nr hn.1) z e
 ·simp only [Bool.and_eq_true] at hf
  rcases Qe9 hi z hz with e | e
  ·exact hfl hf.2 z e
  ·exact hrow.fl hf.1 z e
 ·rw [Qdb ys xs i hi k] at hk
  split at hk
  ·rename_i hr
   obtain ⟨v,hv,h1,_⟩:=hys.rep (k - i) j z q hk hj
   refine ⟨v,?_,h1⟩
   rw [←hv]; congr 1
   have:k*w=(k - i)*w+i*w:=by rw [←Nat.add_mul]; congr 1; omega
   omega
  ·rename_i hr
   exfalso
   have hjw:j < w:=by rw [←(hrow.shaped z (List.mem_of_getElem? hk)).len]; exact (List.getElem?_eq_some_iff.1 hj).1
   rcases Nat.lt_or_ge k i with hlt | hge
   ·have:(k+1)*w≤i*w:=Nat.mul_le_mul_right _ (by omega)
    rw [Nat.succ_mul] at this; omega
   ·have:(i+ys.length)*w≤k*w:=Nat.mul_le_mul_right _ (by omega)
    rw [Nat.add_mul] at this; omega
 ·rw [Qdb ys xs i hi k] at hk
  split at hk
  ·rename_i hr
   exfalso
   have hjw:j < w:=by rw [←(hys.shaped z (List.mem_of_getElem? hk)).len]; exact (List.getElem?_eq_some_iff.1 hj).1
   have h1:i*w≤k*w:=Nat.mul_le_mul_right _ hr.1
   have h2:(k+1)*w≤(i+ys.length)*w:=Nat.mul_le_mul_right _ (by omega)
   rw [Nat.succ_mul,Nat.add_mul] at h2; omega
  ·obtain ⟨u,hu,hr⟩:=hrow.cells k j z q hk hj
   exact ⟨u,by rw [←Nat.add_assoc]; exact hu,hr⟩
theorem Rel.extend (h:Rel P B W0 D M ι σ W) {o:Nat} {p:Place} {bx nr fl nr' fl':Bool} {w:Nat} {xs ys:List AV} {vs:List Value}
  (hσ:σ o=some (.row bx false nr fl w xs)) (hι:ι o=some p) (n:Nat) (hn:n≤xs.length) (hcap:n+ys.length≤p.cap) (hys:Xl M ι w ys vs) (hnr:nr'=true→AV.nrL ys=true) (hfl:fl'=true→∀x∈ys,AV.scs x=true) :
  Rel P B W0 D M ι (σ.put o (.row bx false (nr && nr') (fl && fl') w (xs.take n++ys))) (W.setCells p.blk (p.base+n*w) vs):=by
 obtain ⟨q,hq,hrow⟩:=h.row _ _ _ _ _ _ _ hσ
 have hpq:p=q:=by rw [hι] at hq; exact Option.some.inj hq
 subst hpq
 have hvl:=hys.size
 have hfit:n*w+ys.length*w≤p.cap*w:=by rw [←Nat.add_mul]; exact Nat.mul_le_mul_right _ (by omega)
 have htl:(xs.take n).length=n:=by simp; omega
 refine h.write hσ hι (n*w) vs (by omega) (by rw [List.length_append,htl]; exact hcap) (fun z hz=>?_) (fun hn'=>?_) (fun hf z hz=>?_) (fun k j z q hk hj hlo hhi=>?_) (fun k j z q hk hj hout=>?_)
 ·rcases List.mem_append.1 hz with e | e
  ·exact hrow.shaped z (List.mem_of_mem_take e)
  ·exact hys.shaped z e
 ·simp only [Bool.and_eq_true] at hn'
  rw [Q1]
  intro z hz
  rcases List.mem_append.1 hz with e | e
  ·exact Q1.1 (hrow.nr hn'.1) z (List.mem_of_mem_take e)
  ·exact Q1.1 (hnr hn'.2) z e
 ·simp only [Bool.and_eq_true] at hf
  rcases List.mem_append.1 hz with e | e
  ·exact hrow.fl hf.1 z (List.mem_of_mem_take e)
  ·exact hfl hf.2 z e
 ·rcases Nat.lt_or_ge k n with hlt | hge
  ·exfalso
   rw [List.getElem?_append_left (by omega),List.getElem?_take,if_pos hlt] at hk
   have hjw:j < w:=by rw [←(hrow.shaped z (List.mem_of_getElem? hk)).len]; exact (List.getElem?_eq_some_iff.1 hj).1
   have:(k+1)*w≤n*w:=Nat.mul_le_mul_right _ (by omega)
   rw [Nat.succ_mul] at this; omega
  ·rw [List.getElem?_append_right (by omega),htl] at hk
   obtain ⟨v,hv,h1,_⟩:=hys.rep (k - n) j z q hk hj
   refine ⟨v,?_,h1⟩
   rw [←hv]; congr 1
   have:k*w=(k - n)*w+n*w:=by rw [←Nat.add_mul]; congr 1; omega
   omega
 ·rcases Nat.lt_or_ge k n with hlt | hge
  ·rw [List.getElem?_append_left (by omega),List.getElem?_take,if_pos hlt] at hk
   obtain ⟨u,hu,hr⟩:=hrow.cells k j z q hk hj
   exact ⟨u,by rw [←Nat.add_assoc]; exact hu,hr⟩
  ·exfalso
   rw [List.getElem?_append_right (by omega),htl] at hk
   have hkl:=(List.getElem?_eq_some_iff.1 hk).1
   have hjw:j < w:=by rw [←(hys.shaped z (List.mem_of_getElem? hk)).len]; exact (List.getElem?_eq_some_iff.1 hj).1
   have h1:n*w≤k*w:=Nat.mul_le_mul_right _ hge
   have h2:(k+1)*w≤(n+ys.length)*w:=Nat.mul_le_mul_right _ (by omega)
   rw [Nat.succ_mul,Nat.add_mul] at h2; omega
theorem Xl.append {w:Nat} {xs ys:List AV} {cs ds:List Value} (h:Xl M ι w xs cs) (k:Xl M ι w ys ds):Xl M ι w (xs++ys) (cs++ds):=by
 have hs:=h.size
 refine ⟨by simp only [List.length_append,h.size,k.size,Nat.add_mul],fun z hz=>?_,fun i j x y hi hj=>?_⟩
 ·rcases List.mem_append.1 hz with e | e
  ·exact h.shaped z e
  ·exact k.shaped z e
 ·rcases Nat.lt_or_ge i xs.length with hlt | hge
  ·rw [List.getElem?_append_left hlt] at hi
   obtain ⟨v,hv,r⟩:=h.rep i j x y hi hj
   exact ⟨v,by rw [List.getElem?_append_left (List.getElem?_eq_some_iff.1 hv).1]; exact hv,r⟩
  ·rw [List.getElem?_append_right hge] at hi
   obtain ⟨v,hv,r⟩:=k.rep (i - xs.length) j x y hi hj
   have e:i*w=(i - xs.length)*w+xs.length*w:=by rw [←Nat.add_mul]; congr 1; omega
   refine ⟨v,?_,r⟩
   rw [List.getElem?_append_right (by omega),hs,show i*w+j - xs.length*w=(i - xs.length)*w+j by omega]; exact hv
theorem Jt (size:Nat) (ad:Option Addr) (n c:Nat) (W:World):(Builtin.firstCells size 0 (.slice ad n c)).run P W=.ok #[] W:=by
 cases ad <;> simp [Builtin.firstCells,loadCells,loadCellsFrom]
theorem Ju {t e ty:TypeId} {i:TypeInfo} (ht:P.underlying t=some (.slice e)) (hi:P.info? e=some i) (base:Option Addr) (sLen sCap:Nat) (hle:sLen≤sCap) (ad:Option Addr) (c:Nat) (W:World) :
  (Builtin.append_ #[t,t] ty #[.slice base sLen sCap,.slice ad 0 c]).run P W=.ok (.slice base sLen sCap) W:=by
 simp [Builtin.append_,run_underlying ht,sizeOf,typeInfo,hi,Builtin.lenOf,hle,Jt]
 cases base <;> simp [storeCells]
theorem Qn5 {t e ty:TypeId} {i:TypeInfo} (ht:P.underlying t=some (.slice e)) (hi:P.info? e=some i) (b off sLen sCap:Nat) (ad:Addr) (m c:Nat) (news:List Value) (hl:news.length=m*i.size)
  (hnews:∀j u,news[j]?=some u→W.cell? (ad.add j)=some u) (h1:∀u∈news,u.oneCell'=true) (hroom:sLen+m≤sCap)
  (hc:∀j,j < news.length→(W.cell? ⟨b,off+sLen*i.size+j,none⟩).isSome=true) (hf:∀j,j < news.length→W.frozen? ⟨b,off+sLen*i.size+j,none⟩=false) :
  (Builtin.append_ #[t,t] ty #[.slice (some ⟨b,off,none⟩) sLen sCap,.slice (some ad) m c]).run P W=.ok (.slice (some ⟨b,off,none⟩) (sLen+m) sCap) (W.setCells b (off+sLen*i.size) news):=by
 have hfc:=run_firstCells_some (P:=P) W i.size m ad m c news hl hnews
 have hst:=run_storeCells_cells (P:=P) b (off+sLen*i.size) news 0 W (by simpa using hc) (by simpa using hf) h1
 rw [Nat.add_zero] at hst
 simp [Builtin.append_,run_underlying ht,sizeOf,typeInfo,hi,Builtin.lenOf,hroom,hfc,Qan,hst]
theorem Q0e {t:TypeId} {T:TI} (ht:ti P t=some T) (hz:T.zok=true):∃i zv,P.info? t=some i∧i.zero=some zv∧T.size=i.size∧T.bytes=i.bytes∧zv.cells.size=T.size:=by
 unfold TI.zok at hz
 split at hz
 ·rename_i z hz0
  obtain ⟨i,zv,h1,h2,h3,_,h4⟩:=Qau ht hz0
  obtain ⟨_,i',_,h1',_,_,h5,_⟩:=Zq ht
  rw [h1] at h1'; cases h1'
  exact ⟨i,zv,h1,h2,h3,h5,by rw [←h4.len,Yj hz]⟩
 ·cases hz
theorem Qzj {bytes n:Nat} (h:Yr bytes n=true):n*bytes≤140737488355328∧n≤140737488355328:=by
 simp only [Yr,Bool.and_eq_true] at h
 have h1:=X0 h.1; have h2:=Z8 h.2
 exact ⟨h2,Nat.le_trans (Nat.le_mul_of_pos_right n h1) h2⟩
def Qdq (P:Program) (B:Nat) (W0:World) (D:List Nat) (M:CM) (ι:Inj) (σ:Sto) (fr:Nat) (W:World) (t ty:TypeId) (u v:Value) (r:Res):Prop :=
 ∃v' W' ι',(Builtin.append_ #[t,t] ty #[u,v]).run P W=.ok v' W'∧ι.le ι'∧(∀k,k < fr∨r.fr≤k→ι' k=ι k)∧Rel P B W0 D M ι' (σ.puts r.eff) W'∧∀x,r.v=some x→Qa M ι' v' x
set_option maxHeartbeats 2000000 in
theorem Qa9 (h:Rel P B W0 D M ι σ W) {t e ty:TypeId} {E:TI} (ht:P.underlying t=some (.slice e)) (hE:ti P e=some E) {x:AV} {ys:List AV} {nr fl:Bool} {r:Res}
  (he:absAppend σ fr E x ys nr fl=some r) (hfr:∀k,fr≤k→k < r.fr→ι k=none) {u v:Value} (hu:Qa M ι u x) (hv:Qgb M ι W E.size v ys nr fl):Qdq P B W0 D M ι σ fr W t ty u v r:=by
 obtain ⟨_,i,_,hi,_,hsz,hby,_⟩:=Zq hE
 obtain ⟨ad,c,hvf,hvc⟩:=hv.form
 have none_case:∀(x:AV) (base:Option Addr) (l cap:Nat) (rd:List Nat),ys.isEmpty=true→u=.slice base l cap→l≤cap→Qa M ι u x→Qdq P B W0 D M ι σ fr W t ty u v ⟨some x,[],fr,rd⟩:=by
  intro x base l cap rd hy hub hle hux
  have hy0:ys=[]:=by simpa using hy
  rw [hy0] at hvf
  subst hub
  refine ⟨_,W,ι,by rw [hvf]; exact Ju ht hi base l cap hle ad c W,Inj.le_refl _,fun _ _=>rfl,h,fun z hz=>by cases hz; exact hux⟩
 have grow_case:∀(σ':Sto) (base:Option Addr) (n cap:Nat) (xs:List AV) (olds:List Value) (nr' fl':Bool) (eff:List (Nat × AObj)) (rd:List Nat),Rel P B W0 D M ι σ' W →
   u=.slice base n cap→(base=none→n=0∧cap=0)→(∀b,base=some b→∀j q,olds[j]?=some q→W.cell? (b.add j)=some q)→Xl M ι E.size xs olds→xs.length=n→ys≠[]→cap < n+ys.length→E.zok=true→Yr E.bytes (n+ys.length)=true →
   (nr'=true→AV.nrL xs=true)→(fl'=true→∀x∈xs,AV.scs x=true)→ι fr=none→0 < E.size→σ.puts eff=σ' →
   Qdq P B W0 D M ι σ fr W t ty u v ⟨some (.ref fr 0 (n+ys.length)),eff++[(fr,.row false false (nr' && nr) (fl' && fl) E.size (xs++ys))],fr+1,rd⟩:=by
  intro σ' base n cap xs olds nr' fl' eff rd hrel hub hbn hbc hxs hxl hne hlt hzok hroom hnr' hfl' hfr0 hpos hσ'
  obtain ⟨b,off,had,_⟩:=hvc hne
  subst had
  obtain ⟨vs,k1,k2,k3,k4⟩:=hv.cells hvf hne
  obtain ⟨i',zv,z1,z2,z3,z4,z5⟩:=Q0e hE hzok
  rw [hi] at z1; cases z1
  obtain ⟨r1,r2⟩:=Qzj hroom
  have hylen:0 < ys.length:=by cases ys <;> simp_all
  have hall:=hxs.append k3
  have hrun:∃cap' rest,n+ys.length≤cap'∧(Builtin.append_ #[t,t] ty #[u,v]).run P W=.ok (.slice (some ⟨W.heap.size,0,none⟩) (n+ys.length) cap') (W.drew.alloc (.cells ((olds++vs).toArray++rest) e))∧((olds++vs).toArray++rest).size=cap'*E.size:=by
   have hszc:∀cap',n+ys.length≤cap'→((olds++vs).toArray++Builtin.zeroCells zv.cells (cap' - (n+ys.length))).size=cap'*E.size:=by
    intro cap' hc'
    simp only [Array.size_append,List.size_toArray,size_zeroCells,z5,hall.size,List.length_append,hxl]
    rw [←Nat.add_mul]; congr 1; omega
   cases base with
   | none =>
    obtain ⟨rfl,rfl⟩:=hbn rfl
    have hxe:xs=[]:=List.eq_nil_of_length_eq_zero hxl
    subst hxe
    have hoe:olds=[]:=List.eq_nil_of_length_eq_zero (by rw [hxs.size]; simp)
    subst hoe
    have hr:=run_append_nil (P:=P) W t ty e i zv ht hi z2 ⟨b,off,none⟩ ys.length c vs (by rw [k1,z3]) k2 hylen (by omega) (by rw [←hby]; rw [Nat.zero_add] at r1; omega)
    refine ⟨grownCap W ys.length 0 e,_,by rw [Nat.zero_add]; exact grownCap_ge _ _ _ _,?_,hszc _ (by rw [Nat.zero_add]; exact grownCap_ge _ _ _ _)⟩
    rw [hub,hvf,hr]
    simp
   | some bb =>
    have hr:=run_append_grow (P:=P) W t ty e i zv ht hi z2 bb n cap olds (by rw [hxs.size,hxl,z3]) (hbc bb rfl) ⟨b,off,none⟩ ys.length c vs (by rw [k1,z3]) k2 hlt (by omega) (growslice_fits hlt (by rw [←hby]; exact r1))
    refine ⟨grownCap W (n+ys.length) cap e,_,grownCap_ge _ _ _ _,?_,hszc _ (grownCap_ge _ _ _ _)⟩
    rw [hub,hvf,hr]
    simp
  obtain ⟨cap',rest,hc1,hrun,hsize⟩:=hrun
  have key:=hrel.drew.allocRow (bx:=false) (nr:=nr' && nr) (fl:=fl' && fl) hfr0 ((olds++vs).toArray++rest) e hpos (by omega:0 < cap') hsize (by rw [List.length_append,hxl]; exact hc1) hall.shaped
   (fun hn=>by simp only [Bool.and_eq_true] at hn; rw [Qsj,hnr' hn.1,hv.nr hn.2]; rfl)
   (fun hf z hz=>by
    simp only [Bool.and_eq_true] at hf
    rcases List.mem_append.1 hz with q | q
    ·exact hfl' hf.1 z q
    ·exact hv.fl hf.2 z q)
   (fun k j z q hk hj=>by
    obtain ⟨w,hw,hr,_⟩:=hall.rep k j z q hk hj
    refine ⟨w,?_,hr⟩
    have hlt':=(List.getElem?_eq_some_iff.1 hw).1
    rw [Array.getElem?_append_left (by simpa using hlt')]
    simpa using hw)
  refine ⟨_,_,ι.put fr ⟨W.heap.size,0,E.size,cap'⟩,hrun,Inj.le_put _ hfr0,fun k hk=>Inj.put_ne _ _ (by simp at hk; omega),?_,fun z hz=>?_⟩
  ·rw [Sto.puts_append,hσ']; exact key
  ·cases hz
   exact .ref fr 0 _ ⟨W.heap.size,0,E.size,cap'⟩ 0 cap' (Inj.put_same _ _ _) (by simpa using hc1) (by simp) (.inl (by simp))
 have nil_case:∀(base:Option Addr),u=.slice base 0 0→E.zok=true→Yr E.bytes ys.length=true→0 < E.size→ι fr=none →
   Qdq P B W0 D M ι σ fr W t ty u v ⟨some (.ref fr 0 ys.length),[(fr,.row false false nr fl E.size ys)],fr+1,[]⟩:=by
  intro base hub c1 c2 c3 hfr0
  by_cases hne:ys=[]
  ·rw [hne] at hvf ⊢
   subst hub
   rw [hvf]
   exact ⟨_,W,ι.put fr ⟨B,0,E.size,0⟩,Ju ht hi base 0 0 (Nat.le_refl _) _ c W,Inj.le_put _ hfr0,fun k hk=>Inj.put_ne _ _ (by simp at hk; omega),h.virt hfr0 c3,fun z hz'=>by cases hz'; exact .ref0 _ _ _ (Inj.put_same _ _ _) rfl⟩
  ·have:=grow_case σ base 0 0 [] [] true true [] [] h hub (fun _=>⟨rfl,rfl⟩) (by simp) ⟨by simp,by simp,by simp⟩ rfl hne (by cases ys <;> simp_all) c1 (by rw [Nat.zero_add]; exact c2) (by simp [AV.nrL]) (by simp) hfr0 c3 rfl
   simpa using this
 unfold absAppend at he
 split at he
 ·split at he
  ·rename_i hc
   simp only [Bool.and_eq_true] at hc
   obtain ⟨⟨c1,c2⟩,c3⟩:=hc
   cases he
   exact nil_case none hu.nils_inv c1 c2 (X0 c3) (hfr fr (Nat.le_refl _) (by simp))
  ·cases he
 ·split at he
  ·rename_i hc
   simp only [Bool.and_eq_true] at hc
   obtain ⟨⟨c1,c2⟩,c3⟩:=hc
   cases he
   obtain ⟨ad0,hu0⟩:=hu.emp_inv
   exact nil_case ad0 hu0 c1 c2 (X0 c3) (hfr fr (Nat.le_refl _) (by simp))
  ·cases he
 ·split at he
  ·rename_i hy
   cases he
   cases hu with
   | lst0=>exact none_case _ _ 0 0 _ hy rfl (Nat.le_refl _) (.lst0 _ _)
   | lst b off cap w f xs g hcap hfl hc hM hr =>
   exact none_case _ _ _ _ _ hy rfl hcap (.lst b off cap w _ _ g hcap hfl hc hM hr)
  ·cases he
 ·rename_i ob ii n
  split at he
  ·rename_i nr' fl' w xs hσ
   split at he
   ·rename_i hc
    simp only [Bool.and_eq_true] at hc
    obtain ⟨c1,c2⟩:=hc
    have c1:=Yj c1; have c2:=Z8 c2
    subst c1
    obtain ⟨p,hp,hrow⟩:=h.row _ _ _ _ _ _ _ hσ
    have hlen:=hrow.len
    cases hu with
    | ref0 ad _ q hq hz =>
     have hpq:p=q:=by rw [hp] at hq; exact Option.some.inj hq
     subst hpq
     have hx0:xs=[]:=List.eq_nil_of_length_eq_zero (by omega)
     subst hx0
     rw [if_pos (by rfl)] at he
     split at he
     ·rename_i hroom
      simp only [Bool.and_eq_true] at hroom
      cases he
      have hfr0:ι fr=none:=hfr fr (Nat.le_refl _) (by simp)
      by_cases hne:ys=[]
      ·subst hne
       rw [hvf]
       refine ⟨_,W,ι.put fr ⟨B,0,E.size,0⟩,Ju ht hi ad 0 0 (Nat.le_refl _) _ c W,Inj.le_put _ hfr0,fun k hk=>Inj.put_ne _ _ (by simp at hk; omega),?_,fun z hz'=>by cases hz'; exact .ref0 _ _ _ (Inj.put_same _ _ _) rfl⟩
       exact (h.kill ob).virt hfr0 hrow.pos
      ·have:=grow_case (σ.put ob .dead) ad 0 0 [] [] nr' fl' [(ob,.dead)] [ob] (h.kill ob) rfl (fun _=>⟨rfl,rfl⟩) (by simp) ⟨by simp,by simp,by simp⟩ rfl hne (by cases ys <;> simp_all) hroom.1 hroom.2 (by simp [AV.nrL]) (by simp) hfr0 hrow.pos rfl
       simpa using this
     ·cases he
    | ref _ _ _ q off cap hq hi' hcap hoff =>
    have hpq:p=q:=by rw [hp] at hq; exact Option.some.inj hq
    subst hpq
    have hux:Qa M ι (.slice (some ⟨p.blk,off,none⟩) n cap) (.ref ob ii n):=.ref ob ii n p off cap hp hi' hcap hoff
    have hputput:∀(σ:Sto) (x y:AObj),(σ.put fr x).put fr y=σ.put fr y:=fun σ x y=>by
     funext k; by_cases e:k=fr <;> simp [Sto.put,e]
    have in_run:∀(b off':Nat) (vs:List Value),v=.slice (some ⟨b,off',none⟩) ys.length c→vs.length=ys.length*E.size→(∀j u,vs[j]?=some u→W.cell? ((⟨b,off',none⟩:Addr).add j)=some u)→(∀u∈vs,u.oneCell'=true)→n+ys.length≤cap→off=p.base+ii*E.size →
      (Builtin.append_ #[t,t] ty #[.slice (some ⟨p.blk,off,none⟩) n cap,v]).run P W=.ok (.slice (some ⟨p.blk,off,none⟩) (n+ys.length) cap) (W.setCells p.blk (off+n*i.size) vs):=by
     intro b off' vs hvf k1 k2 k4 hle ho
     have hown:=(hrow.own rfl).2
     rw [hvf]
     have hfit:(ii+n+ys.length)*E.size≤p.cap*E.size:=Nat.mul_le_mul_right _ (by omega)
     rw [Nat.add_mul,Nat.add_mul] at hfit
     exact Qn5 ht hi p.blk off n cap ⟨b,off',none⟩ ys.length c vs (by rw [k1,hsz]) k2 k4 hle (fun j hj=>by
      have:=(hown (ii*E.size+n*E.size+j) (by omega)).1
      rw [ho,←hsz,show p.base+ii*E.size+n*E.size+j=p.base+(ii*E.size+n*E.size+j) by omega]; exact this) (fun j hj=>by
      have:=(h.cool _ _ _ _ _ _ _ (ii*E.size+n*E.size+j) (by assumption) hp (by omega)).1 (p.base+(ii*E.size+n*E.size+j))
      rw [ho,←hsz,show p.base+ii*E.size+n*E.size+j=p.base+(ii*E.size+n*E.size+j) by omega]; exact this)
    have move_case:ys≠[]→E.zok=true→Yr E.bytes (n+ys.length)=true→ι fr=none →
      Qdq P B W0 D M ι σ fr W t ty (.slice (some ⟨p.blk,off,none⟩) n cap) v ⟨some (.ref fr 0 (n+ys.length)),[(ob,.dead),(fr,.row false false (nr' && nr) (fl' && fl) E.size ((xs.drop ii).take n++ys))],fr+1,[ob]⟩:=by
     intro hne hr1 hr2 hfr0
     have hylen:0 < ys.length:=by cases ys <;> simp_all
     obtain ⟨b,off',had,_⟩:=hvc hne
     subst had
     obtain ⟨vs,k1,k2,k3,k4⟩:=hv.cells hvf hne
     by_cases hle:n+ys.length≤cap
     ·have hoff':off=p.base+ii*E.size:=by
       rcases hoff with q | q
       ·rw [q,hrow.pw]
       ·omega
      have hmv:=h.move hσ hp hfr0 ii (by omega)
      have k3':=k3.mono (CM.le_refl M) (Inj.le_put ⟨p.blk,p.base+ii*E.size,E.size,p.cap - ii⟩ hfr0)
      have hext:=hmv.extend (Sto.put_same _ _ _) (Inj.put_same _ _ _) n (by rw [List.length_drop]; omega) (by show n+ys.length≤p.cap - ii; omega) k3' hv.nr hv.fl
      refine ⟨_,_,ι.put fr ⟨p.blk,p.base+ii*E.size,E.size,p.cap - ii⟩,in_run b off' vs hvf k1 k2 k4 hle hoff',Inj.le_put _ hfr0,fun k hk=>Inj.put_ne _ _ (by simp at hk; omega),?_,fun z hz=>?_⟩
      ·simp only [Sto.puts]
       rw [hoff',←hsz]
       rw [hputput] at hext
       exact hext
      ·cases hz
       exact .ref fr 0 _ ⟨p.blk,p.base+ii*E.size,E.size,p.cap - ii⟩ off cap (Inj.put_same _ _ _) (by show 0+(n+ys.length)≤p.cap - ii; omega) (by show cap=p.cap - ii - 0; omega) (.inl (by show off=p.base+ii*E.size+0*E.size; omega))
     ·have hsl:Qgb M ι W E.size (.slice (some ⟨p.blk,off,none⟩) n cap) ((xs.drop ii).take n) nr' fl':=by
       have:=Qc1 (rd:=[ob]) (w:=E.size) (x:=.ref ob ii n) (ys:=(xs.drop ii).take n) (nr:=nr') (fl:=fl') h (by
        unfold Y5
        simp only [hσ]
        rw [if_pos (by simp; omega)]) hux
       exact this
      have hsn:((xs.drop ii).take n).length=n:=by rw [List.length_take,List.length_drop]; omega
      have holds:∃olds:List Value,Xl M ι E.size ((xs.drop ii).take n) olds∧∀j q,olds[j]?=some q→W.cell? ((⟨p.blk,off,none⟩:Addr).add j)=some q:=by
       by_cases hn0:(xs.drop ii).take n=[]
       ·exact ⟨[],⟨by rw [hn0]; simp,by rw [hn0]; simp,by rw [hn0]; simp⟩,by simp⟩
       ·obtain ⟨olds,a1,a2,a3,_⟩:=hsl.cells rfl hn0
        exact ⟨olds,a3,a2⟩
      obtain ⟨olds,a3,a2⟩:=holds
      have:=grow_case (σ.put ob .dead) (some ⟨p.blk,off,none⟩) n cap ((xs.drop ii).take n) olds nr' fl' [(ob,.dead)] [ob] (h.kill ob) rfl (by simp) (fun bb hbb=>by cases hbb; exact a2) a3 hsn hne (by omega) hr1 hr2 hsl.nr hsl.fl hfr0 hrow.pos rfl
      simpa using this
    split at he
    ·rename_i hfull
     have hfull:=Yj hfull
     have htk:(xs.drop ii).take n=xs.drop ii:=List.take_of_length_le (by rw [List.length_drop]; omega)
     split at he
     ·rename_i hroom
      simp only [Bool.and_eq_true] at hroom
      cases he
      have hfr0:ι fr=none:=hfr fr (Nat.le_refl _) (by simp)
      by_cases hne:ys=[]
      ·subst hne
       rw [hvf]
       have hrun:=Ju (P:=P) (ty:=ty) ht hi (some ⟨p.blk,off,none⟩) n cap (by omega) ad c W
       by_cases hii:ii < p.cap
       ·have hoff':off=p.base+ii*E.size:=by
         rcases hoff with q | q
         ·rw [q,hrow.pw]
         ·omega
        have hmv:=h.move hσ hp hfr0 ii hii
        have hext:=hmv.extend (ys:=[]) (vs:=[]) (nr':=nr) (fl':=fl) (Sto.put_same _ _ _) (Inj.put_same _ _ _) n (by rw [List.length_drop]; omega) (by show n+0≤p.cap - ii; omega) ⟨by simp,by simp,by simp⟩ (by simp [AV.nrL]) (by simp)
        refine ⟨_,W,ι.put fr ⟨p.blk,p.base+ii*E.size,E.size,p.cap - ii⟩,hrun,Inj.le_put _ hfr0,fun k hk=>Inj.put_ne _ _ (by simp at hk; omega),?_,fun z hz=>?_⟩
        ·simp only [Sto.puts]
         rw [hputput,htk] at hext
         exact hext
        ·cases hz
         exact .ref fr 0 _ ⟨p.blk,p.base+ii*E.size,E.size,p.cap - ii⟩ off cap (Inj.put_same _ _ _) (by show 0+(n+0)≤p.cap - ii; omega) (by show cap=p.cap - ii - 0; omega) (.inl (by show off=p.base+ii*E.size+0*E.size; omega))
       ·have hn0:n=0:=by omega
        have hc0:cap=0:=by omega
        subst hn0 hc0
        have hx0:xs.drop ii++[]=[]:=by simp; omega
        refine ⟨_,W,ι.put fr ⟨B,0,E.size,0⟩,hrun,Inj.le_put _ hfr0,fun k hk=>Inj.put_ne _ _ (by simp at hk; omega),?_,fun z hz'=>by cases hz'; exact .ref0 _ _ _ (Inj.put_same _ _ _) rfl⟩
        rw [hx0]
        exact (h.kill ob).virt hfr0 hrow.pos
      ·have:=move_case hne hroom.1 hroom.2 hfr0
       rw [htk] at this
       exact this
     ·cases he
    ·split at he
     ·rename_i hy
      cases he
      exact none_case _ _ _ _ _ hy rfl (by omega) hux
     ·rename_i hy
      have hne:ys≠[]:=by intro hh; apply hy; rw [hh]; rfl
      have hylen:0 < ys.length:=by cases ys <;> simp_all
      obtain ⟨b,off',had,_⟩:=hvc hne
      subst had
      obtain ⟨vs,k1,k2,k3,k4⟩:=hv.cells hvf hne
      split at he
      ·rename_i hin
       have hin:=Z8 hin
       cases he
       have hoff':off=p.base+ii*E.size:=by
        rcases hoff with q | q
        ·rw [q,hrow.pw]
        ·omega
       refine ⟨_,_,ι,in_run b off' vs hvf k1 k2 k4 (by omega) hoff',Inj.le_refl _,fun _ _=>rfl,?_,fun z hz=>?_⟩
       ·have:=h.overwrite hσ hp (ii+n) (by omega) k3 hv.nr hv.fl
        rw [hoff',←hsz,show p.base+ii*E.size+n*E.size=p.base+(ii+n)*E.size by rw [Nat.add_mul]; omega]
        exact this
       ·cases hz
        exact .ref ob ii _ p off cap hp (by omega) hcap hoff
      ·split at he
       ·rename_i hroom
        simp only [Bool.and_eq_true] at hroom
        cases he
        exact move_case hne hroom.1 hroom.2 (hfr fr (Nat.le_refl _) (by simp))
       ·cases he
   ·cases he
  ·cases he
 ·cases he
end
end Go.Ab
