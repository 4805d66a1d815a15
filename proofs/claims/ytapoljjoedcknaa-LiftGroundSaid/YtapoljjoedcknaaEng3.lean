/- Rules. No conditions. -/
import Derived.Test.YtapoljjoedcknaaEng2
import Derived.RangeFuncNested
import Derived.MapKept
import Derived.WideKeyRuns
set_option linter.all false
namespace Go.Ab
open Go.RowKit
section
variable {P:Program} {nf:Bool} {C:FuncId→List AV→Option Z2} {B:Nat} {W0 W W':World} {D:List Nat} {M:CM} {ι:Inj} {σ:Sto} {s:Slots} {a:Act} {fr:Nat} {o:Oper} {res:Res}
theorem Q2d {ts:Array TypeId} {t u:TypeId} {r:List TypeId} (h:ts.toList=t::u::r) (W:World) (ty:TypeId) (args:Array Value) (he:t=u) :
  (Builtin.append_ ts ty args).run P W=(Builtin.append_ #[t,t] ty args).run P W:=by
 subst he
 have h0:ts[0]?=some t:=by cases ts; simp_all
 have h1:ts[1]?=some t:=by cases ts; simp_all
 unfold Builtin.append_
 simp [h0,h1]
theorem Qg1 {σ σ':Sto}:∀(es:List (Nat × AObj)) (k:Nat),(σ k=σ' k∨∃e∈es,e.1=k)→σ.puts es k=σ'.puts es k
 | [],k,h=>by
  rcases h with h | ⟨e,he,_⟩
  ·exact h
  ·simp at he
 | (o,x)::es,k,h=>by
  simp only [Sto.puts]
  refine Qg1 es k ?_
  by_cases e:k=o
  ·subst e; exact .inl (by rw [Sto.put_same,Sto.put_same])
  ·rcases h with h | ⟨e',he',hk⟩
   ·exact .inl (by rw [Sto.put_ne _ _ e,Sto.put_ne _ _ e]; exact h)
   ·rcases List.mem_cons.1 he' with rfl | he'
    ·exact absurd hk.symm e
    ·exact .inr ⟨e',he',hk⟩
theorem Qq1 (h:Rel P B W0 D M ι σ W) (hs:Qg M ι s a.tmps) (hfr:∀k,fr≤k→k < res.fr→ι k=none) {args:Array Operand} {ts:Array TypeId} (ho:o.op=.call { callee:=.builtin .append,args,argTypes:=ts }) (he:evalOp P nf C σ fr s o=some (.val res)):Q8 P B W0 D M ι σ fr a o W res:=by
 unfold evalOp at he
 rw [ho] at he
 simp only at he
 obtain ⟨cs,hrun⟩:=Y8 (P:=P) (W:=W) (a:=a) ho
 unfold Qae at he
 split at he <;> first | (cases he; done) | skip
 rename_i x y t u tr hargs hts
 have hargs':=Q02 hargs
 subst hargs'
 split at he
 ·rename_i T U p q hT hU hx hy
  split at he
  ·cases he
  ·rename_i htu
   have htu:t=u:=by
    have:=htu
    simp only [Bool.not_eq_true,Bool.not_eq_false'] at this
    exact Yj this
   obtain ⟨d,i,g1,g2,g3,_⟩:=Zq hT
   have fin:∀{M':CM} {σ':Sto} {r:Res} {es:List (Nat × AObj)} {rd:List Nat},CM.Grow B M M'→Qdq P B W0 D M' ι σ' fr W t o.type (a.eval x) (a.eval y) r→σ.puts es=σ' →
     Q8 P B W0 D M ι σ fr a o W { r with eff:=es++r.eff,rd:=rd }:=by
    intro M' σ' r es rd hM hd hσ
    obtain ⟨v',W1,ι',k1,k2,k3,k4,k5⟩:=hd
    refine ⟨v',W1,M',ι',.inl ?_,hM,k2,k3,by rw [Sto.puts_append,hσ]; exact k4,k5⟩
    rw [hrun]
    simp only [builtin,List.map_toArray,List.map_cons,List.map_nil,Sem.run_bind,Q2d hts W o.type _ htu,k1,Result.andThen_ok,Sem.run_pure]
   split at he
   ·rename_i e hk
    rw [g3] at hk; rw [Zk hk] at g1
    split at he
    ·rename_i E hE
     split at he
     ·rename_i ys nr fl rd hel
      have hsrc:=Qc1 h hel (Qe hs hy)
      split at he
      ·cases hr:absAppend σ fr E p ys nr fl with
       | none=>simp [hr] at he
       | some r =>
        simp [hr] at he
        subst he
        have:=Qa9 (ty:=o.type) h g1 hE hr hfr (Qe hs hx) hsrc
        exact fin (es:=[]) (.refl _ _) this rfl
      ·split at he
       ·rename_i ys' ids hm
        split at he
        ·rename_i es r hfz hr
         split at he
         ·cases he
         ·rename_i hdis
          cases he
          have h':=Jz h hfz
          have hle:=addM_le M W (inC σ ι ids)
          obtain ⟨hl,hat⟩:=Vl hm
          have hsrc':Qgb (Zg M W (inC σ ι ids)) ι W E.size (a.eval y) ys' true false:=by
           obtain ⟨ad,c,hvf,hvc⟩:=hsrc.form
           have hsh:∀z∈ys',AV.shaped z E.size:=fun z hz=>by
            obtain ⟨i,hi,rfl⟩:=List.mem_iff_getElem.1 hz
            obtain ⟨x0,is',e1,e2,e3⟩:=Z7 hm (List.getElem?_eq_getElem hi)
            exact (V8 e2 (hsrc.shaped x0 (List.mem_of_getElem? e1))).1
           have hcell:∀b off,ad=some ⟨b,off,none⟩→ys≠[]→∀(i j:Nat) (x y:AV),ys'[i]?=some x→x.flat[j]?=some y→∃u,W.cell? ⟨b,off+i*E.size+j,none⟩=some u∧Qa (Zg M W (inC σ ι ids)) noInj u y:=by
            intro b off had hne i j x1 y1 hi hj
            obtain ⟨b',off',had',hcell⟩:=hvc hne
            rw [had] at had'; cases had'
            obtain ⟨x0,is',e1,e2,e3⟩:=Z7 hm hi
            obtain ⟨c1,d',is2,f1,f2,f3,f4⟩:=(V8 e2 (hsrc.shaped x0 (List.mem_of_getElem? e1))).2 j y1 hj
            obtain ⟨u,hu,hr⟩:=hcell i j x0 c1 e1 f1
            exact ⟨u,hu,X4 h ids d' c1 y1 is2 u f3 (fun k hk=>e3 k (f4 k hk)) hr⟩
           refine ⟨⟨ad,c,by rw [hl]; exact hvf,fun hne=>?_⟩,hsh,fun _=>Q1.2 fun z hz=>?_,by simp⟩
           ·have hne':ys≠[]:=by intro e; rw [e] at hl; exact hne (List.eq_nil_of_length_eq_zero hl)
            obtain ⟨b,off,had,_⟩:=hvc hne'
            refine ⟨b,off,had,fun i j x1 y1 hi hj=>?_⟩
            obtain ⟨u,hu,hr⟩:=hcell b off had hne' i j x1 y1 hi hj
            exact ⟨u,hu,hr.mono (CM.le_refl _) (Inj.noInj_le _)⟩
           ·refine Qg6 (hsh z hz) fun y1 hy1=>?_
            obtain ⟨i,hi,rfl⟩:=List.mem_iff_getElem.1 hz
            obtain ⟨j,hj,rfl⟩:=List.mem_iff_getElem.1 hy1
            have hne':ys≠[]:=by intro e; rw [e] at hl; simp at hl; rw [hl] at hi; simp at hi
            obtain ⟨b,off,had,_⟩:=hvc hne'
            obtain ⟨u,_,hr⟩:=hcell b off had hne' i j _ _ (List.getElem?_eq_getElem hi) (List.getElem?_eq_getElem hj)
            exact hr.nr_of_noInj
          have hdis':∀k∈ids,∀e∈r.eff,e.1≠k:=by
           intro k hk e' he' e
           apply hdis
           rw [List.any_eq_true]
           refine ⟨k,hk,?_⟩
           rw [List.any_eq_true]
           exact ⟨e',he',by rw [e]; exact Nat.beq_refl k⟩
          by_cases hys:ys'=[]
          ·
           subst hys
           have hr':absAppend (σ.puts es) fr E p [] true false=some r:=by
            cases p with
            | ref o1 i1 n1 =>
             unfold absAppend at hr ⊢
             simp only at hr ⊢
             split at hr
             ·rename_i nr2 fl2 w2 xs2 hσ2
              have hn:o1 ∉ ids:=by
               have:Q4 (Qt σ Qn) ys=some ([],ids):=hm
               have hy0:ys=[]:=List.eq_nil_of_length_eq_zero (by simpa using hl.symm)
               rw [hy0] at this
               simp [Q4] at this
               rw [this]; simp
              rw [J4 hfz hn,hσ2]
              exact hr
             ·cases hr
            | _=>simpa [absAppend] using hr
           have:=Qa9 (ty:=o.type) h' g1 hE hr' hfr ((Qe hs hx).mono hle (Inj.le_refl _)) hsrc'
           exact fin (h.growC ids) this rfl
          ·have hr':absAppend (σ.puts es) fr E p ys' true false=some r:=by
            cases p with
            | ref o1 i1 n1 =>
             have hn:o1 ∉ ids:=by
              intro hk
              have hmem:∃e∈r.eff,e.1=o1:=by
               unfold absAppend at hr
               simp only at hr
               split at hr
               ·split at hr
                ·split at hr
                 ·split at hr
                  ·cases hr; exact ⟨_,List.mem_cons_self,rfl⟩
                  ·cases hr
                 ·split at hr
                  ·rename_i hemp
                   exact absurd (by simpa using hemp) hys
                  ·split at hr
                   ·cases hr; exact ⟨_,List.mem_cons_self,rfl⟩
                   ·split at hr
                    ·cases hr; exact ⟨_,List.mem_cons_self,rfl⟩
                    ·cases hr
                ·cases hr
               ·cases hr
              obtain ⟨e',he',e⟩:=hmem
              exact hdis' o1 hk e' he' e
             unfold absAppend at hr ⊢
             simp only at hr ⊢
             rw [J4 hfz hn]
             exact hr
            | _=>simpa [absAppend] using hr
           have:=Qa9 (ty:=o.type) h' g1 hE hr' hfr ((Qe hs hx).mono hle (Inj.le_refl _)) hsrc'
           exact fin (h.growC ids) this rfl
        ·cases he
       ·cases he
     ·cases he
    ·cases he
   ·cases he
 ·cases he
theorem Quo (h:Rel P B W0 D M ι σ W) (hs:Qg M ι s a.tmps) {args:Array Operand} {ts:Array TypeId} (ho:o.op=.call { callee:=.builtin .copy,args,argTypes:=ts }) (he:evalOp P nf C σ fr s o=some (.val res)):Q8 P B W0 D M ι σ fr a o W res:=by
 unfold evalOp at he
 rw [ho] at he
 simp only at he
 obtain ⟨cs,hrun⟩:=Y8 (P:=P) (W:=W) (a:=a) ho
 unfold Qft at he
 split at he <;> first | (cases he; done) | skip
 rename_i x y t tr hargs hts
 have hargs':=Q02 hargs
 subst hargs'
 split at he
 ·rename_i T p q hT hx hy
  obtain ⟨d,i,g1,g2,g3,_⟩:=Zq hT
  have ht0:ts[0]?=some t:=by cases ts; simp_all
  have fin:∀{n:Int} {W1:World},(Builtin.copy_ ts o.type #[a.eval x,a.eval y]).run P W=.ok (.int .i64 n) W1→(execOp a.eval o).run P W=.ok (.value (.int .i64 n)) W1:=by
   intro n W1 hn
   rw [hrun]
   simp only [builtin,List.map_toArray,List.map_cons,List.map_nil,Sem.run_bind,hn,Result.andThen_ok,Sem.run_pure]
  split at he
  ·rename_i e hk
   rw [g3] at hk; rw [Zk hk] at g1
   split at he
   ·rename_i E hE
    obtain ⟨_,i1,_,hi1,_,hsz,_⟩:=Zq hE
    split at he
    ·rename_i ys nr fl rd hel
     have hsrc:=Qc1 h hel (Qe hs hy)
     obtain ⟨ad,c,hvf,hvc⟩:=hsrc.form
     have zero:∀(base:Option Addr) (l cap:Nat),a.eval x=.slice base 0 cap→(Builtin.copy_ ts o.type #[a.eval x,a.eval y]).run P W=.ok (.int .i64 0) W:=by
      intro base l cap hb
      rw [hb,hvf]
      simp only [Builtin.copy_,ht0]
      simp [run_underlying g1,Builtin.lenOf,sizeOf,typeInfo,hi1,Jt,goInt]
      cases base <;> simp [storeCells]
     split at he
     ·cases he
      have hv:=(Qe hs hx).nils_inv
      exact Ql h (fin (zero _ 0 0 hv)) (.int _ _)
     ·cases he
      obtain ⟨ad',hv⟩:=(Qe hs hx).emp_inv
      exact Ql h (fin (zero _ 0 0 hv)) (.int _ _)
     ·rename_i ob ii n
      split at he
      ·rename_i nr' fl' w xs hσ
       split at he
       ·rename_i hc
        simp only [Bool.and_eq_true] at hc
        obtain ⟨⟨c1,c2⟩,c3⟩:=hc
        have c1:=Yj c1; have c2:=Z8 c2
        subst c1
        cases he
        obtain ⟨p,hp,hrow⟩:=h.row _ _ _ _ _ _ _ hσ
        have hlen:=hrow.len
        have hv:=Qe hs hx
        generalize hu:a.eval x=u at hv
        cases hv with
        | ref0 ad0 _ q hq hz =>
         have hrun0:=zero ad0 0 0 hu
         refine ⟨_,W,M,ι,.inl (fin hrun0),.refl _ _,Inj.le_refl _,fun _ _=>rfl,?_,fun z hz=>by cases hz; simp only [Nat.min_zero]; exact .int _ _⟩
         have:=h.overwrite hσ hp (ys:=[]) (vs:=[]) (nr':=nr) (fl':=fl) 0 (by simp) ⟨by simp,by simp,by simp⟩ (by simp [AV.nrL]) (by simp)
         simp only [List.take_zero]
         exact this
        | ref _ _ _ q off cap hq hi' hcap hoff =>
        have hpq:p=q:=by rw [hp] at hq; exact Option.some.inj hq
        subst hpq
        by_cases hm0:min ys.length n=0
        ·
         have htk:ys.take n=[]:=by
          rcases Nat.eq_zero_or_pos n with e | e
          ·subst e; simp
          ·have:ys.length=0:=by omega
           have:=List.eq_nil_of_length_eq_zero this
           rw [this]; simp
         have hrun0:(Builtin.copy_ ts o.type #[a.eval x,a.eval y]).run P W=.ok (.int .i64 (min ys.length n:Nat)) W:=by
          rw [hu,hvf]
          simp only [Builtin.copy_,ht0]
          have:Nat.min ys.length n=0:=hm0
          simp [run_underlying g1,Builtin.lenOf,sizeOf,typeInfo,hi1,this,Jt,goInt,storeCells,hm0]
         refine ⟨_,W,M,ι,.inl (fin hrun0),.refl _ _,Inj.le_refl _,fun _ _=>rfl,?_,fun z hz=>by cases hz; exact .int _ _⟩
         have:=h.overwrite hσ hp (ys:=[]) (vs:=[]) (nr':=nr) (fl':=fl) ii (by simp; omega) ⟨by simp,by simp,by simp⟩ (by simp [AV.nrL]) (by simp)
         rw [htk]
         exact this
        ·have hne:ys.take n≠[]:=by
          intro e
          have h0:(ys.take n).length=min n ys.length:=List.length_take
          rw [e,List.length_nil] at h0
          omega
         have hne0:ys≠[]:=by intro e; rw [e] at hne; simp at hne
         obtain ⟨b,off',had,hcell⟩:=hvc hne0
         subst had
         have hsrc':Qgb M ι W E.size (.slice (some ⟨b,off',none⟩) (ys.take n).length c) (ys.take n) nr fl:=by
          refine ⟨⟨_,c,rfl,fun _=>⟨b,off',rfl,fun i j x y hi hj=>?_⟩⟩,fun z hz=>hsrc.shaped z (List.mem_of_mem_take hz),fun hn=>Q1.2 fun z hz=>Q1.1 (hsrc.nr hn) z (List.mem_of_mem_take hz),fun hf z hz=>hsrc.fl hf z (List.mem_of_mem_take hz)⟩
          have hin:i < n:=by have:=(List.getElem?_eq_some_iff.1 hi).1; simp at this; omega
          rw [List.getElem?_take,if_pos hin] at hi
          exact hcell i j x y hi hj
         obtain ⟨vs,k1,k2,k3,k4⟩:=hsrc'.cells rfl hne
         have htl:(ys.take n).length=min ys.length n:=by simp [Nat.min_comm]
         have hoff':off=p.base+ii*E.size:=by
          rcases hoff with q | q
          ·rw [q,hrow.pw]
          ·omega
         have hown:=(hrow.own rfl).2
         have hfit:(ii+min ys.length n)*E.size≤p.cap*E.size:=Nat.mul_le_mul_right _ (by omega)
         rw [Nat.add_mul] at hfit
         have hst:=run_storeCells_cells (P:=P) p.blk off vs 0 W (fun j hj=>by
           have:=(hown (ii*E.size+j) (by rw [k1,htl] at hj; omega)).1
           rw [Nat.add_zero,hoff',show p.base+ii*E.size+j=p.base+(ii*E.size+j) by omega]; exact this) (fun j hj=>by
           have:=(h.cool _ _ _ _ _ _ _ (ii*E.size+j) (by assumption) hp (by rw [k1,htl] at hj; omega)).1 (p.base+(ii*E.size+j))
           rw [Nat.add_zero,hoff',show p.base+ii*E.size+j=p.base+(ii*E.size+j) by omega]; exact this) k4
         rw [Nat.add_zero] at hst
         have hfc:=run_firstCells_some (P:=P) W i1.size (min ys.length n) ⟨b,off',none⟩ ys.length c vs (by rw [k1,htl,hsz]) k2
         have hrun0:(Builtin.copy_ ts o.type #[a.eval x,a.eval y]).run P W=.ok (.int .i64 (min ys.length n:Nat)) (W.setCells p.blk off vs):=by
          rw [hu,hvf]
          simp only [Builtin.copy_,ht0]
          have:Nat.min ys.length n=min ys.length n:=rfl
          simp [run_underlying g1,Builtin.lenOf,sizeOf,typeInfo,hi1,this,hfc,goInt,hst]
         refine ⟨_,_,M,ι,.inl (fin hrun0),.refl _ _,Inj.le_refl _,fun _ _=>rfl,?_,fun z hz=>by cases hz; exact .int _ _⟩
         have:=h.overwrite hσ hp ii (by rw [htl]; omega) k3 hsrc'.nr hsrc'.fl
         rw [hoff']
         exact this
       ·cases he
      ·cases he
     ·cases he
    ·cases he
   ·cases he
  ·cases he
 ·cases he
end
end Go.Ab
namespace Go.Ab
open Go.RowKit
section
variable {P:Program} {B:Nat} {W0 W:World} {D:List Nat} {M:CM} {ι:Inj} {σ:Sto}
theorem Qbi {l:Loop}:(Qag l).isCells=false:=by unfold Qag; split <;> rfl
theorem Qjz {l:Nat} {o o':Obj} (hl:W.heap[l]?=some o) (h1:o.isCells=false) (h2:o'.isCells=false) (p:Addr):(W.putObj l o').cell? p=W.cell? p:=by
 unfold World.cell?
 by_cases e:p.block=l
 ·rw [e,World.putObj_heap_same (Array.getElem?_eq_some_iff.1 hl).1,hl]
  cases o <;> cases o' <;> simp_all [Obj.isCells]
 ·rw [World.putObj_heap_other e]
theorem Qha {l:Nat} {o o':Obj} (hl:W.heap[l]?=some o) (h1:o.isCells=false) (h2:o'.isCells=false) (p:Addr):(W.putObj l o').frozen? p=W.frozen? p:=by
 unfold World.frozen?
 by_cases e:p.block=l
 ·rw [e,World.putObj_heap_same (Array.getElem?_eq_some_iff.1 hl).1,hl]
  cases o <;> cases o' <;> simp_all [Obj.isCells]
 ·rw [World.putObj_heap_other e]
theorem Qi1 {l:Nat} (o':Obj) (h:Q7 B W0 W) (hl:B≤l):Q7 B W0 (W.putObj l o') :=
 h.trans ⟨⟨rfl,rfl,rfl,by simp,fun k hk=>World.putObj_heap_other (by omega)⟩,Nat.le_refl _⟩
theorem Qeu.world {W':World} {ro nr fl:Bool} {w:Nat} {xs:List AV} {p:Place} (h:Qeu B M ι W ro nr fl w xs p) (hc:∀q,W'.cell? q=W.cell? q):Qeu B M ι W' ro nr fl w xs p :=
 ⟨h.pw,h.pos,h.cpos,h.len,h.shaped,h.nr,h.fl,fun i j x y hi hj=>by rw [hc]; exact h.cells i j x y hi hj,fun hro=>⟨(h.own hro).1,fun k hk=>by rw [hc]; exact (h.own hro).2 k hk⟩,h.imm⟩
theorem Rel.allocObj (h:Rel P B W0 D M ι σ W) (x:Obj) (hx:x.isCells=false):Rel P B W0 D M ι σ (W.alloc x):=by
 exact h.old ((Q7.refl _ W).alloc (Nat.le_refl _) _)
theorem Rel.allocRec (h:Rel P B W0 D M ι σ W) {o:Nat} (ho:ι o=none) {fn:FuncId} {nt:Nat} {tmps:Array Value} (hsz:tmps.size=nt) {sl:List (Nat × AV)} (hsl:Qg M ι (lk sl) tmps) (ps:Array Tmp) (as bd:Code) (d:Nat) (st:LoopState) (pe:Option Code) :
  Rel P B W0 D M (ι.put o ⟨W.heap.size,d,0,0⟩) (σ.put o (.loop nt sl ps.toList as bd st pe)) (W.alloc (Qag { state:=st,pending:=pe,fn,tmps,params:=ps,assign:=as,body:=bd,defers:=d })):=by
 have h':=h.allocObj (Qag { state:=st,pending:=pe,fn,tmps,params:=ps,assign:=as,body:=bd,defers:=d }) Qbi
 have hle:=Inj.le_put ⟨W.heap.size,d,0,0⟩ ho
 refine ⟨h'.size,h'.below,h'.defs,h'.agree,fun k bx1 nr1 fl1 w1 xs1 q j hk hq hj=>?_,?_,?_,?_,?_,?_⟩
 ·have e:k≠o:=fun e=>by subst e; rw [Sto.put_same] at hk; cases hk
  rw [Sto.put_ne _ _ e] at hk; rw [Inj.put_ne _ _ e] at hq
  exact h'.cool _ _ _ _ _ _ _ _ hk hq hj
 ·intro k bx ro nr fl w xs hk
  have e:k≠o:=fun e=>by subst e; rw [Sto.put_same] at hk; cases hk
  rw [Sto.put_ne _ _ e] at hk
  obtain ⟨q,hq,hr⟩:=h'.row k bx ro nr fl w xs hk
  refine ⟨q,by rw [Inj.put_ne _ _ e]; exact hq,⟨hr.pw,hr.pos,hr.cpos,hr.len,hr.shaped,hr.nr,hr.fl,fun i j x y hi hj=>?_,hr.own,hr.imm⟩⟩
  obtain ⟨v,hv,hrep⟩:=hr.cells i j x y hi hj
  exact ⟨v,hv,hrep.mono (CM.le_refl _) hle⟩
 ·intro k fn' sl' ps' as' bd' st' pe' hk
  by_cases e:k=o
  ·subst e
   rw [Sto.put_same] at hk
   cases hk
   refine ⟨_,fn,Inj.put_same _ _ _,h.fresh,h.size,tmps,hsz,World.alloc_heap_new W _,fun t a ha=>(hsl t a ha).mono (CM.le_refl _) hle⟩
  ·rw [Sto.put_ne _ _ e] at hk
   obtain ⟨q,nt,hq,hnt,hb,tm,hs,hrec,hsl'⟩:=h'.loop k fn' sl' ps' as' bd' st' pe' hk
   exact ⟨q,nt,by rw [Inj.put_ne _ _ e]; exact hq,hnt,hb,tm,hs,hrec,fun t a ha=>(hsl' t a ha).mono (CM.le_refl _) hle⟩
 ·intro k k' bx1 nr1 fl1 w1 xs1 bx2 nr2 fl2 w2 xs2 q q' hkk h1 h2 hq hq'
  have e:k≠o:=fun e=>by subst e; rw [Sto.put_same] at h1; cases h1
  have e':k'≠o:=fun e=>by subst e; rw [Sto.put_same] at h2; cases h2
  rw [Sto.put_ne _ _ e] at h1; rw [Sto.put_ne _ _ e'] at h2; rw [Inj.put_ne _ _ e] at hq; rw [Inj.put_ne _ _ e'] at hq'
  exact h.apart _ _ _ _ _ _ _ _ _ _ _ _ _ _ hkk h1 h2 hq hq'
 ·intro k k' fn1 sl1 ps1 as1 bd1 st1 pe1 fn2 sl2 ps2 as2 bd2 st2 pe2 q q' hkk h1 h2 hq hq'
  have lt:∀k fn1 sl1 ps1 as1 bd1 st1 pe1 q,σ k=some (.loop fn1 sl1 ps1 as1 bd1 st1 pe1)→ι k=some q→q.blk < W.heap.size:=fun k _ _ _ _ _ _ _ q hk hq=>by
   obtain ⟨q',_,hq',_,hb,tm,hs,hrec,_⟩:=h.loop k _ _ _ _ _ _ _ hk
   rw [hq] at hq'; cases hq'
   exact (Array.getElem?_eq_some_iff.1 hrec).1
  by_cases e:k=o
  ·subst e
   rw [Inj.put_same] at hq; cases hq
   rw [Sto.put_ne _ _ (Ne.symm hkk)] at h2; rw [Inj.put_ne _ _ (Ne.symm hkk)] at hq'
   have:=lt _ _ _ _ _ _ _ _ _ h2 hq'
   show W.heap.size≠q'.blk
   omega
  ·rw [Sto.put_ne _ _ e] at h1; rw [Inj.put_ne _ _ e] at hq
   by_cases e':k'=o
   ·subst e'
    rw [Inj.put_same] at hq'; cases hq'
    have:=lt _ _ _ _ _ _ _ _ _ h1 hq
    show q.blk≠W.heap.size
    omega
   ·rw [Sto.put_ne _ _ e'] at h2; rw [Inj.put_ne _ _ e'] at hq'
    exact h.loops _ _ _ _ _ _ _ _ _ _ _ _ _ _ _ _ _ _ hkk h1 h2 hq hq'
 ·intro k hk
  have e:k≠o:=fun e=>by subst e; rw [Inj.put_same] at hk; cases hk
  rw [Inj.put_ne _ _ e] at hk; rw [Sto.put_ne _ _ e]; exact h.used k hk
theorem Rel.setRec (h:Rel P B W0 D M ι σ W) {o:Nat} {nt:Nat} {sl:List (Nat × AV)} {ps:List Tmp} {as bd:Code} {st:LoopState} {pe:Option Code} {p:Place}
  (hσ:σ o=some (.loop nt sl ps as bd st pe)) (hp:ι o=some p) {x:AObj} {ob:Obj} (hcl:ob.isCells=false)
  (hx:x=.dead∨∃(nt':Nat) (sl':List (Nat × AV)) (ps':List Tmp) (as' bd':Code) (st':LoopState) (pe':Option Code) (fn':FuncId) (tmps':Array Value),
   x=.loop nt' sl' ps' as' bd' st' pe'∧ob=Qag { state:=st',pending:=pe',fn:=fn',tmps:=tmps',params:=ps'.toArray,assign:=as',body:=bd',defers:=p.base }∧tmps'.size=nt'∧Qg M ι (lk sl') tmps') :
  Rel P B W0 D M ι (σ.put o x) (W.putObj p.blk ob):=by
 obtain ⟨q,fn,hq,hnt,hB,tmps,hsz,hrec,hsl⟩:=h.loop o nt sl ps as bd st pe hσ
 rw [hp] at hq; cases hq
 have hnr:∀bx ro nr fl w xs,x≠.row bx ro nr fl w xs:=by
  intro bx ro nr fl w xs e
  rcases hx with rfl | ⟨_,_,_,_,_,_,_,_,_,rfl,_⟩ <;> cases e
 have hc:=fun q=>Qjz (o':=ob) hrec Qbi hcl q
 have hf:=fun q=>Qha (o':=ob) hrec Qbi hcl q
 refine ⟨by simpa using h.size,Qi1 _ h.below hB,fun d hd=>?_,⟨fun b o v hv=>by rw [hc]; exact h.agree b o v hv,fun b x hm=>by
  obtain ⟨k1,k2,k3⟩:=h.agree.keep b x hm
  refine ⟨?_,k2,k3⟩
  rw [World.putObj_heap_other (fun e=>by subst e; rw [hnt] at hm; cases hm)]; exact k1,fun b o v hm=>by simp only [hc,hf]; exact h.agree.keepC b o v hm⟩,fun k bx1 nr1 fl1 w1 xs1 q j hk hq hj=>?_,?_,?_,?_,?_,?_⟩
 ·rw [World.putObj_heap_other (fun e=>by have:=h.defs d hd; rw [e,hrec] at this; exact Qj0 this)]; exact h.defs d hd
 ·simp only [hf]
  have e:k≠o:=fun e=>by subst e; rw [Sto.put_same] at hk; cases hk; exact absurd rfl (hnr _ _ _ _ _ _)
  rw [Sto.put_ne _ _ e] at hk; exact h.cool _ _ _ _ _ _ _ _ hk hq hj
 ·intro k bx ro nr fl w xs hk
  have e:k≠o:=fun e=>by subst e; rw [Sto.put_same] at hk; cases hk; exact absurd rfl (hnr _ _ _ _ _ _)
  rw [Sto.put_ne _ _ e] at hk
  obtain ⟨q,hq,hr⟩:=h.row k bx ro nr fl w xs hk
  exact ⟨q,hq,hr.world hc⟩
 ·intro k fn1 sl1 ps1 as1 bd1 st1 pe1 hk
  by_cases e:k=o
  ·subst e
   rw [Sto.put_same] at hk
   rcases hx with rfl | ⟨nt',sl',ps',as',bd',st',pe',fn',tmps',rfl,rfl,hsz',hsl'⟩
   ·cases hk
   ·cases hk
    exact ⟨p,fn',hp,hnt,hB,tmps',hsz',World.putObj_heap_same (Array.getElem?_eq_some_iff.1 hrec).1,hsl'⟩
  ·rw [Sto.put_ne _ _ e] at hk
   obtain ⟨q,nt1,hq,hnt1,hB1,tm1,hsz1,hrec1,hsl1⟩:=h.loop k _ _ _ _ _ _ _ hk
   refine ⟨q,nt1,hq,hnt1,hB1,tm1,hsz1,?_,hsl1⟩
   rw [World.putObj_heap_other (h.loops _ _ _ _ _ _ _ _ _ _ _ _ _ _ _ _ _ _ e hk hσ hq hp)]; exact hrec1
 ·intro k k' bx1 nr1 fl1 w1 xs1 bx2 nr2 fl2 w2 xs2 q q' hkk h1 h2 hq hq'
  have e:k≠o:=fun e=>by subst e; rw [Sto.put_same] at h1; cases h1; exact absurd rfl (hnr _ _ _ _ _ _)
  have e':k'≠o:=fun e=>by subst e; rw [Sto.put_same] at h2; cases h2; exact absurd rfl (hnr _ _ _ _ _ _)
  rw [Sto.put_ne _ _ e] at h1; rw [Sto.put_ne _ _ e'] at h2
  exact h.apart _ _ _ _ _ _ _ _ _ _ _ _ _ _ hkk h1 h2 hq hq'
 ·intro k k' fn1 sl1 ps1 as1 bd1 st1 pe1 fn2 sl2 ps2 as2 bd2 st2 pe2 q q' hkk h1 h2 hq hq'
  have g:∀k fn1 sl1 ps1 as1 bd1 st1 pe1,σ.put o x k=some (.loop fn1 sl1 ps1 as1 bd1 st1 pe1)→∃a b c d e f g,σ k=some (.loop a b c d e f g):=fun k _ _ _ _ _ _ _ hk=>by
   by_cases e:k=o
   ·subst e; exact ⟨_,_,_,_,_,_,_,hσ⟩
   ·rw [Sto.put_ne _ _ e] at hk; exact ⟨_,_,_,_,_,_,_,hk⟩
  obtain ⟨_,_,_,_,_,_,_,g1⟩:=g _ _ _ _ _ _ _ _ h1
  obtain ⟨_,_,_,_,_,_,_,g2⟩:=g _ _ _ _ _ _ _ _ h2
  exact h.loops _ _ _ _ _ _ _ _ _ _ _ _ _ _ _ _ _ _ hkk g1 g2 hq hq'
 ·intro k hk
  have e:k≠o:=fun e=>by subst e; rw [hp] at hk; cases hk
  rw [Sto.put_ne _ _ e]; exact h.used k hk
end
end Go.Ab
namespace Go.Ab
open Go.RowKit
section
variable {P:Program} {M:CM} {ι:Inj}
theorem Kv {kt:TypeId} {x y:AV} {r:Bool} (h:Xj P kt x y=some r):(∃q k n m,P.underlying kt=some (.int q)∧x=.int k n∧y=.int k m∧r=(n==m))∨(∃ks as bs,eqT P kt=some ks∧ks.all SK.key=true∧x=.agg as∧y=.agg bs∧scEqL ks as bs=some r):=by
 unfold Xj at h
 split at h
 ·rename_i hs
  left
  unfold Jf at hs
  split at hs <;> first | (cases hs; done) | skip
  rename_i q hq
  cases x <;> cases y <;> simp [Qj4] at h
  rename_i k n k' m
  obtain ⟨rfl,rfl⟩:=h
  exact ⟨q,k,n,m,hq,rfl,rfl,rfl⟩
 ·cases h
 ·right
  split at h
  ·rename_i as bs
   split at h
   ·rename_i ks hks
    unfold Qyy at hks
    split at hks
    ·rename_i ks' he
     split at hks
     ·rename_i hall; cases hks; exact ⟨ks,as,bs,he,hall,rfl,rfl,h⟩
     ·cases hks
    ·cases hks
   ·cases h
  ·cases h
theorem Qxd {k:SK} (hk:k.key=true) {x y:AV} {r:Bool} (h:Qj4 k x y=some r) {u v:Value} (hu:Qa M ι u x) (hv:Qa M ι v y):(r=true→u=v)∧Instr.sameBits 9999 u u=true:=by
 unfold Qj4 at h
 split at h
 ·rw [hu.int_inv,hv.int_inv]
  split at h
  ·rename_i hkk; subst hkk; cases h
   refine ⟨fun e=>?_,by simp [Instr.sameBits]⟩
   have:=of_decide_eq_true e
   rw [this]
  ·cases h
 ·rw [hu.bool_inv,hv.bool_inv]
  cases h
  refine ⟨fun e=>?_,by simp [Instr.sameBits]⟩
  have:=eq_of_beq e
  rw [this]
 ·cases hk
 ·cases h
theorem Qhw:∀{ks:List SK},ks.all SK.key=true→∀{as bs:List AV} {r:Bool},scEqL ks as bs=some r→∀{cs cs':List Value},cs.length=as.length→cs'.length=bs.length→(∀(j:Nat) (v:Value) (y:AV),cs[j]?=some v→as[j]?=some y→Qa M ι v y)→(∀(j:Nat) (v:Value) (y:AV),cs'[j]?=some v→bs[j]?=some y→Qa M ι v y) →
  (r=true→cs=cs')∧(∀v∈cs,Instr.sameBits 9999 v v=true)
 | [],_,[],[],r,h,cs,cs',h1,h2,_,_=>by
  have:=List.length_eq_zero_iff.1 h1
  have:=List.length_eq_zero_iff.1 h2
  subst_vars
  exact ⟨fun _=>rfl,fun v hv=>by cases hv⟩
 | k::ks,hk,a::as,b::bs,r,h,cs,cs',h1,h2,g1,g2=>by
  simp only [scEqL] at h
  rw [List.all_cons,Bool.and_eq_true] at hk
  split at h
  ·rename_i p q e1 e2
   cases h
   obtain ⟨c,cs,rfl⟩:∃c l,cs=c::l:=by
    cases cs with
    | nil=>simp at h1
    | cons c l=>exact ⟨c,l,rfl⟩
   obtain ⟨c',cs',rfl⟩:∃c l,cs'=c::l:=by
    cases cs' with
    | nil=>simp at h2
    | cons c l=>exact ⟨c,l,rfl⟩
   obtain ⟨v1,v2⟩:=Qxd hk.1 e1 (g1 0 c a rfl rfl) (g2 0 c' b rfl rfl)
   obtain ⟨w1,w2⟩:=Qhw hk.2 e2 (cs:=cs) (cs':=cs') (by simpa using h1) (by simpa using h2) (fun j v y hv hy=>g1 (j+1) v y (by simpa using hv) (by simpa using hy)) (fun j v y hv hy=>g2 (j+1) v y (by simpa using hv) (by simpa using hy))
   refine ⟨fun e=>?_,fun v hv=>?_⟩
   ·rw [Bool.and_eq_true] at e
    rw [v1 e.1,w1 e.2]
   ·rcases List.mem_cons.1 hv with rfl | hv
    ·exact v2
    ·exact w2 v hv
  ·cases h
 | [],_,_::_,_,_,h,_,_,_,_,_,_=>by cases ‹List AV› <;> simp [scEqL] at h
 | [],_,[],_::_,_,h,_,_,_,_,_,_=>by simp [scEqL] at h
 | _::_,_,[],_,_,h,_,_,_,_,_,_=>by simp [scEqL] at h
 | _::_,_,_::_,[],_,h,_,_,_,_,_,_=>by simp [scEqL] at h
theorem Qni {kt:TypeId} {k:AV} {r:Bool} (h0:Xj P kt k k=some r) {kv:Value} (hk:Qa M ι kv k) (W:World):(Instr.keyThatStays kv kv).run P W=.ok kv W:=by
 have hs:Instr.sameBits 10000 kv kv=true:=by
  rcases Kv h0 with ⟨q,kk,n,m,_,rfl,_,_⟩ | ⟨ks,as,bs,_,hall,rfl,e,hsc⟩
  ·cases hk; simp [Instr.sameBits]
  ·cases e
   cases hk with
   | agg cs _ h1 hc1 r1 =>
   obtain ⟨_,hall2⟩:=Qhw hall hsc (cs:=cs.toList) (cs':=cs.toList) (by simpa using h1) (by simpa using h1) (fun j v y hv hy=>r1 j v y (by simpa using hv) hy) (fun j v y hv hy=>r1 j v y (by simpa using hv) hy)
   rw [show (10000:Nat)=9999+1 from rfl]
   simp only [Instr.sameBits,beq_self_eq_true,Bool.true_and,List.all_eq_true]
   intro p hp
   have:p.1=p.2∧p.1∈cs.toList:=by
    obtain ⟨j,hj⟩:=List.mem_iff_getElem?.1 hp
    rw [List.getElem?_zip_eq_some] at hj
    have e:=hj.1.symm.trans hj.2
    cases e2:p with
    | mk a b=>rw [e2] at hj e; simp at e; exact ⟨by simpa using e,List.mem_of_getElem? hj.1⟩
   rw [←this.1]
   exact hall2 _ this.2
 simp [Instr.keyThatStays,hs]
theorem Quu {kt:TypeId} {k k0:AV} {r:Bool} (h:Xj P kt k k0=some r) {kv kv0:Value} (hk:Qa M ι kv k) (hk0:Qa M ι kv0 k0) (W:World):(Op.equal kt kv kv0).run P W=.ok r W∧(r=true→kv=kv0):=by
 rcases Kv h with ⟨q,kk,n,m,hq,rfl,rfl,rfl⟩ | ⟨ks,as,bs,he,hall,rfl,rfl,hsc⟩
 ·cases hk; cases hk0
  refine ⟨?_,fun e=>by rw [of_decide_eq_true e]⟩
  rw [Qlu]
  exact run_equalIn_int W 9999 kt _ _ _ _ hq
 ·obtain ⟨e1,_⟩:=Qjr he hsc hk hk0 9998 W
  refine ⟨by rw [Qlu]; exact e1,?_⟩
  cases hk with
  | agg cs _ h1 hc1 r1 =>
  cases hk0 with
  | agg cs' _ h2 hc2 r2 =>
  obtain ⟨g,_⟩:=Qhw hall hsc (cs:=cs.toList) (cs':=cs'.toList) (by simpa using h1) (by simpa using h2) (fun j v y hv hy=>r1 j v y (by simpa using hv) hy) (fun j v y hv hy=>r2 j v y (by simpa using hv) hy)
  intro e
  rw [Array.toList_inj.1 (g e)]
theorem Qe7 {t:TypeId} {k:SK} (hk:Jf P t=some k) (e:Bool) (d:Nat) (v:Value) (W:World):(Instr.checkKey e (d+1) t v).run P W=.ok () W:=by
 unfold Jf at hk
 split at hk <;> first | (cases hk; done) | skip
 all_goals (rename_i hd; cases v <;> simp [Instr.checkKey,run_underlying hd])
theorem Qjy {W:World} {b:Field→PUnit→Sem (ForInStep PUnit)} (N:Nat) (hb:∀f k,f.name ≠ "_" → Jf P f.type=some k→f.offset < N→(b f PUnit.unit).run P W=.ok (.yield PUnit.unit) W):∀(fs:List Field) (i:Nat) (ks:List SK),J6 P i fs=some ks→i+ks.length=N →
  (forIn fs PUnit.unit b).run P W=.ok PUnit.unit W
 | [],i,ks,_,_=>by simp
 | f::fs,i,ks,h,hl=>by
  simp only [J6] at h
  split at h
  ·rename_i hf
   simp only [Bool.and_eq_true,bne_iff_ne,ne_eq,beq_iff_eq] at hf
   split at h
   ·rename_i k ks' h1 h2
    cases h
    simp only [List.length_cons] at hl
    have ih:=Qjy N hb fs (i+1) ks' h2 (by omega)
    simp only [List.forIn_cons,Sem.run_bind,hb f k hf.1 h1 (by omega),Result.andThen_ok]
    exact ih
   ·cases h
  ·cases h
theorem Qnd:∀{ks:List SK} {as bs:List AV} {r:Bool},scEqL ks as bs=some r→as.length=ks.length
 | [],[],[],_,_=>rfl
 | k::ks,a::as,b::bs,r,h=>by
  simp only [scEqL] at h
  split at h
  ·rename_i e2; simp [Qnd e2]
  ·cases h
 | [],_::_,_,_,h=>by cases ‹List AV› <;> simp [scEqL] at h
 | [],[],_::_,_,h=>by simp [scEqL] at h
 | _::_,[],_,_,h=>by simp [scEqL] at h
 | _::_,_::_,[],_,h=>by simp [scEqL] at h
theorem Qaw {kt:TypeId} {k k0:AV} {r:Bool} (h:Xj P kt k k0=some r) {kv:Value} (hk:Qa M ι kv k) (e:Bool) (W:World):(Instr.checkKey e 10000 kt kv).run P W=.ok () W:=by
 rcases Kv h with ⟨q,kk,n,m,hq,rfl,rfl,rfl⟩ | ⟨ks,as,bs,he,hall,rfl,rfl,hsc⟩
 ·exact Qe7 (k:=.int) (by simp [Jf,hq]) e 9999 kv W
 ·have hal:=Qnd hsc
  cases hk with
  | agg cs _ h1 hc1 r1 =>
  unfold eqT at he
  split at he
  ·cases he
  split at he
  ·rename_i fs hd
   split at he
   ·cases he
   ·rw [show (10000:Nat)=9998+1+1 from rfl,Instr.checkKey]
    simp only [Sem.run_bind,run_underlying hd,Result.andThen_ok]
    rw [←Array.forIn_toList]
    rw [Qjy cs.size (fun f k hf hk ho=>?_) fs.toList 0 ks he (by omega)]
    ·rfl
    ·have hp:=V6 hk (Array.getElem?_eq_getElem ho) W
     simp [hf,hp,Qe7 hk]
  ·rename_i n el hd
   split at he
   ·rename_i hce
    cases hks:Jf P el with
    | none=>simp [hks] at he
    | some k =>
    simp [hks] at he
    subst he
    have hce':P.cellsOf el=1:=by simpa using hce
    cases hi:P.info? el with
    | none=>simp [Program.cellsOf,hi] at hce'
    | some i =>
    have hsz:i.size=1:=by simpa [Program.cellsOf,hi] using hce'
    have hn:cs.size=n:=by rw [h1,hal]; simp
    rw [show (10000:Nat)=9998+1+1 from rfl,Instr.checkKey]
    simp only [Sem.run_bind,run_underlying hd,Result.andThen_ok]
    simp only [Std.Legacy.Range.forIn_eq_forIn_range',Std.Legacy.Range.size,Nat.sub_zero,Nat.add_one_sub_one,Nat.div_one]
    have each:∀j∈List.range' 0 n,j < cs.size:=fun j hj=>by rw [List.mem_range'_1] at hj; omega
    generalize List.range' 0 n=is at each
    induction is with
    | nil=>simp
    | cons j is ih =>
     have hp:=V6 hks (Array.getElem?_eq_getElem (each j (by simp))) W
     simp only [List.forIn_cons,Sem.run_bind,run_sizeOf W hi,Result.andThen_ok,hsz,hce',Nat.mul_one,hp,Qe7 hks,Sem.run_pure]
     exact ih (fun y hy=>each y (by simp [hy]))
   ·cases he
  ·cases he
end
end Go.Ab
namespace Go.Ab
open Go.RowKit
def Xx (M:CM) (ι:Inj):List Value→List (AV × AV)→Prop
 | [],[]=>True
 | a::b::l,(k,v)::r=>Qa M ι a k∧Qa M ι b v∧Xx M ι l r
 | _,_=>False
section
variable {P:Program} {nf:Bool} {C:FuncId→List AV→Option Z2} {B:Nat} {W0 W W':World} {D:List Nat} {M:CM} {ι:Inj} {σ:Sto} {s:Slots} {a:Act} {fr:Nat} {o:Oper} {res:Res}
theorem Qe3:∀{es:List (AV × AV)} {i t:Nat} {x:AV},lk (Xg i es) t=some x→i≤t
 | [],i,t,x,h=>by cases h
 | (k,v)::r,i,t,x,h=>by
  simp only [Xg,lk] at h
  split at h
  ·rename_i e; exact Nat.le_of_eq (Nat.eq_of_beq_eq_true e)
  ·split at h
   ·rename_i e; have:=Nat.eq_of_beq_eq_true e; omega
   ·have:=Qe3 h; omega
theorem Qqk {a b:Nat} (h:a≠b):Nat.beq a b=false:=by
 cases e:Nat.beq a b with
 | false=>rfl
 | true=>exact absurd (Nat.eq_of_beq_eq_true e) h
theorem Qrm:∀(es:List (AV × AV)) (l:List Value) (i:Nat),l.length=2*es.length→(∀t x,lk (Xg i es) t=some x→Qa M ι ((l[t - i]?).getD undef) x)→Xx M ι l es
 | [],[],_,_,_=>trivial
 | [],_::_,_,h,_=>by simp at h
 | (k,v)::r,[],_,h,_=>by simp at h
 | (k,v)::r,[_],_,h,_=>by simp at h; omega
 | (k,v)::r,a::b::l,i,h,H=>by
  refine ⟨?_,?_,Qrm r l (i+2) (by simp at h; omega) fun t x hx=>?_⟩
  ·have:=H i k (by simp [Xg,lk])
   simpa using this
  ·have:=H (i+1) v (by simp [Xg,lk,Qqk (show i≠i+1 by omega)])
   simpa using this
  ·have hge:=Qe3 hx
   have:=H t x (by simp only [Xg,lk,Qqk (show i≠t by omega),Qqk (show i+1≠t by omega)]; simpa using hx)
   have e:t - i=(t - (i+2))+2:=by omega
   rw [e] at this
   simpa using this
theorem K7:∀(es:List (AV × AV)) (l:List Value) (i:Nat),Xx M ι l es→∀t x,lk (Xg i es) t=some x→Qa M ι ((l[t - i]?).getD undef) x
 | [],_,_,_,t,x,hx=>by cases hx
 | (k,v)::r,[],_,h,_,_,_=>h.elim
 | (k,v)::r,[_],_,h,_,_,_=>h.elim
 | (k,v)::r,a::b::l,i,h,t,x,hx=>by
  simp only [Xg,lk] at hx
  split at hx
  ·rename_i e; have:=Nat.eq_of_beq_eq_true e; subst this; cases hx; simpa using h.1
  ·split at hx
   ·rename_i e; have:=Nat.eq_of_beq_eq_true e; subst this; cases hx
    have e1:i+1 - i=1:=by omega
    rw [e1]; simpa using h.2.1
   ·have hge:=Qe3 hx
    have:=K7 r l (i+2) h.2.2 t x hx
    have e:t - i=(t - (i+2))+2:=by omega
    rw [e]; simpa using this
theorem Qpf {kv vv:Value} {k v:AV} (hk:Qa M ι kv k) (hv:Qa M ι vv v):∀{l:List Value} {es:List (AV × AV)} (j:Nat),Xx M ι l es→Xx M ι ((l.set (2*j) kv).set (2*j+1) vv) (es.set j (k,v))
 | [],[],j,_=>by simp [Xx]
 | a::b::l,(k0,v0)::r,0,h=>by simpa [Xx] using ⟨hk,hv,h.2.2⟩
 | a::b::l,(k0,v0)::r,j+1,h=>by
  have:=Qpf hk hv j h.2.2
  have e:2*(j+1)=2*j+1+1:=by omega
  simp only [e,List.set_cons_succ,Xx]
  exact ⟨h.1,h.2.1,this⟩
 | [],_::_,_,h=>h.elim
 | [_],_,_,h=>by cases ‹List (AV × AV)› <;> exact h.elim
 | _::_::_,[],_,h=>h.elim
theorem Qhn {kv vv:Value} {k v:AV} (hk:Qa M ι kv k) (hv:Qa M ι vv v):∀{l:List Value} {es:List (AV × AV)},Xx M ι l es→Xx M ι (l++[kv,vv]) (es++[(k,v)])
 | [],[],_=>⟨hk,hv,trivial⟩
 | a::b::l,(k0,v0)::r,h=>⟨h.1,h.2.1,Qhn hk hv h.2.2⟩
 | [],_::_,h=>h.elim
 | [_],_,h=>by cases ‹List (AV × AV)› <;> exact h.elim
 | _::_::_,[],h=>h.elim
theorem Qnj {kv vv:Value}:∀{l:List Value} {es:List (AV × AV)} (j b:Nat),Xx M ι l es→pairsOf ((l.set (2*j) kv).set (2*j+1) vv) b=(pairsOf l b).modify j fun e=>{ e with key:=kv,val:=vv }
 | [],[],j,b,_=>by simp [pairsOf]
 | x::y::l,(k0,v0)::r,0,b,h=>by simp [pairsOf]
 | x::y::l,(k0,v0)::r,j+1,b,h=>by
  have:=Qnj (kv:=kv) (vv:=vv) j (b+1) h.2.2
  have e:2*(j+1)=2*j+1+1:=by omega
  simp only [e,List.set_cons_succ,pairsOf,this,List.modify_succ_cons]
 | [],_::_,_,_,h=>h.elim
 | [_],_,_,_,h=>by cases ‹List (AV × AV)› <;> exact h.elim
 | _::_::_,[],_,_,h=>h.elim
theorem Qg4 {kv vv:Value}:∀{l:List Value} {es:List (AV × AV)} (b:Nat),Xx M ι l es→pairsOf (l++[kv,vv]) b=pairsOf l b++[{ key:=kv,val:=vv,born:=b+es.length }]
 | [],[],b,_=>by simp [pairsOf]
 | x::y::l,(k0,v0)::r,b,h=>by
  have:=Qg4 (kv:=kv) (vv:=vv) (b+1) h.2.2
  simp only [List.cons_append,pairsOf,this,List.length_cons]
  congr 4; omega
 | [],_::_,_,h=>h.elim
 | [_],_,_,h=>by cases ‹List (AV × AV)› <;> exact h.elim
 | _::_::_,[],_,h=>h.elim
theorem Qov {kt:TypeId} {q:IntKind} (hq:P.underlying kt=some (.int q)) {kv:Value} {k:AV} (hk:Qa M ι kv k):∀(es:List (AV × AV)) (l:List Value) (b i:Nat) (r:Option (Nat × AV)),Xx M ι l es→Yz (Xj P kt) k es i=some r →
  (r=none∧Instr.findNow (.int q) kv (pairsOf l b) i=some none)∨∃j v w,r=some (i+j,v)∧Instr.findNow (.int q) kv (pairsOf l b) i=some (some (i+j,w))∧Qa M ι w v∧((pairsOf l b)[j]?).map (·.key)=some kv
 | [],[],b,i,r,_,h=>by cases h; exact .inl ⟨rfl,rfl⟩
 | (k0,v0)::es,x::y::l,b,i,r,hp,h=>by
  unfold Yz at h
  cases hc:Xj P kt k k0 with
  | none=>rw [hc] at h; cases h
  | some c =>
   rw [hc] at h
   rcases Kv hc with ⟨q',kk,n,m,hq',rfl,rfl,rfl⟩ | ⟨ks,as,bs,he,_⟩
   rotate_left
   ·exact absurd he (by simp [eqT,hq])
   have h0:=hp.1
   cases hk with
   | int =>
   cases h0 with
   | int =>
   by_cases e:n=m
   ·subst e
    simp only [beq_self_eq_true] at h
    cases h
    exact .inr ⟨0,v0,y,rfl,by simp [pairsOf,Instr.findNow,Instr.sameNow],hp.2.1,by simp [pairsOf]⟩
   ·have e':(n==m)=false:=by simpa using e
    rw [e'] at h
    simp only at h
    rcases Qov hq (.int kk n) es l (b+1) (i+1) r hp.2.2 h with ⟨h1,h2⟩ | ⟨j,v,w,h1,h2,h3,h4⟩
    ·exact .inl ⟨h1,by simp [pairsOf,Instr.findNow,Instr.sameNow,e',h2]⟩
    ·refine .inr ⟨j+1,v,w,by rw [h1]; congr 2; omega,?_,h3,by simpa [pairsOf] using h4⟩
     simp only [pairsOf,Instr.findNow,Instr.sameNow,if_true,e',h2]
     congr 3; omega
 | [],_::_,_,_,_,hp,_=>by cases ‹List Value› <;> exact hp.elim
 | _::_,[],_,_,_,hp,_=>hp.elim
 | _::_,[_],_,_,_,hp,_=>hp.elim
theorem Qot {kt:TypeId} {kv:Value} {k:AV} (hk:Qa M ι kv k) (W:World):∀(es:List (AV × AV)) (l:List Value) (b i:Nat) (r:Option (Nat × AV)),Xx M ι l es→Yz (Xj P kt) k es i=some r →
  (r=none∧(Instr.findAsking kt kv (pairsOf l b) i).run P W=.ok none W)∨∃j v w,r=some (i+j,v)∧(Instr.findAsking kt kv (pairsOf l b) i).run P W=.ok (some (i+j,w)) W∧Qa M ι w v∧((pairsOf l b)[j]?).map (·.key)=some kv
 | [],[],b,i,r,_,h=>by cases h; exact .inl ⟨rfl,by simp [pairsOf,Instr.findAsking]⟩
 | (k0,v0)::es,x::y::l,b,i,r,hp,h=>by
  unfold Yz at h
  cases hc:Xj P kt k k0 with
  | none=>rw [hc] at h; cases h
  | some c =>
   rw [hc] at h
   obtain ⟨e1,e2⟩:=Quu hc hk hp.1 W
   cases c with
   | true =>
    simp only at h
    cases h
    refine .inr ⟨0,v0,y,rfl,by simp [pairsOf,Instr.findAsking,e1],hp.2.1,by simp [pairsOf,e2 rfl]⟩
   | false =>
    simp only at h
    rcases Qot hk W es l (b+1) (i+1) r hp.2.2 h with ⟨h1,h2⟩ | ⟨j,v,w,h1,h2,h3,h4⟩
    ·exact .inl ⟨h1,by simp [pairsOf,Instr.findAsking,e1,h2]⟩
    ·refine .inr ⟨j+1,v,w,by rw [h1]; congr 2; omega,?_,h3,by simpa [pairsOf] using h4⟩
     simp only [pairsOf,Instr.findAsking,Sem.run_bind,e1,Result.andThen_ok]
     simp only [Bool.false_eq_true,if_false,h2]
     congr 3; omega
 | [],_::_,_,_,_,hp,_=>by cases ‹List Value› <;> exact hp.elim
 | _::_,[],_,_,_,hp,_=>hp.elim
 | _::_,[_],_,_,_,hp,_=>hp.elim
theorem Qby {kt:TypeId} {kv:Value} {k:AV} {r0:Bool} (h0:Xj P kt k k=some r0) (hk:Qa M ι kv k) (W:World) {es:List (AV × AV)} {l:List Value} {r:Option (Nat × AV)} (hp:Xx M ι l es) (h:Yz (Xj P kt) k es 0=some r) :
  (r=none∧(Instr.findKey kt kv (pairsOf l 0)).run P W=.ok none W)∨∃j v w,r=some (j,v)∧(Instr.findKey kt kv (pairsOf l 0)).run P W=.ok (some (j,w)) W∧Qa M ι w v∧((pairsOf l 0)[j]?).map (·.key)=some kv:=by
 rcases Kv h0 with ⟨q,kk,n,m,hq,rfl,_,_⟩ | ⟨ks,as,bs,he,_,_,_,_⟩
 ·rcases Qov hq hk es l 0 0 r hp h with ⟨h1,h2⟩ | ⟨j,v,w,h1,h2,h3,h4⟩
  ·exact .inl ⟨h1,by simp [Instr.findKey,run_underlying hq,h2]⟩
  ·rw [Nat.zero_add] at h1 h2
   exact .inr ⟨j,v,w,h1,by simp [Instr.findKey,run_underlying hq,h2],h3,h4⟩
 ·have hw:(match P.underlying kt with | some (.array _ _) | some (.struct _)=>true | _=>false)=true:=by
   unfold eqT at he
   split at he
   ·cases he
   split at he
   ·rename_i hd; rw [hd]
   ·rename_i hd; rw [hd]
   ·cases he
  rcases Qot hk W es l 0 0 r hp h with ⟨h1,h2⟩ | ⟨j,v,w,h1,h2,h3,h4⟩
  ·exact .inl ⟨h1,by rw [run_findKey_eq W hw]; exact h2⟩
  ·rw [Nat.zero_add] at h1 h2
   exact .inr ⟨j,v,w,h1,by rw [run_findKey_eq W hw]; exact h2,h3,h4⟩
theorem Qh1:∀{sl:List (Nat × AV)} {i:Nat} {es:List (AV × AV)},Qb3 i sl=some es→sl=Xg i es
 | [],i,es,h=>by cases h; rfl
 | [_],i,es,h=>by cases h
 | (a,k)::(b,v)::r,i,es,h=>by
  unfold Qb3 at h
  split at h
  ·rename_i hc
   simp only [Bool.and_eq_true] at hc
   have h1:=Nat.eq_of_beq_eq_true hc.1
   have h2:=Nat.eq_of_beq_eq_true hc.2
   subst h1; subst h2
   cases hr:Qb3 (a+2) r with
   | none=>rw [hr] at h; cases h
   | some es'=>rw [hr] at h; cases h; rw [Qh1 hr]; rfl
  ·cases h
theorem Qdd {x:AObj} {es:List (AV × AV)} (h:Qa6 x=some es):x=mapO es:=by
 unfold Qa6 at h
 split at h
 ·rename_i nt sl
  split at h
  ·rename_i es' hes
   split at h
   ·rename_i hc
    cases h
    rw [Qh1 hes,Nat.eq_of_beq_eq_true hc]
    rfl
   ·cases h
  ·cases h
 ·cases h
theorem Rel.map (h:Rel P B W0 D M ι σ W) {o:Nat} {es:List (AV × AV)} (ho:σ o=some (mapO es)):∃p fn tmps,ι o=some p∧B≤p.blk∧tmps.size=2*es.length ∧
  W.heap[p.blk]?=some (.map (pairsOf tmps.toList 0).toArray (tmps.size / 2))∧Xx M ι tmps.toList es ∧
  W.heap[p.blk]?=some (Qag { state:=.exhausted,pending:=none,fn,tmps,params:=#[],assign:=.skip,body:=.skip,defers:=p.base }):=by
 obtain ⟨p,fn,hp,_,hB,tmps,hsz,hrec,hsl⟩:=h.loop o _ _ _ _ _ _ _ ho
 refine ⟨p,fn,tmps,hp,hB,hsz,hrec,?_,hrec⟩
 refine Qrm es tmps.toList 0 (by simpa using hsz) fun t x hx=>?_
 have:=hsl t x hx
 simpa [Array.getD_eq_getD_getElem?] using this
theorem Qp6 (h:Rel P B W0 D M ι σ W) (hfr:∀k,fr≤k→k < res.fr→ι k=none) {t:TypeId} {r:Option Operand} (ho:o.op=.makeMap t r) (he:evalOp P nf C σ fr s o=some (.val res)):Q8 P B W0 D M ι σ fr a o W res:=by
 unfold evalOp at he
 rw [ho] at he
 cases r with
 | some r=>cases he
 | none =>
  cases he
  have hn:=hfr fr (Nat.le_refl _) (by simp)
  have hrel:=h.allocRec hn (fn:=0) (nt:=0) (tmps:=#[]) rfl (sl:=[]) (fun t x hx=>by cases hx) #[] .skip .skip 0 .exhausted none
  refine ⟨.map (some W.heap.size),W.alloc (.map #[] 0),M,ι.put fr ⟨W.heap.size,0,0,0⟩,.inl ?_,.refl _ _,Inj.le_put _ hn,fun k hk=>?_,hrel,fun x hx=>?_⟩
  ·simp [execOp,ho,Instr.makeMap]
  ·exact Inj.put_ne _ _ (by simp at hk; omega)
  ·cases hx
   exact Qa.mp fr _ (Inj.put_same _ _ _)
theorem Qmk {t:TypeId} {T:TI} {kt et:TypeId} (ht:ti P t=some T) (hk:T.kind=.map kt et):P.underlying t=some (.map kt et):=by
 obtain ⟨d,i,h1,h2,h3,_⟩:=Zq ht
 rw [h3] at hk
 rw [h1]
 cases d <;> simp [Ym] at hk
 obtain ⟨rfl,rfl⟩:=hk
 rfl
theorem Yw {r:Nat} {es:Array MapEntry} {clock:Nat} (hb:W.heap[r]?=some (.map es clock)):(getObj r).run P W=.ok (.map es clock) W:=by
 simp [getObj,Sem.run,hb]
theorem Qbb {r:Nat} {es:Array MapEntry} {clock:Nat} (x:Obj) (hb:W.heap[r]?=some (.map es clock)):(setObj r x).run P W=.ok () (W.putObj r x):=by
 simp [setObj,Sem.run,hb,World.putObj]
theorem Qrb (h:Rel P B W0 D M ι σ W) (hs:Qg M ι s a.tmps) {t:TypeId} {x ix:Operand} {c:Bool} (ho:o.op=.lookup t x ix c) (he:evalOp P nf C σ fr s o=some (.val res)):Q8 P B W0 D M ι σ fr a o W res:=by
 unfold evalOp at he
 rw [ho] at he
 simp only at he
 unfold Qdu at he
 split at he <;> first | (cases he; done) | skip
 rename_i T ob k hT hx hix
 split at he <;> first | (cases he; done) | skip
 rename_i kt et es hkind hes
 have hu:=Qmk hT hkind
 cases hσ:σ ob with
 | none=>rw [hσ] at hes; cases hes
 | some y =>
 rw [hσ] at hes
 have hy:=Qdd hes
 subst hy
 obtain ⟨p,fn,tmps,hp,hB,hsz,hblk,hprep,_⟩:=h.map hσ
 have vx:=Qe hs hx
 have vk:=Qe hs hix
 generalize hxe:a.eval x=xv at vx
 generalize hke:a.eval ix=kv at vk
 cases vx with
 | mp _ p' hp' =>
 rw [hp] at hp'; cases hp'
 split at he <;> first | (cases he; done) | skip
 ·rename_i r0 i0 v hk0 hf
  split at he <;> first | (cases he; done) | skip
  cases he
  rcases Qby hk0 vk W hprep hf with ⟨h1,_⟩ | ⟨j,v',w,h1,hfk,h3,_⟩
  ·cases h1
  ·cases h1
   have hck:=fun e=>Qaw hk0 vk e W
   cases c with
   | false =>
    refine Ql h (v:=w) ?_ h3
    simp [execOp,ho,hxe,hke,Instr.lookup,run_underlying hu,Yw hblk,hck,hfk]
   | true =>
    refine Ql h (v:=.tuple #[w,.bool true]) ?_ (.tup _ _ (by simp) fun j x y hx hy=>?_)
    ·simp [execOp,ho,hxe,hke,Instr.lookup,run_underlying hu,Yw hblk,hck,hfk]
    ·match j with
     | 0=>cases hx; cases hy; exact h3
     | 1=>cases hx; cases hy; exact .bool true
     | j+2=>simp at hx
 ·rename_i r0 z hk0 hf hz
  split at he <;> first | (cases he; done) | skip
  cases he
  rcases Qby hk0 vk W hprep hf with ⟨_,hfk⟩ | ⟨j,v',w,h1,_⟩
  ·have hck:=fun e=>Qaw hk0 vk e W
   cases hE:ti P et with
   | none=>rw [hE] at hz; cases hz
   | some E =>
    rw [hE] at hz
    obtain ⟨i,zv,g1,g2,g3,grep,gsh⟩:=Qau hE hz
    have hzr:=Y3 (W:=W) g1 g2
    cases c with
    | false =>
     refine Ql h (v:=zv) ?_ (grep M ι)
     simp [execOp,ho,hxe,hke,Instr.lookup,run_underlying hu,Yw hblk,hck,hfk,hzr]
    | true =>
     refine Ql h (v:=.tuple #[zv,.bool false]) ?_ (.tup _ _ (by simp) fun j x y hx hy=>?_)
     ·simp [execOp,ho,hxe,hke,Instr.lookup,run_underlying hu,Yw hblk,hck,hfk,hzr]
     ·match j with
      | 0=>cases hx; cases hy; exact grep M ι
      | 1=>cases hx; cases hy; exact .bool false
      | j+2=>simp at hx
  ·cases h1
theorem Qfy (h:Rel P B W0 D M ι σ W) (hs:Qg M ι s a.tmps) {t:TypeId} {m x y:Operand} (ho:o.op=.mapUpdate t m x y∨o.op=.insert t m x y) (he:evalOp P nf C σ fr s o=some (.val res)):Q8 P B W0 D M ι σ fr a o W res:=by
 have he:Qes P σ fr s t m x y=some (.val res):=by rcases ho with ho | ho <;> (unfold evalOp at he; rw [ho] at he; exact he)
 have hex:execOp a.eval o=execOp a.eval { o with op:=.mapUpdate t m x y }:=by rcases ho with ho | ho <;> simp [execOp,ho]
 unfold Qes at he
 split at he <;> first | (cases he; done) | skip
 rename_i T ob k v hT hm hx hy
 split at he <;> first | (cases he; done) | skip
 rename_i kt et es hkind hes
 have hu:=Qmk hT hkind
 cases hσ:σ ob with
 | none=>rw [hσ] at hes; cases hes
 | some z =>
 rw [hσ] at hes
 have hz:=Qdd hes
 subst hz
 obtain ⟨p,fn,tmps,hp,hB,hsz,hblk,hprep,hrec⟩:=h.map hσ
 have vm:=Qe hs hm
 have vk:=Qe hs hx
 have vv:=Qe hs hy
 generalize hme:a.eval m=mv at vm
 generalize hke:a.eval x=kv at vk
 generalize hve:a.eval y=vv' at vv
 cases vm with
 | mp _ p' hp' =>
 rw [hp] at hp'; cases hp'
 have fin:∀(tm:Array Value) (es':List (AV × AV)),tm.size=2*es'.length→Xx M ι tm.toList es'→(Instr.mapUpdate t (.map (some p.blk)) kv vv').run P W=.ok () (W.putObj p.blk (.map (pairsOf tm.toList 0).toArray (tm.size / 2))) →
   Q8 P B W0 D M ι σ fr a o W ⟨none,[(ob,mapO es')],fr,[ob]⟩:=fun tm es' hs1 hp1 hr=>by
  refine ⟨undef,W.putObj p.blk (.map (pairsOf tm.toList 0).toArray (tm.size / 2)),M,ι,.inr ⟨?_,rfl⟩,.refl _ _,Inj.le_refl _,fun _ _=>rfl,?_,fun x hx=>by cases hx⟩
  ·rw [hex]; simp [execOp,hme,hke,hve,hr]
  ·refine h.setRec hσ hp (x:=mapO es') (ob:=.map (pairsOf tm.toList 0).toArray (tm.size / 2)) rfl (.inr ⟨_,_,_,_,_,_,_,fn,tm,rfl,rfl,hs1,fun t x hx=>?_⟩)
   have:=K7 es' tm.toList 0 hp1 t x hx
   simpa [Array.getD_eq_getD_getElem?] using this
 split at he <;> first | (cases he; done) | skip
 ·rename_i r0 i0 v0 hk0 hf
  cases he
  rcases Qby hk0 vk W hprep hf with ⟨h1,_⟩ | ⟨j,v',w,h1,hfk,h3,h4⟩
  ·cases h1
  ·cases h1
   cases hkk:(pairsOf tmps.toList 0)[i0]? with
   | none=>rw [hkk] at h4; cases h4
   | some e0 =>
    rw [hkk] at h4
    have h4:e0.key=kv:=by simpa using h4
    refine fin ⟨(tmps.toList.set (2*i0) kv).set (2*i0+1) vv'⟩ _ (by simp [hsz]) (Qpf vk vv i0 hprep) ?_
    have hps:=Qnj (kv:=kv) (vv:=vv') i0 0 hprep
    have hck:=fun e=>Qaw hk0 vk e W
    have hky:=Qni hk0 vk W
    simp [Instr.mapUpdate,run_underlying hu,Yw hblk,hck,hfk,hkk,h4,hky,Qbb _ hblk,World.putObj,hps]
 ·rename_i r0 hk0 hf
  cases he
  rcases Qby hk0 vk W hprep hf with ⟨_,hfk⟩ | ⟨j,v',w,h1,_⟩
  ·refine fin ⟨tmps.toList++[kv,vv']⟩ _ (by simp [hsz]; omega) (Qhn vk vv hprep) ?_
   have hps:=Qg4 (kv:=kv) (vv:=vv') 0 hprep
   have hck:=fun e=>Qaw hk0 vk e W
   have hc1:tmps.size / 2=es.length:=by omega
   have hc2:(tmps.size+2) / 2=es.length+1:=by omega
   simp [Instr.mapUpdate,run_underlying hu,Yw hblk,hck,hfk,Qbb _ hblk,World.putObj,hps,hc1,hc2]
  ·cases h1
theorem Qor : ∀{l:List Value} {es:List (AV × AV)} (j b:Nat) {k v:AV},Xx M ι l es→es[j]?=some (k,v)→∃kv vv,pairsOf l b=pairsOf l b∧(pairsOf l b)[j]?=some { key:=kv,val:=vv,born:=b+j }∧Qa M ι kv k∧Qa M ι vv v
 | [],[],j,b,k,v,_,h=>by simp at h
 | x::y::l,(k0,v0)::r,0,b,k,v,h,hj=>by
  simp at hj; obtain ⟨rfl,rfl⟩:=hj
  exact ⟨x,y,rfl,by simp [pairsOf],h.1,h.2.1⟩
 | x::y::l,(k0,v0)::r,j+1,b,k,v,h,hj=>by
  obtain ⟨kv,vv,_,h1,h2,h3⟩:=Qor j (b+1) h.2.2 (by simpa using hj)
  exact ⟨kv,vv,rfl,by simp only [pairsOf,List.getElem?_cons_succ,h1]; congr 2; omega,h2,h3⟩
 | [],_::_,_,_,_,_,h,_=>h.elim
 | [_],_,_,_,_,_,h,_=>by cases ‹List (AV × AV)› <;> exact h.elim
 | _::_::_,[],_,_,_,_,h,_=>h.elim
theorem Qlv:∀{l:List Value} {es:List (AV × AV)} (j b:Nat),Xx M ι l es→j < es.length→(pairsOf l b).findIdx? (fun e=>(e.born:Int)==((b+j:Nat):Int))=some j
 | [],[],j,b,_,h=>by simp at h
 | x::y::l,(k0,v0)::r,0,b,h,hj=>by simp [pairsOf,List.findIdx?_cons]
 | x::y::l,(k0,v0)::r,j+1,b,h,hj=>by
  have ih:=Qlv j (b+1) h.2.2 (by simpa using hj)
  rw [show b+1+j=b+(j+1) by omega] at ih
  simp only [pairsOf,List.findIdx?_cons,ih]
  rw [show ((b:Int)==((b+(j+1):Nat):Int))=false by simp; omega]
  simp
 | [],_::_,_,_,h,_=>h.elim
 | [_],_,_,_,h,_=>by cases ‹List (AV × AV)› <;> exact h.elim
 | _::_::_,[],_,_,h,_=>h.elim
theorem Qnf:∀{l:List Value} {es:List (AV × AV)} (j b:Nat) {vv:Value},Xx M ι l es→pairsOf (l.set (2*j+1) vv) b=(pairsOf l b).modify j fun e=>{ e with val:=vv }
 | [],[],j,b,_,_=>by simp [pairsOf]
 | x::y::l,(k0,v0)::r,0,b,_,h=>by simp [pairsOf]
 | x::y::l,(k0,v0)::r,j+1,b,vv,h=>by
  have:=Qnf (vv:=vv) j (b+1) h.2.2
  have e:2*(j+1)=2*j+1+1:=by omega
  simp only [e,List.set_cons_succ,pairsOf,this,List.modify_succ_cons]
 | [],_::_,_,_,_,h=>h.elim
 | [_],_,_,_,_,h=>by cases ‹List (AV × AV)› <;> exact h.elim
 | _::_::_,[],_,_,_,h=>h.elim
theorem Qnr:∀{l:List Value} {es:List (AV × AV)} (j b:Nat) {kv:Value},Xx M ι l es→pairsOf (l.set (2*j) kv) b=(pairsOf l b).modify j fun e=>{ e with key:=kv }
 | [],[],j,b,_,_=>by simp [pairsOf]
 | x::y::l,(k0,v0)::r,0,b,_,h=>by simp [pairsOf]
 | x::y::l,(k0,v0)::r,j+1,b,kv,h=>by
  have:=Qnr (kv:=kv) j (b+1) h.2.2
  have e:2*(j+1)=2*j+1+1:=by omega
  simp only [e,List.set_cons_succ,pairsOf,this,List.modify_succ_cons]
 | [],_::_,_,_,_,h=>h.elim
 | [_],_,_,_,_,h=>by cases ‹List (AV × AV)› <;> exact h.elim
 | _::_::_,[],_,_,_,h=>h.elim
theorem Qpk {kv:Value} {k v:AV} (hk:Qa M ι kv k):∀{l:List Value} {es:List (AV × AV)} (j:Nat) {k0:AV},Xx M ι l es→es[j]?=some (k0,v)→Xx M ι (l.set (2*j) kv) (es.set j (k,v))
 | [],[],j,_,_,h=>by simp at h
 | a::b::l,(k0,v0)::r,0,_,h,hj=>by simp at hj; obtain ⟨_,rfl⟩:=hj; simpa [Xx] using ⟨hk,h.2.1,h.2.2⟩
 | a::b::l,(k0,v0)::r,j+1,_,h,hj=>by
  have:=Qpk hk j h.2.2 (by simpa using hj)
  have e:2*(j+1)=2*j+1+1:=by omega
  simp only [e,List.set_cons_succ,Xx]
  exact ⟨h.1,h.2.1,this⟩
 | [],_::_,_,_,h,_=>h.elim
 | [_],_,_,_,h,_=>by cases ‹List (AV × AV)› <;> exact h.elim
 | _::_::_,[],_,_,h,_=>h.elim
theorem Qon {vv:Value} {k v:AV} (hv:Qa M ι vv v):∀{l:List Value} {es:List (AV × AV)} (j:Nat) {v0:AV},Xx M ι l es→es[j]?=some (k,v0)→Xx M ι (l.set (2*j+1) vv) (es.set j (k,v))
 | [],[],j,_,_,h=>by simp at h
 | a::b::l,(k0,v0)::r,0,_,h,hj=>by simp at hj; obtain ⟨rfl,_⟩:=hj; simpa [Xx] using ⟨h.1,hv,h.2.2⟩
 | a::b::l,(k0,v0)::r,j+1,_,h,hj=>by
  have:=Qon hv j h.2.2 (by simpa using hj)
  have e:2*(j+1)=2*j+1+1:=by omega
  simp only [e,List.set_cons_succ,Xx]
  exact ⟨h.1,h.2.1,this⟩
 | [],_::_,_,_,h,_=>h.elim
 | [_],_,_,_,h,_=>by cases ‹List (AV × AV)› <;> exact h.elim
 | _::_::_,[],_,_,h,_=>h.elim
theorem Qnw {eq:AV→AV→Option Bool} {k:AV}:∀{es:List (AV × AV)} {i j:Nat} {v:AV},Yz eq k es i=some (some (j,v))→∃q k0,j=i+q∧es[q]?=some (k0,v)
 | [],_,_,_,h=>by cases h
 | (a,x)::r,i,j,v,h=>by
  unfold Yz at h
  split at h
  ·cases h; exact ⟨0,a,rfl,rfl⟩
  ·obtain ⟨q,k0,h1,h2⟩:=Qnw h
   exact ⟨q+1,k0,by omega,by simpa using h2⟩
  ·cases h
theorem Qn7 (h:Rel P B W0 D M ι σ W) (hs:Qg M ι s a.tmps) {t:TypeId} {m x:Operand} (ho:o.op=.mapEntry t m x) (he:evalOp P nf C σ fr s o=some (.val res)):Q8 P B W0 D M ι σ fr a o W res:=by
 unfold evalOp at he
 rw [ho] at he
 simp only at he
 unfold Qfs at he
 split at he <;> first | (cases he; done) | skip
 rename_i T ob k hT hm hx
 split at he <;> first | (cases he; done) | skip
 rename_i kt et es hkind hes
 have hu:=Qmk hT hkind
 cases hσ:σ ob with
 | none=>rw [hσ] at hes; cases hes
 | some z =>
 rw [hσ] at hes
 have hz:=Qdd hes
 subst hz
 obtain ⟨p,fn,tmps,hp,hB,hsz,hblk,hprep,hrec⟩:=h.map hσ
 have vm:=Qe hs hm
 have vk:=Qe hs hx
 generalize hme:a.eval m=mv at vm
 generalize hke:a.eval x=kv at vk
 cases vm with
 | mp _ p' hp' =>
 rw [hp] at hp'; cases hp'
 have fin:∀(tm:Array Value) (es':List (AV × AV)) (u:AV) (w:Value) (i:Nat),tm.size=2*es'.length→Xx M ι tm.toList es'→Qa M ι w u→(Instr.mapEntry t (.map (some p.blk)) kv).run P W=.ok (.tuple #[w,goInt (i:Int)]) (W.putObj p.blk (.map (pairsOf tm.toList 0).toArray (tm.size / 2))) →
   Q8 P B W0 D M ι σ fr a o W ⟨some (.tup [u,.int .i64 (i:Int)]),[(ob,mapO es')],fr,[ob]⟩:=fun tm es' u w i hs1 hp1 hw hr=>by
  refine ⟨.tuple #[w,goInt (i:Int)],W.putObj p.blk (.map (pairsOf tm.toList 0).toArray (tm.size / 2)),M,ι,.inl ?_,.refl _ _,Inj.le_refl _,fun _ _=>rfl,?_,fun x hx=>?_⟩
  ·simp [execOp,ho,hme,hke,hr]
  ·refine h.setRec hσ hp (x:=mapO es') (ob:=.map (pairsOf tm.toList 0).toArray (tm.size / 2)) rfl (.inr ⟨_,_,_,_,_,_,_,fn,tm,rfl,rfl,hs1,fun t x hx=>?_⟩)
   have:=K7 es' tm.toList 0 hp1 t x hx
   simpa [Array.getD_eq_getD_getElem?] using this
  ·cases hx
   refine .tup _ _ (by simp) fun j x y hx hy=>?_
   match j with
   | 0=>cases hx; cases hy; exact hw
   | 1=>cases hx; cases hy; exact .int .i64 _
   | j+2=>simp at hx
 split at he <;> first | (cases he; done) | skip
 ·rename_i r0 i0 v0 hk0 hf
  split at he <;> first | (cases he; done) | skip
  cases he
  obtain ⟨q,k1,hq,hget⟩:=Qnw hf
  simp only [Nat.zero_add] at hq
  subst hq
  rcases Qby hk0 vk W hprep hf with ⟨h1,_⟩ | ⟨j,v',w,h1,hfk,h3,h4⟩
  ·cases h1
  ·cases h1
   obtain ⟨kv1,vv1,_,hat,_,_⟩:=Qor i0 0 hprep hget
   rw [hat] at h4
   have h4:kv1=kv:=by simpa using h4
   subst h4
   refine fin ⟨tmps.toList.set (2*i0) kv1⟩ _ _ w i0 (by simp [hsz]) (Qpk vk i0 hprep hget) h3 ?_
   have hps:=Qnr (kv:=kv1) i0 0 hprep
   have hck:=fun e=>Qaw hk0 vk e W
   have hky:=Qni hk0 vk W
   simp [Instr.mapEntry,run_underlying hu,Yw hblk,hck,hfk,hat,hky,Qbb _ hblk,World.putObj,hps]
 ·rename_i r0 z hk0 hf hz
  split at he <;> first | (cases he; done) | skip
  cases he
  rcases Qby hk0 vk W hprep hf with ⟨_,hfk⟩ | ⟨j,v',w,h1,_⟩
  ·cases hE:ti P et with
   | none=>rw [hE] at hz; cases hz
   | some E =>
    rw [hE] at hz
    obtain ⟨i,zv,g1,g2,g3,grep,gsh⟩:=Qau hE hz
    have hzr:=Y3 (W:=W) g1 g2
    refine fin ⟨tmps.toList++[kv,zv]⟩ _ _ zv es.length (by simp [hsz]; omega) (Qhn vk (grep M ι) hprep) (grep M ι) ?_
    have hps:=Qg4 (kv:=kv) (vv:=zv) 0 hprep
    have hck:=fun e=>Qaw hk0 vk e W
    have hc1:tmps.size / 2=es.length:=by omega
    have hc2:(tmps.size+2) / 2=es.length+1:=by omega
    simp [Instr.mapEntry,run_underlying hu,Yw hblk,hck,hfk,hzr,Qbb _ hblk,World.putObj,hps,hc1,hc2]
  ·cases h1
theorem Qk6 (h:Rel P B W0 D M ι σ W) (hs:Qg M ι s a.tmps) {t:TypeId} {m x y:Operand} (ho:o.op=.entryStore t m x y) (he:evalOp P nf C σ fr s o=some (.val res)):Q8 P B W0 D M ι σ fr a o W res:=by
 unfold evalOp at he
 rw [ho] at he
 simp only at he
 unfold Qee at he
 split at he <;> first | (cases he; done) | skip
 rename_i ob i v hm hx hy
 split at he <;> first | (cases he; done) | skip
 rename_i es hes
 split at he <;> first | (cases he; done) | skip
 rename_i k v0 hget
 cases he
 cases hσ:σ ob with
 | none=>rw [hσ] at hes; cases hes
 | some z =>
 rw [hσ] at hes
 have hz:=Qdd hes
 subst hz
 obtain ⟨p,fn,tmps,hp,hB,hsz,hblk,hprep,hrec⟩:=h.map hσ
 have vm:=Qe hs hm
 have vk:=Qe hs hx
 have vv:=Qe hs hy
 generalize hme:a.eval m=mv at vm
 generalize hke:a.eval x=kv at vk
 generalize hve:a.eval y=vv' at vv
 cases vm with
 | mp _ p' hp' =>
 cases vk with
 | int =>
 rw [hp] at hp'; cases hp'
 have hlt:i < es.length:=(List.getElem?_eq_some_iff.1 hget).1
 have hfi:=Qlv i 0 hprep hlt
 rw [Nat.zero_add] at hfi
 have hps:=Qnf (vv:=vv') i 0 hprep
 refine ⟨undef,W.putObj p.blk (.map (pairsOf (tmps.toList.set (2*i+1) vv') 0).toArray (tmps.size / 2)),M,ι,.inr ⟨?_,rfl⟩,.refl _ _,Inj.le_refl _,fun _ _=>rfl,?_,fun x hx=>by cases hx⟩
 ·simp [execOp,ho,hme,hke,hve,Instr.entryStore,Yw hblk,asInt,asIntOf,hfi,Qbb _ hblk,World.putObj,hps]
 ·refine h.setRec hσ hp (x:=mapO (es.set i (k,v))) (ob:=.map (pairsOf (tmps.toList.set (2*i+1) vv') 0).toArray (tmps.size / 2)) rfl (.inr ⟨_,_,_,_,_,_,_,fn,⟨tmps.toList.set (2*i+1) vv'⟩,rfl,?_,by simp [hsz],fun t x hx=>?_⟩)
  ·simp [Qag]
  ·have:=K7 _ _ 0 (Qon vv i hprep hget) t x hx
   simpa [Array.getD_eq_getD_getElem?] using this
end
end Go.Ab
namespace Go.Ab
open Go.RowKit
def FW (r:Option Nat):Fence:={ Fence.wide with round:=r }
section
variable {P:Program} {nf:Bool} {C:FuncId→List AV→Option Z2} {B:Nat} {W0 W W':World} {D:List Nat} {M:CM} {ι:Inj} {σ:Sto} {s:Slots} {a:Act} {fr:Nat} {o:Oper} {res:Res}
theorem Qgd {r:Option Nat} {n:Nat} {f:FuncId} {args:Array Value} {R:Ending→World→Prop} (h:Calls P f args W R):CallsIn (FW r) n P f args W R:=by
 have h1:CallsIn Fence.wide n P f args W R:=callsIn_wide.2 h
 cases r with
 | none=>exact h1
 | some l=>exact h1
theorem Qc7 (k:Nat):∀(xs:List AV),AV.shiftL k xs=xs.map (AV.shift k)
 | []=>rfl
 | x::xs=>by simp [AV.shiftL,Qc7 k xs]
theorem AV.cell_shift (k:Nat) (x:AV):(x.shift k).cell=x.cell:=by cases x <;> simp [AV.shift,AV.cell]
theorem Qa.shift {M:CM} {ι ι':Inj} {k0:Nat} (hι:∀o p,ι o=some p→ι' (k0+o)=some p) {v:Value} {x:AV} (h:Qa M ι v x):Qa M ι' v (x.shift k0):=by
 induction h generalizing ι' k0 with
 | undef h=>exact .undef h
 | bool b=>exact .bool b
 | int k n=>exact .int k n
 | str s=>exact .str s
 | nilp=>exact .nilp
 | nils=>exact .nils
 | nilf=>exact .nilf
 | nilm=>exact .nilm
 | nili=>exact .nili
 | emp a=>exact .emp a
 | emn a c=>exact .emn a c
 | lin o i n h ih=>exact ih hι
 | lst0 a fl=>exact .lst0 a fl
 | ref0 a o p hp hz=>exact .ref0 a _ p (hι _ _ hp) hz
 | fz b off cs f hcs hm hr ih=>exact .fz b off cs f hcs hm hr
 | lst b off cap w fl xs f hcap hfl hc hm hr ih=>exact .lst b off cap w fl xs f hcap hfl hc hm hr
 | ref o i n p off cap hp hi hcap hoff=>exact .ref _ i n p off cap (hι _ _ hp) hi hcap hoff
 | ptr o i c p hp=>exact .ptr _ i c p (hι _ _ hp)
 | mp o p hp=>exact .mp _ p (hι _ _ hp)
 | yld o p hp=>exact .yld _ p (hι _ _ hp)
 | ifc t v' v hr ih=>exact .ifc t v' _ (ih hι)
 | fn f first' caps' first caps hy hm h1 h2 hr1 hr2 ih1 ih2 =>
  simp only [AV.shift,Qc7]
  refine .fn f first' caps' _ _ hy hm (by simpa using h1) (by simpa using h2) (fun j v y hv hy=>?_) (fun j v y hv hy=>?_)
  ·simp only [List.getElem?_map,Option.map_eq_some_iff] at hy
   obtain ⟨z,hz,rfl⟩:=hy
   exact ih1 j v z hv hz hι
  ·simp only [List.getElem?_map,Option.map_eq_some_iff] at hy
   obtain ⟨z,hz,rfl⟩:=hy
   exact ih2 j v z hv hz hι
 | agg cs' cs h hc hr ih =>
  simp only [AV.shift,Qc7]
  refine .agg cs' _ (by simpa using h) (fun y hy=>?_) (fun j v y hv hy=>?_)
  ·obtain ⟨z,hz,rfl⟩:=List.mem_map.1 hy
   rw [AV.cell_shift]; exact hc z hz
  ·simp only [List.getElem?_map,Option.map_eq_some_iff] at hy
   obtain ⟨z,hz,rfl⟩:=hy
   exact ih j v z hv hz hι
 | tup vs' vs h hr ih =>
  simp only [AV.shift,Qc7]
  refine .tup vs' _ (by simpa using h) (fun j v y hv hy=>?_)
  simp only [List.getElem?_map,Option.map_eq_some_iff] at hy
  obtain ⟨z,hz,rfl⟩:=hy
  exact ih j v z hv hz hι
theorem Qkc {xs:List AV}:AV.clsL xs=true↔∀x∈xs,AV.cls x=true:=by
 induction xs with
 | nil=>simp [AV.clsL]
 | cons x xs ih=>simp [AV.clsL,ih]
theorem Qa.of_cls {M M':CM} {ι:Inj} {v:Value} {x:AV} (h:Qa M ι v x) (hc:x.cls=true):Qa M' ι v x:=by
 induction h with
 | undef h=>exact .undef h
 | bool b=>exact .bool b
 | int k n=>exact .int k n
 | str s=>exact .str s
 | nilp=>exact .nilp
 | nils=>exact .nils
 | nilf=>exact .nilf
 | nilm=>exact .nilm
 | nili=>exact .nili
 | emp a=>exact .emp a
 | emn a c=>exact .emn a c
 | lin o i n h ih=>exact .lin o i n (ih (by simp [AV.cls]))
 | lst0 a fl=>exact .lst0 a fl
 | ref0 a o p hp hz=>exact .ref0 a _ p hp hz
 | fz b off cs f hcs hm hr ih=>simp [AV.cls] at hc
 | lst b off cap w fl xs f hcap hfl hcc hm hr ih=>simp [AV.cls] at hc
 | ref o i n p off cap hp hi hcap hoff=>exact .ref _ i n p off cap hp hi hcap hoff
 | ptr o i c p hp=>exact .ptr _ i c p hp
 | mp o p hp=>exact .mp _ p hp
 | yld o p hp=>exact .yld _ p hp
 | ifc t v' v hr ih=>exact .ifc t v' _ (ih (by simpa [AV.cls] using hc))
 | fn f first' caps' first caps hy hm h1 h2 hr1 hr2 ih1 ih2 =>
  simp only [AV.cls,Bool.and_eq_true,Qkc] at hc
  exact .fn f first' caps' _ _ hy hm h1 h2 (fun j v y hv hy=>ih1 j v y hv hy (hc.1 y (List.mem_of_getElem? hy))) (fun j v y hv hy=>ih2 j v y hv hy (hc.2 y (List.mem_of_getElem? hy)))
 | agg cs' cs h hcc hr ih =>
  simp only [AV.cls,Qkc] at hc
  exact .agg cs' _ h hcc (fun j v y hv hy=>ih j v y hv hy (hc y (List.mem_of_getElem? hy)))
 | tup vs' vs h hr ih =>
  simp only [AV.cls,Qkc] at hc
  exact .tup vs' _ h (fun j v y hv hy=>ih j v y hv hy (hc y (List.mem_of_getElem? hy)))
theorem Qdc : ∀(objs:List AObj) (k i:Nat) (e:Nat × AObj),e∈Yg k i objs↔∃j x,objs[j]?=some x∧e=(i+j,Qdy k x)
 | [],k,i,e=>by simp [Yg]
 | x::xs,k,i,e=>by
  simp only [Yg,List.mem_cons,Qdc xs k (i+1) e]
  constructor
  ·rintro (rfl | ⟨j,y,h1,rfl⟩)
   ·exact ⟨0,x,rfl,rfl⟩
   ·exact ⟨j+1,y,by simpa using h1,by congr 1; omega⟩
  ·rintro ⟨j,y,h1,rfl⟩
   cases j with
   | zero=>simp at h1; subst h1; exact .inl rfl
   | succ j=>exact .inr ⟨j,y,by simpa using h1,by congr 1; omega⟩
theorem Qnm {x:AObj} (h:x.okRow=true):∃fl w xs,x=.row false false true fl w xs:=by
 unfold AObj.okRow at h
 split at h
 ·exact ⟨_,_,_,rfl⟩
 ·cases h
theorem Qxc (σ:Sto) (objs:List AObj) (hok:objs.all AObj.okRow=true) (k:Nat):(∀j x,objs[j]?=some x→σ.puts (Yg k k objs) (k+j)=some x)∧∀m,m < k∨k+objs.length≤m→σ.puts (Yg k k objs) m=σ m:=by
 have hsh:∀x∈objs,Qdy k x=x:=fun x hx=>by
  obtain ⟨fl,w,xs,rfl⟩:=Qnm (List.all_eq_true.1 hok x hx)
  simp [Qdy]
 constructor
 ·intro j x hj
  rcases σ.puts_at (Yg k k objs) (k+j) with ⟨_,h2⟩ | ⟨y,h1,h2⟩
  ·exact absurd rfl (h2 (k+j,Qdy k x) ((Qdc _ _ _ _).2 ⟨j,x,hj,rfl⟩))
  ·obtain ⟨j',x',h3,h4⟩:=(Qdc _ _ _ _).1 h2
   simp only [Prod.mk.injEq] at h4
   obtain ⟨h5,h6⟩:=h4
   have:j=j':=by omega
   subst this
   rw [hj] at h3; cases h3
   rw [h1,h6,hsh x (List.mem_of_getElem? hj)]
 ·intro m hm
  rcases σ.puts_at (Yg k k objs) m with ⟨h1,_⟩ | ⟨y,h1,h2⟩
  ·exact h1
  ·obtain ⟨j',x',h3,h4⟩:=(Qdc _ _ _ _).1 h2
   simp only [Prod.mk.injEq] at h4
   have:=(List.getElem?_eq_some_iff.1 h3).1
   omega
theorem Qdx (h:Rel P B W0 D M ι σ W) {objs:List AObj} (hok:objs.all AObj.okRow=true) {W1:World} {M1:CM} {ι1:Inj}
  (h1:Rel P W.heap.size W [] M1 ι1 (fun k=>objs[k]?) W1) (hfr:∀k,fr≤k→k < fr+objs.length→ι k=none)
  {M2:CM} (hM:CM.Grow W.heap.size M M2) (ha:K9 M2 W1)
  (hM12:∀b k,W.heap.size≤b→M1 b k=none→M2 b k=none)
  (hobj:∀(j:Nat) (x:AObj) (fl:Bool) (w:Nat) (xs:List AV),objs[j]?=some x→x=.row false false true fl w xs→∀z∈xs,∀y∈z.flat,∀u,Qa M1 ι1 u y→Qa M2 noInj u y) :
  Rel P B W0 D M2 (fun k=>if fr≤k∧k < fr+objs.length then ι1 (k - fr) else ι k) (σ.puts (Yg fr fr objs)) W1:=by
 have hrel:=h.old h1.below
 obtain ⟨p1,p2⟩:=Qxc σ objs hok fr
 have hle:ι.le (fun k=>if fr≤k∧k < fr+objs.length then ι1 (k - fr) else ι k):=fun k q hk=>by
  by_cases e:fr≤k∧k < fr+objs.length
  ·rw [hfr k e.1 e.2] at hk; cases hk
  ·simp only [e,if_false]; exact hk
 have hcase:∀k,(∃j x,k=fr+j∧objs[j]?=some x∧σ.puts (Yg fr fr objs) k=some x∧(if fr≤k∧k < fr+objs.length then ι1 (k - fr) else ι k)=ι1 j)∨(σ.puts (Yg fr fr objs) k=σ k∧(if fr≤k∧k < fr+objs.length then ι1 (k - fr) else ι k)=ι k):=by
  intro k
  by_cases e:fr≤k∧k < fr+objs.length
  ·left
   have hj:k - fr < objs.length:=by omega
   refine ⟨k - fr,objs[k - fr],by omega,List.getElem?_eq_getElem hj,?_,by rw [if_pos e]⟩
   have:=p1 (k - fr) _ (List.getElem?_eq_getElem hj)
   rw [show fr+(k - fr)=k by omega] at this
   exact this
  ·right
   exact ⟨p2 k (by omega),by rw [if_neg e]⟩
 have hin1:∀j x,objs[j]?=some x→∃fl w xs p,x=.row false false true fl w xs∧ι1 j=some p∧Qeu W.heap.size M1 ι1 W1 false true fl w xs p:=by
  intro j x hj
  obtain ⟨fl,w,xs,rfl⟩:=Qnm (List.all_eq_true.1 hok x (List.mem_of_getElem? hj))
  obtain ⟨p,hp,hr⟩:=h1.row j _ _ _ _ _ _ hj
  exact ⟨fl,w,xs,p,rfl,hp,hr⟩
 have hold:∀k bx nr fl w xs p,σ k=some (.row bx false nr fl w xs)→ι k=some p→p.blk < W.heap.size∨(p.cap=0∧p.base=0):=by
  intro k bx nr fl w xs p hk hp
  obtain ⟨q,hq,hr⟩:=h.row k _ _ _ _ _ _ hk
  rw [hp] at hq; cases hq
  rcases Nat.eq_zero_or_pos p.cap with hz | hz
  ·exact .inr ⟨hz,by rcases hr.cpos with h4 | h4 <;> omega⟩
  left
  obtain ⟨v,hv⟩:=Option.isSome_iff_exists.1 ((hr.own rfl).2 0 (Nat.mul_pos hz hr.pos)).1
  exact World.block_lt_of_cell? W _ hv
 refine ⟨hrel.size,hrel.below,hrel.defs,ha,fun k bx1 nr1 fl1 w1 xs1 q j hk hq hj=>?_,?_,?_,?_,?_,?_⟩
 ·rcases hcase k with ⟨i,x,rfl,hi,e1,e2⟩ | ⟨e1,e2⟩
  ·rw [e1] at hk; cases hk
   refine ⟨(h1.cool _ _ _ _ _ _ _ _ hi (by rw [←e2]; exact hq) hj).1,?_⟩
   rw [hM.keepC]
   obtain ⟨fl',w',xs',p',hx',hp',hr'⟩:=hin1 i _ hi
   cases hx'
   have:p'=q:=by rw [e2,hp'] at hq; exact Option.some.inj hq
   subst this
   exact h.kcFresh (hr'.own rfl).1
  ·rw [e1] at hk
   rw [hM.keepC]
   exact hrel.cool _ _ _ _ _ _ _ _ hk (by rw [←e2]; exact hq) hj
 ·intro k bx ro nr fl w xs hk
  rcases hcase k with ⟨j,x,rfl,hj,e1,e2⟩ | ⟨e1,e2⟩
  ·rw [e1] at hk
   obtain ⟨fl',w',xs',p,rfl,hp,hr⟩:=hin1 j x hj
   cases hk
   refine ⟨p,by rw [e2]; exact hp,⟨hr.pw,hr.pos,hr.cpos,hr.len,hr.shaped,hr.nr,hr.fl,fun i j' x y hi hj'=>?_,fun _=>⟨Nat.le_trans h.size (hr.own rfl).1,fun m hm=>⟨((hr.own rfl).2 m hm).1,hM12 _ _ (hr.own rfl).1 ((hr.own rfl).2 m hm).2⟩⟩,fun hf=>by cases hf⟩⟩
   obtain ⟨v,hv,hrep⟩:=hr.cells i j' x y hi hj'
   exact ⟨v,hv,(hobj j _ _ _ _ hj rfl x (List.mem_of_getElem? hi) y (List.mem_of_getElem? hj') v hrep).mono (CM.le_refl _) (Inj.noInj_le _)⟩
  ·rw [e1] at hk
   obtain ⟨p,hp,hr⟩:=hrel.row k bx ro nr fl w xs hk
   refine ⟨p,by rw [e2]; exact hp,⟨hr.pw,hr.pos,hr.cpos,hr.len,hr.shaped,hr.nr,hr.fl,fun i j x y hi hj=>?_,fun hro=>⟨(hr.own hro).1,fun m hm=>⟨((hr.own hro).2 m hm).1,?_⟩⟩,fun hro i j x y hi hj=>?_⟩⟩
   ·obtain ⟨v,hv,hrep⟩:=hr.cells i j x y hi hj
    exact ⟨v,hv,hrep.mono hM.le hle⟩
   ·subst hro
    rcases hold k _ _ _ _ _ p hk hp with hq | ⟨hz,_⟩
    ·rw [hM.old _ _ hq]; exact ((hr.own rfl).2 m hm).2
    ·rw [hz] at hm; simp at hm
   ·obtain ⟨v,hv,hrep⟩:=hr.imm hro i j x y hi hj
    exact ⟨v,hM.le _ _ _ hv,hrep.mono hM.le (Inj.le_refl _)⟩
 ·intro k fn sl ps as bd st pe hk
  rcases hcase k with ⟨j,x,rfl,hj,e1,e2⟩ | ⟨e1,e2⟩
  ·rw [e1] at hk
   obtain ⟨fl',w',xs',p,rfl,hp,hr⟩:=hin1 j x hj
   cases hk
  ·rw [e1] at hk
   obtain ⟨q,nt,hq,hnt,hb,tmps,hsz,hrec,hsl⟩:=hrel.loop k fn sl ps as bd st pe hk
   exact ⟨q,nt,by rw [e2]; exact hq,by rw [hM.keep]; exact hnt,hb,tmps,hsz,hrec,Qbo hM.le hle hsl⟩
 ·intro k k' bx nr fl w xs bx' nr' fl' w' xs' q q' hkk hk hk' hq hq'
  rcases hcase k with ⟨j,x,rfl,hj,e1,e2⟩ | ⟨e1,e2⟩
  ·rw [e1] at hk; rw [e2] at hq
   obtain ⟨fl2,w2,xs2,p,rfl,hp,hr⟩:=hin1 j x hj
   rw [hp] at hq; cases hq
   rcases hcase k' with ⟨j',x',rfl,hj',e1',e2'⟩ | ⟨e1',e2'⟩
   ·rw [e1'] at hk'; rw [e2'] at hq'
    obtain ⟨fl3,w3,xs3,p',rfl,hp',hr'⟩:=hin1 j' x' hj'
    rw [hp'] at hq'; cases hq'
    exact h1.apart j j' _ _ _ _ _ _ _ _ _ _ _ _ (by omega) hj hj' hp hp'
   ·rw [e1'] at hk'; rw [e2'] at hq'
    rcases hold k' _ _ _ _ _ q' hk' hq' with hq2 | ⟨hz,hb⟩
    ·left
     have:=(hr.own rfl).1
     omega
    ·right; right
     rw [hz,hb]; simp
  ·rw [e1] at hk; rw [e2] at hq
   rcases hcase k' with ⟨j',x',rfl,hj',e1',e2'⟩ | ⟨e1',e2'⟩
   ·rw [e1'] at hk'; rw [e2'] at hq'
    obtain ⟨fl3,w3,xs3,p',rfl,hp',hr'⟩:=hin1 j' x' hj'
    rw [hp'] at hq'; cases hq'
    rcases hold k _ _ _ _ _ q hk hq with hq2 | ⟨hz,hb⟩
    ·left
     have:=(hr'.own rfl).1
     omega
    ·right; left
     rw [hz,hb]; simp
   ·rw [e1'] at hk'; rw [e2'] at hq'
    exact h.apart _ _ _ _ _ _ _ _ _ _ _ _ _ _ hkk hk hk' hq hq'
 ·intro k k' fn sl ps as bd st pe fn' sl' ps' as' bd' st' pe' q q' hkk hk hk' hq hq'
  rcases hcase k with ⟨j,x,rfl,hj,e1,e2⟩ | ⟨e1,e2⟩
  ·rw [e1] at hk
   obtain ⟨fl',w',xs',p,rfl,hp,hr⟩:=hin1 j x hj
   cases hk
  ·rcases hcase k' with ⟨j',x',rfl,hj',e1',e2'⟩ | ⟨e1',e2'⟩
   ·rw [e1'] at hk'
    obtain ⟨fl',w',xs',p,rfl,hp,hr⟩:=hin1 j' x' hj'
    cases hk'
   ·rw [e1] at hk; rw [e2] at hq; rw [e1'] at hk'; rw [e2'] at hq'
    exact h.loops _ _ _ _ _ _ _ _ _ _ _ _ _ _ _ _ _ _ hkk hk hk' hq hq'
 ·intro k hk
  rcases hcase k with ⟨j,x,rfl,hj,e1,e2⟩ | ⟨e1,e2⟩
  ·rw [e2] at hk
   obtain ⟨fl',w',xs',p,rfl,hp,hr⟩:=hin1 j x hj
   rw [hp] at hk; cases hk
  ·rw [e2] at hk; rw [e1]; exact h.used k hk
theorem Qqg (b k:Nat):Zg M W (inC σ ι []) b k=M b k:=by
 cases hm:M b k with
 | some v=>exact addM_le _ _ _ _ _ _ hm
 | none=>exact Qgk hm (by rintro ⟨o,ho,_⟩; simp at ho)
theorem Rel.behind (h:Rel P B W0 D M ι σ W) {W1:World} {M1:CM} (h1:Rel P W.heap.size W [] M1 noInj (fun _=>none) W1):Rel P B W0 D M1 noInj (fun _=>none) W1:=by
 have h2:=h.old h1.below
 exact ⟨h2.size,h2.below,h2.defs,h1.agree,fun o bx nr fl w xs p k ho=>(by cases ho),fun o bx ro nr fl w xs ho=>(by cases ho),fun o fn sl ps as bd st pe ho=>(by cases ho),fun o o' bx nr fl w xs bx' nr' fl' w' xs' p p' _ ho=>(by cases ho),fun o o' fn sl ps as bd st pe fn' sl' ps' as' bd' st' pe' p p' _ ho=>(by cases ho),fun o _=>.inl rfl⟩
theorem Rel.empty (h:Rel P B W0 D M ι σ W):Rel P B W0 D M noInj (fun _=>none) W :=
 ⟨h.size,h.below,h.defs,h.agree,fun o bx nr fl w xs p k ho=>(by cases ho),fun o bx ro nr fl w xs ho=>(by cases ho),fun o fn sl ps as bd st pe ho=>(by cases ho),fun o o' bx nr fl w xs bx' nr' fl' w' xs' p p' _ ho=>(by cases ho),fun o o' fn sl ps as bd st pe fn' sl' ps' as' bd' st' pe' p p' _ ho=>(by cases ho),fun o _=>.inl rfl⟩
theorem Jo {f:FuncId} {fn:Func} (hf:P.funcs[f]?=some fn) (hb:fn.body.isSome=true) (hn:(fn.name == "runtime.NumGoroutine")=false) (args:Array Value) (W:World):(callFunc f args).run P W=.ok (.enter f args) W:=by
 have hb':¬ fn.body=none:=fun e=>by rw [e] at hb; cases hb
 have hn':¬ fn.name = "runtime.NumGoroutine" := by simpa using hn
 simp [callFunc,hf,hn',hb']
theorem Qj1 {α:Type} {as bs cs:List α} {xs ys zs:Array Value} (h1:xs.size=as.length) (h2:ys.size=bs.length) (h3:zs.size=cs.length) {Φ:Value→α→Prop}
  (k1:∀(j:Nat) (v:Value) (y:α),xs[j]?=some v→as[j]?=some y→Φ v y) (k2:∀(j:Nat) (v:Value) (y:α),ys[j]?=some v→bs[j]?=some y→Φ v y) (k3:∀(j:Nat) (v:Value) (y:α),zs[j]?=some v→cs[j]?=some y→Φ v y) :
  ∀(j:Nat) (v:Value) (y:α),(xs++ys++zs)[j]?=some v→(as++bs++cs)[j]?=some y→Φ v y:=by
 intro j v y hv hy
 rcases Nat.lt_or_ge j (as.length+bs.length) with h | h
 ·rw [Array.getElem?_append_left (by simp; omega)] at hv
  rw [List.getElem?_append_left (by simp; omega)] at hy
  rcases Nat.lt_or_ge j as.length with h' | h'
  ·rw [Array.getElem?_append_left (by omega)] at hv
   rw [List.getElem?_append_left (by omega)] at hy
   exact k1 j v y hv hy
  ·rw [Array.getElem?_append_right (by omega),h1] at hv
   rw [List.getElem?_append_right (by omega)] at hy
   exact k2 _ v y hv hy
 ·rw [Array.getElem?_append_right (by simp; omega)] at hv
  rw [List.getElem?_append_right (by simp; omega)] at hy
  simp only [Array.size_append,h1,h2] at hv
  simp only [List.length_append] at hy
  exact k3 _ v y hv hy
structure Qk5 (P:Program) (B:Nat) (W0:World) (D:List Nat) (M:CM) (ι:Inj) (σ:Sto) (fr:Nat) (a:Act) (o:Oper) (next:Act→World→Prop) (Q:Exit→Act→World→Prop) (out:Vy):Prop where
 val:∀res,out=.val res→∀v W' M' ι',CM.Grow B M M'→ι.le ι'→(∀k,k < fr∨res.fr≤k→ι' k=ι k)→Rel P B W0 D M' ι' (σ.puts res.eff) W'→(∀x,res.v=some x→Qa M' ι' v x)→next (a.put o.dst v) W'
 pan:∀pv,out=.pan pv→∀v W' M',CM.Grow B M M'→Rel P B W0 D M' noInj (fun _=>none) W'→Qa M' noInj v pv→Q (.panic [{ v,recovered:=false }]) a W'
theorem Qta (hC:Qgr P C) (h:Rel P B W0 D M ι σ W) (hs:Qg M ι s a.tmps) {g:Operand} {args:Array Operand} {ts:Array TypeId} (ho:o.op=.call { callee:=.value g,args,argTypes:=ts }) {out:Vy}
  (he:evalOp P nf C σ fr s o=some out) (hfr:∀res,out=.val res→∀k,fr≤k→k < res.fr→ι k=none) {r:Option Nat} {n:Nat} {next:Act→World→Prop} {Q:Exit→Act→World→Prop} (hp:Qk5 P B W0 D M ι σ fr a o next Q out) :
  o.wpIn (FW r) n P a W next Q:=by
 unfold evalOp at he
 rw [ho] at he
 simp only at he
 split at he
 ·rename_i f first caps as hg has
  have hgv:=Qe hs hg
  generalize hgu:a.eval g=gu at hgv
  cases hgv with
  | fn _ first' caps' _ _ hy hm h1 h2 hr1 hr2 =>
  obtain ⟨l1,e1⟩:=Vo hs has
  unfold Qdn at he
  split at he
  ·rename_i as' ids hsn
   obtain ⟨ml,mat⟩:=Vl hsn
   have hrep:∀(j:Nat) (v:Value) (y:AV),(first'++args.map a.eval++caps')[j]?=some v→(first++as++caps)[j]?=some y→Qa M ι v y :=
    Qj1 h1 (by simpa using l1.symm) h2 hr1 (fun j v y hv hy=>by
     simp only [Array.getElem?_map,Option.map_eq_some_iff] at hv
     obtain ⟨w,hw,rfl⟩:=hv
     exact (e1 j w y (by simpa using hw) hy).2) hr2
   have hle:=addM_le M W (inC σ ι ids)
   have hargs:∀(j:Nat) (v:Value) (y:AV),(first'++args.map a.eval++caps')[j]?=some v→as'[j]?=some y→Qa (Zg M W (inC σ ι ids)) noInj v y:=by
    intro j v y hv hy
    obtain ⟨x0,is,q1,q2,q3⟩:=Z7 hsn hy
    exact X4 h ids Qn x0 y is v q2 q3 (hrep j v x0 hv q1)
   have hsize:(first'++args.map a.eval++caps').size=as'.length:=by
    rw [ml]; simp only [Array.size_append,Array.size_map,List.length_append,h1,h2,l1,Array.length_toList]
   have main:∀cout,C f as'=some cout→(∀v W1 M1 ι1,(match cout with
      | .ret r objs=>CM.Grow W.heap.size (Zg M W (inC σ ι ids)) M1→Rel P W.heap.size W [] M1 ι1 (fun k=>objs[k]?) W1→(∀k,objs.length≤k→ι1 k=none)→Qa M1 ι1 v r→next (a.put o.dst v) W1
      | .pan pv=>CM.Grow W.heap.size (Zg M W (inC σ ι ids)) M1→Rel P W.heap.size W [] M1 noInj (fun _=>none) W1→Qa M1 noInj v pv→Q (.panic [{ v,recovered:=false }]) a W1))→o.wpIn (FW r) n P a W next Q:=by
    intro cout hco hpost
    obtain ⟨hok,fn,hf,hb,hn⟩:=hC f as' cout hco
    refine ⟨fun _ _=>trivial,?_⟩
    rw [Oper.semAt_eq _ _ _ (by rw [ho]; simp)]
    have hrun:(execOp a.eval o).run P W=.ok (.enter f (first'++args.map a.eval++caps')) W:=by
     simp only [execOp,ho,resolve,hgu,Deferred.ofValue,Sem.run_bind,Sem.run_pure,Result.andThen_ok,invoke]
     exact Jo hf hb hn _ W
    rw [hrun,Oper.uponIn_enter]
    refine ⟨fun hd=>by simp [FW,Fence.wide] at hd,Qgd ((hok W (Zg M W (inC σ ι ids)) _ (Qbh h.agree) hsize hargs).mono ?_)⟩
    intro e W1 he1
    cases cout with
    | ret r objs =>
     obtain ⟨v,M1,ι1,rfl,q1,q2,q3,q4⟩:=he1
     exact hpost v W1 M1 ι1 q1 q2 q3 q4
    | pan pv =>
     obtain ⟨v,M1,rfl,q1,q2,q3⟩:=he1
     exact hpost v W1 M1 noInj q1 q2 q3
   split at he
   ·rename_i r0 objs hco
    split at he
    ·rename_i hobjs
     refine main _ hco ?_
     intro v W1 M1 ι1 hgrow hrel1 hout hv
     have hdom:∀b k v,M b k=some v→b < W.heap.size:=fun b k v hm=>h.lt hm
     have nrobj:∀(j:Nat) (x:AObj) (fl:Bool) (w:Nat) (xs:List AV),objs[j]?=some x→x=.row false false true fl w xs→∀z∈xs,∀y∈z.flat,y.nr=true:=by
      intro j x fl w xs hj hx z hz y hy
      subst hx
      obtain ⟨p,hp,hr⟩:=hrel1.row j _ _ _ _ _ _ hj
      exact AV.nr_flat (Q1.1 (hr.nr rfl) z hz) y hy
     have hsh:∀(k0:Nat) (M2:CM),Qa M2 ι1 v r0→Qa M2 (fun k=>if fr≤k∧k < fr+objs.length then ι1 (k - fr) else ι k) v (r0.shift fr):=by
      intro k0 M2 hv2
      refine hv2.shift (fun o p hp=>?_)
      have hlt:o < objs.length:=by
       rcases Nat.lt_or_ge o objs.length with e | e
       ·exact e
       ·rw [hout o e] at hp; cases hp
      rw [if_pos ⟨by omega,by omega⟩,show fr+o - fr=o by omega]; exact hp
     have hfr':∀(res:Res),out=.val res→res.fr=fr+objs.length→∀k,fr≤k→k < fr+objs.length→ι k=none:=fun res hr hf k hk1 hk2=>hfr res hr k hk1 (by omega)
     have hle':∀(res:Res),out=.val res→res.fr=fr+objs.length→ι.le (fun k=>if fr≤k∧k < fr+objs.length then ι1 (k - fr) else ι k):=fun res hr hf k q hk=>by
      by_cases e:fr≤k∧k < fr+objs.length
      ·rw [hfr' res hr hf k e.1 e.2] at hk; cases hk
      ·simp only [e,if_false]; exact hk
     split at he
     ·rename_i hcl
      cases he
      have hfr1:=hfr' _ rfl rfl
      have hle1:=hle' _ rfl rfl
      rw [Bool.or_eq_true] at hcl
      by_cases hids:ids=[]
      ·subst hids
       have hsame:∀b k,b < W.heap.size→M1 b k=M b k:=fun b k hb=>(hgrow.old b k hb).trans (Qqg b k)
       have hM:CM.Grow W.heap.size M M1:=⟨CM.le_trans hle hgrow.le,hsame,hgrow.keep,hgrow.keepC,fun b o v hv=>(hgrow.keepF b o v hv).trans (Qqg b o)⟩
       have key:=Qdx h hobjs hrel1 hfr1 hM hrel1.agree (fun b k _ hn=>hn) (fun j x fl w xs hj hx z hz y hy u hu=>hu.of_nr (nrobj j x fl w xs hj hx z hz y hy))
       exact hp.val _ rfl v W1 M1 _ (hM.mono h.size) hle1 (fun k hk=>by simp only at hk; rw [if_neg (by omega)]) key (fun x hx=>by cases hx; exact hsh 0 M1 hv)
      ·have hcl2:r0.cls=true∧objs.all AObj.flat = true:=by
        rcases hcl with e | e
        ·exact absurd (by simpa using e) hids
        ·simpa using e
       have key:=Qdx h hobjs hrel1 hfr1 (.refl _ _) ⟨fun b o v hm=>by
         rw [hrel1.below.toBelow.cell (p:=⟨b,o,none⟩) (hdom _ _ _ hm)]; exact h.agree _ _ _ hm,fun b x hm=>by
         obtain ⟨k1,k2,k3⟩:=h.agree.keep b x hm
         exact ⟨by rw [hrel1.below.block b (Array.getElem?_eq_some_iff.1 k1).1]; exact k1,k2,k3⟩,fun b o v hm=>by
         obtain ⟨k1,k2⟩:=h.agree.keepC b o v hm
         have hlt:=World.block_lt_of_cell? W _ k1
         exact ⟨by rw [hrel1.below.toBelow.cell (p:=⟨b,o,none⟩) hlt]; exact k1,fun j=>by rw [hrel1.below.toBelow.frozen (p:=⟨b,j,none⟩) hlt]; exact k2 j⟩⟩ (fun b k hb _=>by
         cases hm:M b k with
         | none=>rfl
         | some v=>exact absurd (hdom _ _ _ hm) (by omega)) (fun j x fl w xs hj hx z hz y hy u hu=>by
         have hfl:fl=true:=by
          have:=List.all_eq_true.1 hcl2.2 x (List.mem_of_getElem? hj)
          subst hx; exact this
         subst hfl
         obtain ⟨p,hp',hr⟩:=hrel1.row j _ _ _ _ _ _ (hx ▸ hj)
         exact hu.of_sc (Qak.1 (hr.fl rfl z hz) y hy))
       exact hp.val _ rfl v W1 M _ (.refl _ _) hle1 (fun k hk=>by simp only at hk; rw [if_neg (by omega)]) key (fun x hx=>by cases hx; exact hsh 0 M (hv.of_cls hcl2.1))
     ·split at he
      ·rename_i es hfz
       cases he
       have hfr1:=hfr' _ rfl rfl
       have hle1:=hle' _ rfl rfl
       have h':=Jz h hfz
       have key:=Qdx h' hobjs hrel1 hfr1 hgrow hrel1.agree (fun b k _ hn=>hn) (fun j x fl w xs hj hx z hz y hy u hu=>hu.of_nr (nrobj j x fl w xs hj hx z hz y hy))
       exact hp.val _ rfl v W1 M1 _ ((h.growC ids).trans (hgrow.mono h.size)) hle1 (fun k hk=>by simp only at hk; rw [if_neg (by omega)]) (by rw [Sto.puts_append]; exact key) (fun x hx=>by cases hx; exact hsh 0 M1 hv)
      ·cases he
    ·cases he
   ·rename_i pv hco
    cases he
    refine main _ hco ?_
    intro v W1 M1 ι1 hgrow hrel1 hv
    exact hp.pan _ rfl v W1 M1 ((h.growC ids).trans (hgrow.mono h.size)) (h.behind hrel1) hv
   ·cases he
  ·cases he
 ·cases he
end
end Go.Ab
