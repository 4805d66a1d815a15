/- Rules on plain values. No conditions. -/
import Derived.Test.YtcbhkobklhkiiaaDoorEng2
import Derived.RangeFuncNested
import Derived.MapKept
import Derived.WideKeyRuns
import Derived.Test.YtcbhkobklhkiiaaDoorEng1
import Derived.LoopNIn
import Derived.Scope
set_option linter.all false
namespace Go.Ab
open Go.RowKit
section
variable {P:Program} {nf:Bool} {C:FuncId→List AV→Option Xj} {B:Nat} {W0 W W':World} {D:List Nat} {M:CM} {ι:Inj} {σ:Sto} {s:Slots} {a:Act} {fr:Nat} {o:Oper} {res:Res}
theorem Q4z {ts:Array TypeId} {t u:TypeId} {r:List TypeId} (h:ts.toList=t::u::r) (W:World) (ty:TypeId) (args:Array Value) (he:t=u) :
  (Builtin.append_ ts ty args).run P W=(Builtin.append_ #[t,t] ty args).run P W:=by
 subst he
 have h0:ts[0]?=some t:=by cases ts; simp_all
 have h1:ts[1]?=some t:=by cases ts; simp_all
 unfold Builtin.append_
 simp [h0,h1]
theorem Qgc {σ σ':Sto}:∀(es:List (Nat × AObj)) (k:Nat),(σ k=σ' k∨∃e∈es,e.1=k)→σ.puts es k=σ'.puts es k
 | [],k,h=>by
  rcases h with h | ⟨e,he,_⟩
  ·exact h
  ·simp at he
 | (o,x)::es,k,h=>by
  simp only [Sto.puts]
  refine Qgc es k ?_
  by_cases e:k=o
  ·subst e; exact .inl (by rw [Sto.put_same,Sto.put_same])
  ·rcases h with h | ⟨e',he',hk⟩
   ·exact .inl (by rw [Sto.put_ne _ _ e,Sto.put_ne _ _ e]; exact h)
   ·rcases List.mem_cons.1 he' with rfl | he'
    ·exact absurd hk.symm e
    ·exact .inr ⟨e',he',hk⟩
theorem Quy (h:Rel P B W0 D M ι σ W) (hs:Qi M ι s a.tmps) (hfr:∀k,fr≤k→k < res.fr→ι k=none) {args:Array Operand} {ts:Array TypeId} (ho:o.op=.call { callee:=.builtin .append,args,argTypes:=ts }) (he:evalOp P nf C σ fr s o=some (.val res)):Q8 P B W0 D M ι σ fr a o W res:=by
 unfold evalOp at he
 rw [ho] at he
 simp only at he
 obtain ⟨cs,hrun⟩:=Vp (P:=P) (W:=W) (a:=a) ho
 unfold Qdf at he
 split at he <;> first | (cases he; done) | skip
 rename_i x y t u tr hargs hts
 have hargs':=Q3n hargs
 subst hargs'
 split at he
 ·rename_i T U p q hT hU hx hy
  split at he
  ·cases he
  ·rename_i htu
   have htu:t=u:=by
    have:=htu
    simp only [Bool.not_eq_true,Bool.not_eq_false'] at this
    exact Vx this
   obtain ⟨d,i,g1,g2,g3,_⟩:=Zw hT
   have fin:∀{M':CM} {σ':Sto} {r:Res} {es:List (Nat × AObj)} {rd:List Nat},CM.Grow B M M'→Qgn P B W0 D M' ι σ' fr W t o.type (a.eval x) (a.eval y) r→σ.puts es=σ' →
     Q8 P B W0 D M ι σ fr a o W { r with eff:=es++r.eff,rd:=rd }:=by
    intro M' σ' r es rd hM hd hσ
    obtain ⟨v',W1,ι',k1,k2,k3,k4,k5⟩:=hd
    refine ⟨v',W1,M',ι',.inl ?_,hM,k2,k3,by rw [Sto.puts_append,hσ]; exact k4,k5⟩
    rw [hrun]
    simp only [builtin,List.map_toArray,List.map_cons,List.map_nil,Sem.run_bind,Q4z hts W o.type _ htu,k1,Result.andThen_ok,Sem.run_pure]
   split at he
   ·rename_i e hk
    rw [g3] at hk; rw [Zn hk] at g1
    split at he
    ·rename_i E hE
     split at he
     ·rename_i ys nr fl rd hel
      have hsrc:=Qf2 h hel (Qf hs hy)
      split at he
      ·cases hr:absAppend σ fr E p ys nr fl with
       | none=>simp [hr] at he
       | some r =>
        simp [hr] at he
        subst he
        have:=Qd9 (ty:=o.type) h g1 hE hr hfr (Qf hs hx) hsrc
        exact fin (es:=[]) (.refl _ _) this rfl
      ·split at he
       ·rename_i ys' ids hm
        split at he
        ·rename_i es r hfz hr
         split at he
         ·cases he
         ·rename_i hdis
          cases he
          have h':=Qbk h hfz
          have hle:=addM_le M W (inC σ ι ids)
          obtain ⟨hl,hat⟩:=Kc hm
          have hsrc':Qj0 (Z0 M W (inC σ ι ids)) ι W E.size (a.eval y) ys' true false:=by
           obtain ⟨ad,c,hvf,hvc⟩:=hsrc.form
           have hsh:∀z∈ys',AV.shaped z E.size:=fun z hz=>by
            obtain ⟨i,hi,rfl⟩:=List.mem_iff_getElem.1 hz
            obtain ⟨x0,is',e1,e2,e3⟩:=Xt hm (List.getElem?_eq_getElem hi)
            exact (Qab e2 (hsrc.shaped x0 (List.mem_of_getElem? e1))).1
           have hcell:∀b off,ad=some ⟨b,off,none⟩→ys≠[]→∀(i j:Nat) (x y:AV),ys'[i]?=some x→x.flat[j]?=some y→∃u,W.cell? ⟨b,off+i*E.size+j,none⟩=some u∧Qb (Z0 M W (inC σ ι ids)) noInj u y:=by
            intro b off had hne i j x1 y1 hi hj
            obtain ⟨b',off',had',hcell⟩:=hvc hne
            rw [had] at had'; cases had'
            obtain ⟨x0,is',e1,e2,e3⟩:=Xt hm hi
            obtain ⟨c1,d',is2,f1,f2,f3,f4⟩:=(Qab e2 (hsrc.shaped x0 (List.mem_of_getElem? e1))).2 j y1 hj
            obtain ⟨u,hu,hr⟩:=hcell i j x0 c1 e1 f1
            exact ⟨u,hu,Va h ids d' c1 y1 is2 u f3 (fun k hk=>e3 k (f4 k hk)) hr⟩
           refine ⟨⟨ad,c,by rw [hl]; exact hvf,fun hne=>?_⟩,hsh,fun _=>Q0.2 fun z hz=>?_,by simp⟩
           ·have hne':ys≠[]:=by intro e; rw [e] at hl; exact hne (List.eq_nil_of_length_eq_zero hl)
            obtain ⟨b,off,had,_⟩:=hvc hne'
            refine ⟨b,off,had,fun i j x1 y1 hi hj=>?_⟩
            obtain ⟨u,hu,hr⟩:=hcell b off had hne' i j x1 y1 hi hj
            exact ⟨u,hu,hr.mono (CM.le_refl _) (Inj.noInj_le _)⟩
           ·refine Qkr (hsh z hz) fun y1 hy1=>?_
            obtain ⟨i,hi,rfl⟩:=List.mem_iff_getElem.1 hz
            obtain ⟨j,hj,rfl⟩:=List.mem_iff_getElem.1 hy1
            have hne':ys≠[]:=by intro e; rw [e] at hl; simp at hl; rw [hl] at hi; simp at hi
            obtain ⟨b,off,had,_⟩:=hvc hne'
            obtain ⟨u,_,hr⟩:=hcell b off had hne' i j _ _ (List.getElem?_eq_getElem hi) (List.getElem?_eq_getElem hj)
            exact hr.nr_of_noInj
          have hdis':∀k∈ids,∀e∈r.eff,e.1≠k:=by
           intro k hk e' he' e
           apply hdis
           rw [List.any_eq_true]
           refine ⟨k,hk,?_⟩
           rw [List.any_eq_true]
           exact ⟨e',he',by rw [e]; exact Nat.beq_refl k⟩
          by_cases hys:ys'=[]
          ·
           subst hys
           have hr':absAppend (σ.puts es) fr E p [] true false=some r:=by
            cases p with
            | ref o1 i1 n1 =>
             unfold absAppend at hr ⊢
             simp only at hr ⊢
             split at hr
             ·rename_i nr2 fl2 w2 xs2 hσ2
              have hn:o1 ∉ ids:=by
               have:Qu (Qs σ Qm) ys=some ([],ids):=hm
               have hy0:ys=[]:=List.eq_nil_of_length_eq_zero (by simpa using hl.symm)
               rw [hy0] at this
               simp [Qu] at this
               rw [this]; simp
              rw [Qbm hfz hn,hσ2]
              exact hr
             ·cases hr
            | _=>simpa [absAppend] using hr
           have:=Qd9 (ty:=o.type) h' g1 hE hr' hfr ((Qf hs hx).mono hle (Inj.le_refl _)) hsrc'
           exact fin (h.growC ids) this rfl
          ·have hr':absAppend (σ.puts es) fr E p ys' true false=some r:=by
            cases p with
            | ref o1 i1 n1 =>
             have hn:o1 ∉ ids:=by
              intro hk
              have hmem:∃e∈r.eff,e.1=o1:=by
               unfold absAppend at hr
               simp only at hr
               split at hr
               ·split at hr
                ·split at hr
                 ·split at hr
                  ·cases hr; exact ⟨_,List.mem_cons_self,rfl⟩
                  ·cases hr
                 ·split at hr
                  ·rename_i hemp
                   exact absurd (by simpa using hemp) hys
                  ·split at hr
                   ·cases hr; exact ⟨_,List.mem_cons_self,rfl⟩
                   ·split at hr
                    ·cases hr; exact ⟨_,List.mem_cons_self,rfl⟩
                    ·cases hr
                ·cases hr
               ·cases hr
              obtain ⟨e',he',e⟩:=hmem
              exact hdis' o1 hk e' he' e
             unfold absAppend at hr ⊢
             simp only at hr ⊢
             rw [Qbm hfz hn]
             exact hr
            | _=>simpa [absAppend] using hr
           have:=Qd9 (ty:=o.type) h' g1 hE hr' hfr ((Qf hs hx).mono hle (Inj.le_refl _)) hsrc'
           exact fin (h.growC ids) this rfl
        ·cases he
       ·cases he
     ·cases he
    ·cases he
   ·cases he
 ·cases he
theorem Qyi (h:Rel P B W0 D M ι σ W) (hs:Qi M ι s a.tmps) {args:Array Operand} {ts:Array TypeId} (ho:o.op=.call { callee:=.builtin .copy,args,argTypes:=ts }) (he:evalOp P nf C σ fr s o=some (.val res)):Q8 P B W0 D M ι σ fr a o W res:=by
 unfold evalOp at he
 rw [ho] at he
 simp only at he
 obtain ⟨cs,hrun⟩:=Vp (P:=P) (W:=W) (a:=a) ho
 unfold Qjn at he
 split at he <;> first | (cases he; done) | skip
 rename_i x y t tr hargs hts
 have hargs':=Q3n hargs
 subst hargs'
 split at he
 ·rename_i T p q hT hx hy
  obtain ⟨d,i,g1,g2,g3,_⟩:=Zw hT
  have ht0:ts[0]?=some t:=by cases ts; simp_all
  have fin:∀{n:Int} {W1:World},(Builtin.copy_ ts o.type #[a.eval x,a.eval y]).run P W=.ok (.int .i64 n) W1→(execOp a.eval o).run P W=.ok (.value (.int .i64 n)) W1:=by
   intro n W1 hn
   rw [hrun]
   simp only [builtin,List.map_toArray,List.map_cons,List.map_nil,Sem.run_bind,hn,Result.andThen_ok,Sem.run_pure]
  split at he
  ·rename_i e hk
   rw [g3] at hk; rw [Zn hk] at g1
   split at he
   ·rename_i E hE
    obtain ⟨_,i1,_,hi1,_,hsz,_⟩:=Zw hE
    split at he
    ·rename_i ys nr fl rd hel
     have hsrc:=Qf2 h hel (Qf hs hy)
     obtain ⟨ad,c,hvf,hvc⟩:=hsrc.form
     have zero:∀(base:Option Addr) (l cap:Nat),a.eval x=.slice base 0 cap→(Builtin.copy_ ts o.type #[a.eval x,a.eval y]).run P W=.ok (.int .i64 0) W:=by
      intro base l cap hb
      rw [hb,hvf]
      simp only [Builtin.copy_,ht0]
      simp [run_underlying g1,Builtin.lenOf,sizeOf,typeInfo,hi1,Qa1,goInt]
      cases base <;> simp [storeCells]
     split at he
     ·cases he
      have hv:=(Qf hs hx).nils_inv
      exact Qr h (fin (zero _ 0 0 hv)) (.int _ _)
     ·cases he
      obtain ⟨ad',hv⟩:=(Qf hs hx).emp_inv
      exact Qr h (fin (zero _ 0 0 hv)) (.int _ _)
     ·rename_i ob ii n
      split at he
      ·rename_i nr' fl' w xs hσ
       split at he
       ·rename_i hc
        simp only [Bool.and_eq_true] at hc
        obtain ⟨⟨c1,c2⟩,c3⟩:=hc
        have c1:=Vx c1; have c2:=Xw c2
        subst c1
        cases he
        obtain ⟨p,hp,hrow⟩:=h.row _ _ _ _ _ _ _ hσ
        have hlen:=hrow.len
        have hv:=Qf hs hx
        generalize hu:a.eval x=u at hv
        cases hv with
        | ref0 ad0 _ q hq hz =>
         have hrun0:=zero ad0 0 0 hu
         refine ⟨_,W,M,ι,.inl (fin hrun0),.refl _ _,Inj.le_refl _,fun _ _=>rfl,?_,fun z hz=>by cases hz; simp only [Nat.min_zero]; exact .int _ _⟩
         have:=h.overwrite hσ hp (ys:=[]) (vs:=[]) (nr':=nr) (fl':=fl) 0 (by simp) ⟨by simp,by simp,by simp⟩ (by simp [AV.nrL]) (by simp)
         simp only [List.take_zero]
         exact this
        | ref _ _ _ q off cap hq hi' hcap hoff =>
        have hpq:p=q:=by rw [hp] at hq; exact Option.some.inj hq
        subst hpq
        by_cases hm0:min ys.length n=0
        ·
         have htk:ys.take n=[]:=by
          rcases Nat.eq_zero_or_pos n with e | e
          ·subst e; simp
          ·have:ys.length=0:=by omega
           have:=List.eq_nil_of_length_eq_zero this
           rw [this]; simp
         have hrun0:(Builtin.copy_ ts o.type #[a.eval x,a.eval y]).run P W=.ok (.int .i64 (min ys.length n:Nat)) W:=by
          rw [hu,hvf]
          simp only [Builtin.copy_,ht0]
          have:Nat.min ys.length n=0:=hm0
          simp [run_underlying g1,Builtin.lenOf,sizeOf,typeInfo,hi1,this,Qa1,goInt,storeCells,hm0]
         refine ⟨_,W,M,ι,.inl (fin hrun0),.refl _ _,Inj.le_refl _,fun _ _=>rfl,?_,fun z hz=>by cases hz; exact .int _ _⟩
         have:=h.overwrite hσ hp (ys:=[]) (vs:=[]) (nr':=nr) (fl':=fl) ii (by simp; omega) ⟨by simp,by simp,by simp⟩ (by simp [AV.nrL]) (by simp)
         rw [htk]
         exact this
        ·have hne:ys.take n≠[]:=by
          intro e
          have h0:(ys.take n).length=min n ys.length:=List.length_take
          rw [e,List.length_nil] at h0
          omega
         have hne0:ys≠[]:=by intro e; rw [e] at hne; simp at hne
         obtain ⟨b,off',had,hcell⟩:=hvc hne0
         subst had
         have hsrc':Qj0 M ι W E.size (.slice (some ⟨b,off',none⟩) (ys.take n).length c) (ys.take n) nr fl:=by
          refine ⟨⟨_,c,rfl,fun _=>⟨b,off',rfl,fun i j x y hi hj=>?_⟩⟩,fun z hz=>hsrc.shaped z (List.mem_of_mem_take hz),fun hn=>Q0.2 fun z hz=>Q0.1 (hsrc.nr hn) z (List.mem_of_mem_take hz),fun hf z hz=>hsrc.fl hf z (List.mem_of_mem_take hz)⟩
          have hin:i < n:=by have:=(List.getElem?_eq_some_iff.1 hi).1; simp at this; omega
          rw [List.getElem?_take,if_pos hin] at hi
          exact hcell i j x y hi hj
         obtain ⟨vs,k1,k2,k3,k4⟩:=hsrc'.cells rfl hne
         have htl:(ys.take n).length=min ys.length n:=by simp [Nat.min_comm]
         have hoff':off=p.base+ii*E.size:=by
          rcases hoff with q | q
          ·rw [q,hrow.pw]
          ·omega
         have hown:=(hrow.own rfl).2
         have hfit:(ii+min ys.length n)*E.size≤p.cap*E.size:=Nat.mul_le_mul_right _ (by omega)
         rw [Nat.add_mul] at hfit
         have hst:=run_storeCells_cells (P:=P) p.blk off vs 0 W (fun j hj=>by
           have:=(hown (ii*E.size+j) (by rw [k1,htl] at hj; omega)).1
           rw [Nat.add_zero,hoff',show p.base+ii*E.size+j=p.base+(ii*E.size+j) by omega]; exact this) (fun j hj=>by
           have:=(h.cool _ _ _ _ _ _ _ (ii*E.size+j) (by assumption) hp (by rw [k1,htl] at hj; omega)).1
           rw [Nat.add_zero,hoff',show p.base+ii*E.size+j=p.base+(ii*E.size+j) by omega]; exact this) k4
         rw [Nat.add_zero] at hst
         have hfc:=run_firstCells_some (P:=P) W i1.size (min ys.length n) ⟨b,off',none⟩ ys.length c vs (by rw [k1,htl,hsz]) k2
         have hrun0:(Builtin.copy_ ts o.type #[a.eval x,a.eval y]).run P W=.ok (.int .i64 (min ys.length n:Nat)) (W.setCells p.blk off vs):=by
          rw [hu,hvf]
          simp only [Builtin.copy_,ht0]
          have:Nat.min ys.length n=min ys.length n:=rfl
          simp [run_underlying g1,Builtin.lenOf,sizeOf,typeInfo,hi1,this,hfc,goInt,hst]
         refine ⟨_,_,M,ι,.inl (fin hrun0),.refl _ _,Inj.le_refl _,fun _ _=>rfl,?_,fun z hz=>by cases hz; exact .int _ _⟩
         have:=h.overwrite hσ hp ii (by rw [htl]; omega) k3 hsrc'.nr hsrc'.fl
         rw [hoff']
         exact this
       ·cases he
      ·cases he
     ·cases he
    ·cases he
   ·cases he
  ·cases he
 ·cases he
end
end Go.Ab
namespace Go.Ab
open Go.RowKit
section
variable {P:Program} {B:Nat} {W0 W:World} {D:List Nat} {M:CM} {ι:Inj} {σ:Sto}
theorem Qed {l:Loop}:(Qdg l).isCells=false:=by unfold Qdg; split <;> rfl
theorem Qm8 {l:Nat} {o o':Obj} (hl:W.heap[l]?=some o) (h1:o.isCells=false) (h2:o'.isCells=false) (p:Addr):(W.putObj l o').cell? p=W.cell? p:=by
 unfold World.cell?
 by_cases e:p.block=l
 ·rw [e,World.putObj_heap_same (Array.getElem?_eq_some_iff.1 hl).1,hl]
  cases o <;> cases o' <;> simp_all [Obj.isCells]
 ·rw [World.putObj_heap_other e]
theorem Qkz {l:Nat} {o o':Obj} (hl:W.heap[l]?=some o) (h1:o.isCells=false) (h2:o'.isCells=false) (p:Addr):(W.putObj l o').frozen? p=W.frozen? p:=by
 unfold World.frozen?
 by_cases e:p.block=l
 ·rw [e,World.putObj_heap_same (Array.getElem?_eq_some_iff.1 hl).1,hl]
  cases o <;> cases o' <;> simp_all [Obj.isCells]
 ·rw [World.putObj_heap_other e]
theorem Qk8 {l:Nat} (o':Obj) (h:Zp B W0 W) (hl:B≤l):Zp B W0 (W.putObj l o') :=
 h.trans ⟨⟨rfl,rfl,rfl,by simp,fun k hk=>World.putObj_heap_other (by omega)⟩,Nat.le_refl _⟩
theorem Qhw.world {W':World} {ro nr fl:Bool} {w:Nat} {xs:List AV} {p:Place} (h:Qhw B M ι W ro nr fl w xs p) (hc:∀q,W'.cell? q=W.cell? q):Qhw B M ι W' ro nr fl w xs p :=
 ⟨h.pw,h.pos,h.cpos,h.len,h.shaped,h.nr,h.fl,fun i j x y hi hj=>by rw [hc]; exact h.cells i j x y hi hj,fun hro=>⟨(h.own hro).1,fun k hk=>by rw [hc]; exact (h.own hro).2 k hk⟩,h.imm⟩
theorem Rel.allocObj (h:Rel P B W0 D M ι σ W) (x:Obj) (hx:x.isCells=false):Rel P B W0 D M ι σ (W.alloc x):=by
 exact h.old ((Zp.refl _ W).alloc (Nat.le_refl _) _)
theorem Rel.allocRec (h:Rel P B W0 D M ι σ W) {o:Nat} (ho:ι o=none) {fn:FuncId} {nt:Nat} {tmps:Array Value} (hsz:tmps.size=nt) {sl:List (Nat × AV)} (hsl:Qi M ι (lk sl) tmps) (ps:Array Tmp) (as bd:Code) (d:Nat) (st:LoopState) (pe:Option Code) :
  Rel P B W0 D M (ι.put o ⟨W.heap.size,d,0,0⟩) (σ.put o (.loop nt sl ps.toList as bd st pe)) (W.alloc (Qdg { state:=st,pending:=pe,fn,tmps,params:=ps,assign:=as,body:=bd,defers:=d })):=by
 have h':=h.allocObj (Qdg { state:=st,pending:=pe,fn,tmps,params:=ps,assign:=as,body:=bd,defers:=d }) Qed
 have hle:=Inj.le_put ⟨W.heap.size,d,0,0⟩ ho
 refine ⟨h'.size,h'.below,h'.defs,h'.agree,fun k bx1 nr1 fl1 w1 xs1 q j hk hq hj=>?_,?_,?_,?_,?_,?_⟩
 ·have e:k≠o:=fun e=>by subst e; rw [Sto.put_same] at hk; cases hk
  rw [Sto.put_ne _ _ e] at hk; rw [Inj.put_ne _ _ e] at hq
  exact h'.cool _ _ _ _ _ _ _ _ hk hq hj
 ·intro k bx ro nr fl w xs hk
  have e:k≠o:=fun e=>by subst e; rw [Sto.put_same] at hk; cases hk
  rw [Sto.put_ne _ _ e] at hk
  obtain ⟨q,hq,hr⟩:=h'.row k bx ro nr fl w xs hk
  refine ⟨q,by rw [Inj.put_ne _ _ e]; exact hq,⟨hr.pw,hr.pos,hr.cpos,hr.len,hr.shaped,hr.nr,hr.fl,fun i j x y hi hj=>?_,hr.own,hr.imm⟩⟩
  obtain ⟨v,hv,hrep⟩:=hr.cells i j x y hi hj
  exact ⟨v,hv,hrep.mono (CM.le_refl _) hle⟩
 ·intro k fn' sl' ps' as' bd' st' pe' hk
  by_cases e:k=o
  ·subst e
   rw [Sto.put_same] at hk
   cases hk
   refine ⟨_,fn,Inj.put_same _ _ _,h.fresh,h.size,tmps,hsz,World.alloc_heap_new W _,fun t a ha=>(hsl t a ha).mono (CM.le_refl _) hle⟩
  ·rw [Sto.put_ne _ _ e] at hk
   obtain ⟨q,nt,hq,hnt,hb,tm,hs,hrec,hsl'⟩:=h'.loop k fn' sl' ps' as' bd' st' pe' hk
   exact ⟨q,nt,by rw [Inj.put_ne _ _ e]; exact hq,hnt,hb,tm,hs,hrec,fun t a ha=>(hsl' t a ha).mono (CM.le_refl _) hle⟩
 ·intro k k' bx1 nr1 fl1 w1 xs1 bx2 nr2 fl2 w2 xs2 q q' hkk h1 h2 hq hq'
  have e:k≠o:=fun e=>by subst e; rw [Sto.put_same] at h1; cases h1
  have e':k'≠o:=fun e=>by subst e; rw [Sto.put_same] at h2; cases h2
  rw [Sto.put_ne _ _ e] at h1; rw [Sto.put_ne _ _ e'] at h2; rw [Inj.put_ne _ _ e] at hq; rw [Inj.put_ne _ _ e'] at hq'
  exact h.apart _ _ _ _ _ _ _ _ _ _ _ _ _ _ hkk h1 h2 hq hq'
 ·intro k k' fn1 sl1 ps1 as1 bd1 st1 pe1 fn2 sl2 ps2 as2 bd2 st2 pe2 q q' hkk h1 h2 hq hq'
  have lt:∀k fn1 sl1 ps1 as1 bd1 st1 pe1 q,σ k=some (.loop fn1 sl1 ps1 as1 bd1 st1 pe1)→ι k=some q→q.blk < W.heap.size:=fun k _ _ _ _ _ _ _ q hk hq=>by
   obtain ⟨q',_,hq',_,hb,tm,hs,hrec,_⟩:=h.loop k _ _ _ _ _ _ _ hk
   rw [hq] at hq'; cases hq'
   exact (Array.getElem?_eq_some_iff.1 hrec).1
  by_cases e:k=o
  ·subst e
   rw [Inj.put_same] at hq; cases hq
   rw [Sto.put_ne _ _ (Ne.symm hkk)] at h2; rw [Inj.put_ne _ _ (Ne.symm hkk)] at hq'
   have:=lt _ _ _ _ _ _ _ _ _ h2 hq'
   show W.heap.size≠q'.blk
   omega
  ·rw [Sto.put_ne _ _ e] at h1; rw [Inj.put_ne _ _ e] at hq
   by_cases e':k'=o
   ·subst e'
    rw [Inj.put_same] at hq'; cases hq'
    have:=lt _ _ _ _ _ _ _ _ _ h1 hq
    show q.blk≠W.heap.size
    omega
   ·rw [Sto.put_ne _ _ e'] at h2; rw [Inj.put_ne _ _ e'] at hq'
    exact h.loops _ _ _ _ _ _ _ _ _ _ _ _ _ _ _ _ _ _ hkk h1 h2 hq hq'
 ·intro k hk
  have e:k≠o:=fun e=>by subst e; rw [Inj.put_same] at hk; cases hk
  rw [Inj.put_ne _ _ e] at hk; rw [Sto.put_ne _ _ e]; exact h.used k hk
theorem Rel.setRec (h:Rel P B W0 D M ι σ W) {o:Nat} {nt:Nat} {sl:List (Nat × AV)} {ps:List Tmp} {as bd:Code} {st:LoopState} {pe:Option Code} {p:Place}
  (hσ:σ o=some (.loop nt sl ps as bd st pe)) (hp:ι o=some p) {x:AObj} {ob:Obj} (hcl:ob.isCells=false)
  (hx:x=.dead∨∃(nt':Nat) (sl':List (Nat × AV)) (ps':List Tmp) (as' bd':Code) (st':LoopState) (pe':Option Code) (fn':FuncId) (tmps':Array Value),
   x=.loop nt' sl' ps' as' bd' st' pe'∧ob=Qdg { state:=st',pending:=pe',fn:=fn',tmps:=tmps',params:=ps'.toArray,assign:=as',body:=bd',defers:=p.base }∧tmps'.size=nt'∧Qi M ι (lk sl') tmps') :
  Rel P B W0 D M ι (σ.put o x) (W.putObj p.blk ob):=by
 obtain ⟨q,fn,hq,hnt,hB,tmps,hsz,hrec,hsl⟩:=h.loop o nt sl ps as bd st pe hσ
 rw [hp] at hq; cases hq
 have hnr:∀bx ro nr fl w xs,x≠.row bx ro nr fl w xs:=by
  intro bx ro nr fl w xs e
  rcases hx with rfl | ⟨_,_,_,_,_,_,_,_,_,rfl,_⟩ <;> cases e
 have hc:=fun q=>Qm8 (o':=ob) hrec Qed hcl q
 have hf:=fun q=>Qkz (o':=ob) hrec Qed hcl q
 refine ⟨by simpa using h.size,Qk8 _ h.below hB,fun d hd=>?_,⟨fun b o v hv=>by rw [hc]; exact h.agree b o v hv,fun b x hm=>by
  obtain ⟨k1,k2,k3⟩:=h.agree.keep b x hm
  refine ⟨?_,k2,k3⟩
  rw [World.putObj_heap_other (fun e=>by subst e; rw [hnt] at hm; cases hm)]; exact k1,fun b o v hm=>by rw [hc,hf]; exact h.agree.keepC b o v hm⟩,fun k bx1 nr1 fl1 w1 xs1 q j hk hq hj=>?_,?_,?_,?_,?_,?_⟩
 ·rw [World.putObj_heap_other (fun e=>by have:=h.defs d hd; rw [e,hrec] at this; exact Qid this)]; exact h.defs d hd
 ·rw [hf]
  have e:k≠o:=fun e=>by subst e; rw [Sto.put_same] at hk; cases hk; exact absurd rfl (hnr _ _ _ _ _ _)
  rw [Sto.put_ne _ _ e] at hk; exact h.cool _ _ _ _ _ _ _ _ hk hq hj
 ·intro k bx ro nr fl w xs hk
  have e:k≠o:=fun e=>by subst e; rw [Sto.put_same] at hk; cases hk; exact absurd rfl (hnr _ _ _ _ _ _)
  rw [Sto.put_ne _ _ e] at hk
  obtain ⟨q,hq,hr⟩:=h.row k bx ro nr fl w xs hk
  exact ⟨q,hq,hr.world hc⟩
 ·intro k fn1 sl1 ps1 as1 bd1 st1 pe1 hk
  by_cases e:k=o
  ·subst e
   rw [Sto.put_same] at hk
   rcases hx with rfl | ⟨nt',sl',ps',as',bd',st',pe',fn',tmps',rfl,rfl,hsz',hsl'⟩
   ·cases hk
   ·cases hk
    exact ⟨p,fn',hp,hnt,hB,tmps',hsz',World.putObj_heap_same (Array.getElem?_eq_some_iff.1 hrec).1,hsl'⟩
  ·rw [Sto.put_ne _ _ e] at hk
   obtain ⟨q,nt1,hq,hnt1,hB1,tm1,hsz1,hrec1,hsl1⟩:=h.loop k _ _ _ _ _ _ _ hk
   refine ⟨q,nt1,hq,hnt1,hB1,tm1,hsz1,?_,hsl1⟩
   rw [World.putObj_heap_other (h.loops _ _ _ _ _ _ _ _ _ _ _ _ _ _ _ _ _ _ e hk hσ hq hp)]; exact hrec1
 ·intro k k' bx1 nr1 fl1 w1 xs1 bx2 nr2 fl2 w2 xs2 q q' hkk h1 h2 hq hq'
  have e:k≠o:=fun e=>by subst e; rw [Sto.put_same] at h1; cases h1; exact absurd rfl (hnr _ _ _ _ _ _)
  have e':k'≠o:=fun e=>by subst e; rw [Sto.put_same] at h2; cases h2; exact absurd rfl (hnr _ _ _ _ _ _)
  rw [Sto.put_ne _ _ e] at h1; rw [Sto.put_ne _ _ e'] at h2
  exact h.apart _ _ _ _ _ _ _ _ _ _ _ _ _ _ hkk h1 h2 hq hq'
 ·intro k k' fn1 sl1 ps1 as1 bd1 st1 pe1 fn2 sl2 ps2 as2 bd2 st2 pe2 q q' hkk h1 h2 hq hq'
  have g:∀k fn1 sl1 ps1 as1 bd1 st1 pe1,σ.put o x k=some (.loop fn1 sl1 ps1 as1 bd1 st1 pe1)→∃a b c d e f g,σ k=some (.loop a b c d e f g):=fun k _ _ _ _ _ _ _ hk=>by
   by_cases e:k=o
   ·subst e; exact ⟨_,_,_,_,_,_,_,hσ⟩
   ·rw [Sto.put_ne _ _ e] at hk; exact ⟨_,_,_,_,_,_,_,hk⟩
  obtain ⟨_,_,_,_,_,_,_,g1⟩:=g _ _ _ _ _ _ _ _ h1
  obtain ⟨_,_,_,_,_,_,_,g2⟩:=g _ _ _ _ _ _ _ _ h2
  exact h.loops _ _ _ _ _ _ _ _ _ _ _ _ _ _ _ _ _ _ hkk g1 g2 hq hq'
 ·intro k hk
  have e:k≠o:=fun e=>by subst e; rw [hp] at hk; cases hk
  rw [Sto.put_ne _ _ e]; exact h.used k hk
end
end Go.Ab
namespace Go.Ab
open Go.RowKit
def SK.key:SK→Bool
 | .int=>true
 | .bool=>true
 | .str=>false
section
variable {P:Program} {M:CM} {ι:Inj}
end
end Go.Ab
namespace Go.Ab
open Go.RowKit
def Qdd (M:CM) (ι:Inj):List Value→List (AV × AV)→Prop
 | [],[]=>True
 | a::b::l,(k,v)::r=>Qb M ι a k∧Qb M ι b v∧Qdd M ι l r
 | _,_=>False
section
variable {P:Program} {nf:Bool} {C:FuncId→List AV→Option Xj} {B:Nat} {W0 W W':World} {D:List Nat} {M:CM} {ι:Inj} {σ:Sto} {s:Slots} {a:Act} {fr:Nat} {o:Oper} {res:Res}
theorem Qik:∀{es:List (AV × AV)} {i t:Nat} {x:AV},lk (Xd i es) t=some x→i≤t
 | [],i,t,x,h=>by cases h
 | (k,v)::r,i,t,x,h=>by
  simp only [Xd,lk] at h
  split at h
  ·rename_i e; exact Nat.le_of_eq (Nat.eq_of_beq_eq_true e)
  ·split at h
   ·rename_i e; have:=Nat.eq_of_beq_eq_true e; omega
   ·have:=Qik h; omega
theorem Qpp {a b:Nat} (h:a≠b):Nat.beq a b=false:=by
 cases e:Nat.beq a b with
 | false=>rfl
 | true=>exact absurd (Nat.eq_of_beq_eq_true e) h
theorem Qv3:∀(es:List (AV × AV)) (l:List Value) (i:Nat),l.length=2*es.length→(∀t x,lk (Xd i es) t=some x→Qb M ι ((l[t - i]?).getD undef) x)→Qdd M ι l es
 | [],[],_,_,_=>trivial
 | [],_::_,_,h,_=>by simp at h
 | (k,v)::r,[],_,h,_=>by simp at h
 | (k,v)::r,[_],_,h,_=>by simp at h; omega
 | (k,v)::r,a::b::l,i,h,H=>by
  refine ⟨?_,?_,Qv3 r l (i+2) (by simp at h; omega) fun t x hx=>?_⟩
  ·have:=H i k (by simp [Xd,lk])
   simpa using this
  ·have:=H (i+1) v (by simp [Xd,lk,Qpp (show i≠i+1 by omega)])
   simpa using this
  ·have hge:=Qik hx
   have:=H t x (by simp only [Xd,lk,Qpp (show i≠t by omega),Qpp (show i+1≠t by omega)]; simpa using hx)
   have e:t - i=(t - (i+2))+2:=by omega
   rw [e] at this
   simpa using this
theorem Qkv:∀(es:List (AV × AV)) (l:List Value) (i:Nat),Qdd M ι l es→∀t x,lk (Xd i es) t=some x→Qb M ι ((l[t - i]?).getD undef) x
 | [],_,_,_,t,x,hx=>by cases hx
 | (k,v)::r,[],_,h,_,_,_=>h.elim
 | (k,v)::r,[_],_,h,_,_,_=>h.elim
 | (k,v)::r,a::b::l,i,h,t,x,hx=>by
  simp only [Xd,lk] at hx
  split at hx
  ·rename_i e; have:=Nat.eq_of_beq_eq_true e; subst this; cases hx; simpa using h.1
  ·split at hx
   ·rename_i e; have:=Nat.eq_of_beq_eq_true e; subst this; cases hx
    have e1:i+1 - i=1:=by omega
    rw [e1]; simpa using h.2.1
   ·have hge:=Qik hx
    have:=Qkv r l (i+2) h.2.2 t x hx
    have e:t - i=(t - (i+2))+2:=by omega
    rw [e]; simpa using this
theorem Qs0 {kv vv:Value} {k v:AV} (hk:Qb M ι kv k) (hv:Qb M ι vv v):∀{l:List Value} {es:List (AV × AV)} (j:Nat),Qdd M ι l es→Qdd M ι ((l.set (2*j) kv).set (2*j+1) vv) (es.set j (k,v))
 | [],[],j,_=>by simp [Qdd]
 | a::b::l,(k0,v0)::r,0,h=>by simpa [Qdd] using ⟨hk,hv,h.2.2⟩
 | a::b::l,(k0,v0)::r,j+1,h=>by
  have:=Qs0 hk hv j h.2.2
  have e:2*(j+1)=2*j+1+1:=by omega
  simp only [e,List.set_cons_succ,Qdd]
  exact ⟨h.1,h.2.1,this⟩
 | [],_::_,_,h=>h.elim
 | [_],_,_,h=>by cases ‹List (AV × AV)› <;> exact h.elim
 | _::_::_,[],_,h=>h.elim
theorem Qrq {kv vv:Value} {k v:AV} (hk:Qb M ι kv k) (hv:Qb M ι vv v):∀{l:List Value} {es:List (AV × AV)},Qdd M ι l es→Qdd M ι (l++[kv,vv]) (es++[(k,v)])
 | [],[],_=>⟨hk,hv,trivial⟩
 | a::b::l,(k0,v0)::r,h=>⟨h.1,h.2.1,Qrq hk hv h.2.2⟩
 | [],_::_,h=>h.elim
 | [_],_,h=>by cases ‹List (AV × AV)› <;> exact h.elim
 | _::_::_,[],h=>h.elim
theorem Qq4 {kv vv:Value}:∀{l:List Value} {es:List (AV × AV)} (j b:Nat),Qdd M ι l es→Z2 ((l.set (2*j) kv).set (2*j+1) vv) b=(Z2 l b).modify j fun e=>{ e with key:=kv,val:=vv }
 | [],[],j,b,_=>by simp [Z2]
 | x::y::l,(k0,v0)::r,0,b,h=>by simp [Z2]
 | x::y::l,(k0,v0)::r,j+1,b,h=>by
  have:=Qq4 (kv:=kv) (vv:=vv) j (b+1) h.2.2
  have e:2*(j+1)=2*j+1+1:=by omega
  simp only [e,List.set_cons_succ,Z2,this,List.modify_succ_cons]
 | [],_::_,_,_,h=>h.elim
 | [_],_,_,_,h=>by cases ‹List (AV × AV)› <;> exact h.elim
 | _::_::_,[],_,_,h=>h.elim
theorem Qpf {kv vv:Value}:∀{l:List Value} {es:List (AV × AV)} (b:Nat),Qdd M ι l es→Z2 (l++[kv,vv]) b=Z2 l b++[{ key:=kv,val:=vv,born:=b+es.length }]
 | [],[],b,_=>by simp [Z2]
 | x::y::l,(k0,v0)::r,b,h=>by
  have:=Qpf (kv:=kv) (vv:=vv) (b+1) h.2.2
  simp only [List.cons_append,Z2,this,List.length_cons]
  congr 4; omega
 | [],_::_,_,h=>h.elim
 | [_],_,_,h=>by cases ‹List (AV × AV)› <;> exact h.elim
 | _::_::_,[],_,h=>h.elim
theorem Qfv {kt:TypeId} {x y:AV} {r:Bool} (h:Qc1 P kt x y=some r):∃q n m,P.underlying kt=some (.int q)∧(∃k,x=.int k n∧y=.int k m)∧r=(n==m):=by
 unfold Qc1 Qa0 at h
 split at h
 ·rename_i hs
  split at hs <;> first | (cases hs; done) | skip
  rename_i q hq
  cases x <;> cases y <;> simp [Qqm] at h
  rename_i k n k' m
  obtain ⟨rfl,rfl⟩:=h
  exact ⟨q,n,m,hq,⟨k,rfl,rfl⟩,rfl⟩
 ·cases h
theorem Qef {kt:TypeId} {q:IntKind} (hq:P.underlying kt=some (.int q)) {kv:Value} {k:AV} (hk:Qb M ι kv k):∀(es:List (AV × AV)) (l:List Value) (b i:Nat) (r:Option (Nat × AV)),Qdd M ι l es→Qe6 (Qc1 P kt) k es i=some r →
  (r=none∧Instr.findNow (.int q) kv (Z2 l b) i=some none)∨∃j v w,r=some (i+j,v)∧Instr.findNow (.int q) kv (Z2 l b) i=some (some (i+j,w))∧Qb M ι w v∧((Z2 l b)[j]?).map (·.key)=some kv
 | [],[],b,i,r,_,h=>by cases h; exact .inl ⟨rfl,rfl⟩
 | (k0,v0)::es,x::y::l,b,i,r,hp,h=>by
  unfold Qe6 at h
  cases hc:Qc1 P kt k k0 with
  | none=>rw [hc] at h; cases h
  | some c =>
   rw [hc] at h
   obtain ⟨q',n,m,hq',⟨kk,rfl,rfl⟩,rfl⟩:=Qfv hc
   have h0:=hp.1
   cases hk with
   | int =>
   cases h0 with
   | int =>
   by_cases e:n=m
   ·subst e
    simp only [beq_self_eq_true] at h
    cases h
    exact .inr ⟨0,v0,y,rfl,by simp [Z2,Instr.findNow,Instr.sameNow],hp.2.1,by simp [Z2]⟩
   ·have e':(n==m)=false:=by simpa using e
    rw [e'] at h
    simp only at h
    rcases Qef hq (.int kk n) es l (b+1) (i+1) r hp.2.2 h with ⟨h1,h2⟩ | ⟨j,v,w,h1,h2,h3,h4⟩
    ·exact .inl ⟨h1,by simp [Z2,Instr.findNow,Instr.sameNow,e',h2]⟩
    ·refine .inr ⟨j+1,v,w,by rw [h1]; congr 2; omega,?_,h3,by simpa [Z2] using h4⟩
     simp only [Z2,Instr.findNow,Instr.sameNow,if_true,e',h2]
     congr 3; omega
 | [],_::_,_,_,_,hp,_=>by cases ‹List Value› <;> exact hp.elim
 | _::_,[],_,_,_,hp,_=>hp.elim
 | _::_,[_],_,_,_,hp,_=>hp.elim
theorem Qlt:∀{sl:List (Nat × AV)} {i:Nat} {es:List (AV × AV)},Qev i sl=some es→sl=Xd i es
 | [],i,es,h=>by cases h; rfl
 | [_],i,es,h=>by cases h
 | (a,k)::(b,v)::r,i,es,h=>by
  unfold Qev at h
  split at h
  ·rename_i hc
   simp only [Bool.and_eq_true] at hc
   have h1:=Nat.eq_of_beq_eq_true hc.1
   have h2:=Nat.eq_of_beq_eq_true hc.2
   subst h1; subst h2
   cases hr:Qev (a+2) r with
   | none=>rw [hr] at h; cases h
   | some es'=>rw [hr] at h; cases h; rw [Qlt hr]; rfl
  ·cases h
theorem Qpa {x:AObj} {es:List (AV × AV)} (h:Qh3 x=some es):x=mapO es:=by
 unfold Qh3 at h
 split at h
 ·rename_i nt sl
  split at h
  ·rename_i es' hes
   split at h
   ·rename_i hc
    cases h
    rw [Qlt hes,Nat.eq_of_beq_eq_true hc]
    rfl
   ·cases h
  ·cases h
 ·cases h
theorem Rel.map (h:Rel P B W0 D M ι σ W) {o:Nat} {es:List (AV × AV)} (ho:σ o=some (mapO es)):∃p fn tmps,ι o=some p∧B≤p.blk∧tmps.size=2*es.length ∧
  W.heap[p.blk]?=some (.map (Z2 tmps.toList 0).toArray (tmps.size / 2))∧Qdd M ι tmps.toList es ∧
  W.heap[p.blk]?=some (Qdg { state:=.exhausted,pending:=none,fn,tmps,params:=#[],assign:=.skip,body:=.skip,defers:=p.base }):=by
 obtain ⟨p,fn,hp,_,hB,tmps,hsz,hrec,hsl⟩:=h.loop o _ _ _ _ _ _ _ ho
 refine ⟨p,fn,tmps,hp,hB,hsz,hrec,?_,hrec⟩
 refine Qv3 es tmps.toList 0 (by simpa using hsz) fun t x hx=>?_
 have:=hsl t x hx
 simpa [Array.getD_eq_getD_getElem?] using this
theorem Qs4 (h:Rel P B W0 D M ι σ W) (hfr:∀k,fr≤k→k < res.fr→ι k=none) {t:TypeId} {r:Option Operand} (ho:o.op=.makeMap t r) (he:evalOp P nf C σ fr s o=some (.val res)):Q8 P B W0 D M ι σ fr a o W res:=by
 unfold evalOp at he
 rw [ho] at he
 cases r with
 | some r=>cases he
 | none =>
  cases he
  have hn:=hfr fr (Nat.le_refl _) (by simp)
  have hrel:=h.allocRec hn (fn:=0) (nt:=0) (tmps:=#[]) rfl (sl:=[]) (fun t x hx=>by cases hx) #[] .skip .skip 0 .exhausted none
  refine ⟨.map (some W.heap.size),W.alloc (.map #[] 0),M,ι.put fr ⟨W.heap.size,0,0,0⟩,.inl ?_,.refl _ _,Inj.le_put _ hn,fun k hk=>?_,hrel,fun x hx=>?_⟩
  ·simp [execOp,ho,Instr.makeMap]
  ·exact Inj.put_ne _ _ (by simp at hk; omega)
  ·cases hx
   exact Qb.mp fr _ (Inj.put_same _ _ _)
theorem Qv5 {t:TypeId} {T:TI} {kt et:TypeId} (ht:ti P t=some T) (hk:T.kind=.map kt et):P.underlying t=some (.map kt et):=by
 obtain ⟨d,i,h1,h2,h3,_⟩:=Zw ht
 rw [h3] at hk
 rw [h1]
 cases d <;> simp [V2] at hk
 obtain ⟨rfl,rfl⟩:=hk
 rfl
theorem Qa7 {kt:TypeId} {q:IntKind} {kv:Value} {l:List MapEntry} {r:Option (Nat × Value)} (hq:P.underlying kt=some (.int q)) (h:Instr.findNow (.int q) kv l 0=some r):(Instr.findKey kt kv l).run P W=.ok r W :=
 by simp [Instr.findKey,run_underlying hq,h]
theorem Qaj {kt:TypeId} {q:IntKind} (hq:P.underlying kt=some (.int q)) {kk:IntKind} {n:Int} (e:Bool):(Instr.checkKey e 10000 kt (.int kk n)).run P W=.ok () W:=by
 rw [show (10000:Nat)=9999+1 from rfl]
 generalize 9999=d
 simp [Instr.checkKey,run_underlying hq]
theorem Qcg {r:Nat} {es:Array MapEntry} {clock:Nat} (hb:W.heap[r]?=some (.map es clock)):(getObj r).run P W=.ok (.map es clock) W:=by
 simp [getObj,Sem.run,hb]
theorem Qpv {r:Nat} {es:Array MapEntry} {clock:Nat} (x:Obj) (hb:W.heap[r]?=some (.map es clock)):(setObj r x).run P W=.ok () (W.putObj r x):=by
 simp [setObj,Sem.run,hb,World.putObj]
theorem Qu5 (h:Rel P B W0 D M ι σ W) (hs:Qi M ι s a.tmps) {t:TypeId} {x ix:Operand} {c:Bool} (ho:o.op=.lookup t x ix c) (he:evalOp P nf C σ fr s o=some (.val res)):Q8 P B W0 D M ι σ fr a o W res:=by
 unfold evalOp at he
 rw [ho] at he
 simp only at he
 unfold Qhi at he
 split at he <;> first | (cases he; done) | skip
 rename_i T ob k hT hx hix
 split at he <;> first | (cases he; done) | skip
 rename_i kt et es hkind hes
 have hu:=Qv5 hT hkind
 cases hσ:σ ob with
 | none=>rw [hσ] at hes; cases hes
 | some y =>
 rw [hσ] at hes
 have hy:=Qpa hes
 subst hy
 obtain ⟨p,fn,tmps,hp,hB,hsz,hblk,hprep,_⟩:=h.map hσ
 have vx:=Qf hs hx
 have vk:=Qf hs hix
 generalize hxe:a.eval x=xv at vx
 generalize hke:a.eval ix=kv at vk
 cases vx with
 | mp _ p' hp' =>
 rw [hp] at hp'; cases hp'
 split at he <;> first | (cases he; done) | skip
 ·rename_i r0 i0 v hk0 hf
  split at he <;> first | (cases he; done) | skip
  cases he
  obtain ⟨q,n,m,hq,⟨kk,rfl,_⟩,_⟩:=Qfv hk0
  rcases Qef hq vk es tmps.toList 0 0 _ hprep hf with ⟨h1,_⟩ | ⟨j,v',w,h1,h2,h3,_⟩
  ·cases h1
  ·cases h1
   cases vk with
   | int =>
   have hfk:=Qa7 (W:=W) hq h2
   have hck:=fun e=>Qaj (W:=W) hq (kk:=kk) (n:=n) e
   cases c with
   | false =>
    refine Qr h (v:=w) ?_ h3
    simp [execOp,ho,hxe,hke,Instr.lookup,run_underlying hu,Qcg hblk,hck,hfk]
   | true =>
    refine Qr h (v:=.tuple #[w,.bool true]) ?_ (.tup _ _ (by simp) fun j x y hx hy=>?_)
    ·simp [execOp,ho,hxe,hke,Instr.lookup,run_underlying hu,Qcg hblk,hck,hfk]
    ·match j with
     | 0=>cases hx; cases hy; exact h3
     | 1=>cases hx; cases hy; exact .bool true
     | j+2=>simp at hx
 ·rename_i r0 z hk0 hf hz
  split at he <;> first | (cases he; done) | skip
  cases he
  obtain ⟨q,n,m,hq,⟨kk,rfl,_⟩,_⟩:=Qfv hk0
  rcases Qef hq vk es tmps.toList 0 0 _ hprep hf with ⟨_,h2⟩ | ⟨j,v',w,h1,_⟩
  ·cases vk with
   | int =>
   have hfk:=Qa7 (W:=W) hq h2
   have hck:=fun e=>Qaj (W:=W) hq (kk:=kk) (n:=n) e
   cases hE:ti P et with
   | none=>rw [hE] at hz; cases hz
   | some E =>
    rw [hE] at hz
    obtain ⟨i,zv,g1,g2,g3,grep,gsh⟩:=Qdp hE hz
    have hzr:=Js (W:=W) g1 g2
    cases c with
    | false =>
     refine Qr h (v:=zv) ?_ (grep M ι)
     simp [execOp,ho,hxe,hke,Instr.lookup,run_underlying hu,Qcg hblk,hck,hfk,hzr]
    | true =>
     refine Qr h (v:=.tuple #[zv,.bool false]) ?_ (.tup _ _ (by simp) fun j x y hx hy=>?_)
     ·simp [execOp,ho,hxe,hke,Instr.lookup,run_underlying hu,Qcg hblk,hck,hfk,hzr]
     ·match j with
      | 0=>cases hx; cases hy; exact grep M ι
      | 1=>cases hx; cases hy; exact .bool false
      | j+2=>simp at hx
  ·cases h1
theorem Qjj (h:Rel P B W0 D M ι σ W) (hs:Qi M ι s a.tmps) {t:TypeId} {m x y:Operand} (ho:o.op=.mapUpdate t m x y∨o.op=.insert t m x y) (he:evalOp P nf C σ fr s o=some (.val res)):Q8 P B W0 D M ι σ fr a o W res:=by
 have he:Qe5 P σ fr s t m x y=some (.val res):=by rcases ho with ho | ho <;> (unfold evalOp at he; rw [ho] at he; exact he)
 have hex:execOp a.eval o=execOp a.eval { o with op:=.mapUpdate t m x y }:=by rcases ho with ho | ho <;> simp [execOp,ho]
 unfold Qe5 at he
 split at he <;> first | (cases he; done) | skip
 rename_i T ob k v hT hm hx hy
 split at he <;> first | (cases he; done) | skip
 rename_i kt et es hkind hes
 have hu:=Qv5 hT hkind
 cases hσ:σ ob with
 | none=>rw [hσ] at hes; cases hes
 | some z =>
 rw [hσ] at hes
 have hz:=Qpa hes
 subst hz
 obtain ⟨p,fn,tmps,hp,hB,hsz,hblk,hprep,hrec⟩:=h.map hσ
 have vm:=Qf hs hm
 have vk:=Qf hs hx
 have vv:=Qf hs hy
 generalize hme:a.eval m=mv at vm
 generalize hke:a.eval x=kv at vk
 generalize hve:a.eval y=vv' at vv
 cases vm with
 | mp _ p' hp' =>
 rw [hp] at hp'; cases hp'
 have fin:∀(tm:Array Value) (es':List (AV × AV)),tm.size=2*es'.length→Qdd M ι tm.toList es'→(Instr.mapUpdate t (.map (some p.blk)) kv vv').run P W=.ok () (W.putObj p.blk (.map (Z2 tm.toList 0).toArray (tm.size / 2))) →
   Q8 P B W0 D M ι σ fr a o W ⟨none,[(ob,mapO es')],fr,[ob]⟩:=fun tm es' hs1 hp1 hr=>by
  refine ⟨undef,W.putObj p.blk (.map (Z2 tm.toList 0).toArray (tm.size / 2)),M,ι,.inr ⟨?_,rfl⟩,.refl _ _,Inj.le_refl _,fun _ _=>rfl,?_,fun x hx=>by cases hx⟩
  ·rw [hex]; simp [execOp,hme,hke,hve,hr]
  ·refine h.setRec hσ hp (x:=mapO es') (ob:=.map (Z2 tm.toList 0).toArray (tm.size / 2)) rfl (.inr ⟨_,_,_,_,_,_,_,fn,tm,rfl,rfl,hs1,fun t x hx=>?_⟩)
   have:=Qkv es' tm.toList 0 hp1 t x hx
   simpa [Array.getD_eq_getD_getElem?] using this
 split at he <;> first | (cases he; done) | skip
 ·rename_i r0 i0 v0 hk0 hf
  cases he
  obtain ⟨q,n,m',hq,⟨kk,rfl,_⟩,_⟩:=Qfv hk0
  rcases Qef hq vk es tmps.toList 0 0 _ hprep hf with ⟨h1,_⟩ | ⟨j,v',w,h1,h2,h3,h4⟩
  ·cases h1
  ·cases h1
   cases hkk:(Z2 tmps.toList 0)[j]? with
   | none=>rw [hkk] at h4; cases h4
   | some e0 =>
    rw [hkk] at h4
    have h4:e0.key=kv:=by simpa using h4
    rw [Nat.zero_add] at h2 ⊢
    refine fin ⟨(tmps.toList.set (2*j) kv).set (2*j+1) vv'⟩ _ (by simp [hsz]) (Qs0 vk vv j hprep) ?_
    have hps:=Qq4 (kv:=kv) (vv:=vv') j 0 hprep
    cases vk with
    | int =>
    have hfk:=Qa7 (W:=W) hq h2
    have hck:=fun e=>Qaj (W:=W) hq (kk:=kk) (n:=n) e
    have hky:(Instr.keyThatStays (.int kk n) (.int kk n)).run P W=.ok (.int kk n) W:=by simp [Instr.keyThatStays,Instr.sameBits]
    simp [Instr.mapUpdate,run_underlying hu,Qcg hblk,hck,hfk,hkk,h4,hky,Qpv _ hblk,World.putObj,hps]
 ·rename_i r0 hk0 hf
  cases he
  obtain ⟨q,n,m',hq,⟨kk,rfl,_⟩,_⟩:=Qfv hk0
  rcases Qef hq vk es tmps.toList 0 0 _ hprep hf with ⟨_,h2⟩ | ⟨j,v',w,h1,_⟩
  ·refine fin ⟨tmps.toList++[kv,vv']⟩ _ (by simp [hsz]; omega) (Qrq vk vv hprep) ?_
   have hps:=Qpf (kv:=kv) (vv:=vv') 0 hprep
   cases vk with
   | int =>
   have hfk:=Qa7 (W:=W) hq h2
   have hck:=fun e=>Qaj (W:=W) hq (kk:=kk) (n:=n) e
   have hc1:tmps.size / 2=es.length:=by omega
   have hc2:(tmps.size+2) / 2=es.length+1:=by omega
   simp [Instr.mapUpdate,run_underlying hu,Qcg hblk,hck,hfk,Qpv _ hblk,World.putObj,hps,hc1,hc2]
  ·cases h1
end
end Go.Ab
namespace Go.Ab
open Go.RowKit
def FW (r:Option Nat):Fence:={ Fence.wide with round:=r }
section
variable {P:Program} {nf:Bool} {C:FuncId→List AV→Option Xj} {B:Nat} {W0 W W':World} {D:List Nat} {M:CM} {ι:Inj} {σ:Sto} {s:Slots} {a:Act} {fr:Nat} {o:Oper} {res:Res}
theorem Qjs {r:Option Nat} {n:Nat} {f:FuncId} {args:Array Value} {R:Ending→World→Prop} (h:Calls P f args W R):CallsIn (FW r) n P f args W R:=by
 have h1:CallsIn Fence.wide n P f args W R:=callsIn_wide.2 h
 cases r with
 | none=>exact h1
 | some l=>exact h1
theorem Qgl (k:Nat):∀(xs:List AV),AV.shiftL k xs=xs.map (AV.shift k)
 | []=>rfl
 | x::xs=>by simp [AV.shiftL,Qgl k xs]
theorem AV.cell_shift (k:Nat) (x:AV):(x.shift k).cell=x.cell:=by cases x <;> simp [AV.shift,AV.cell]
theorem Qb.shift {M:CM} {ι ι':Inj} {k0:Nat} (hι:∀o p,ι o=some p→ι' (k0+o)=some p) {v:Value} {x:AV} (h:Qb M ι v x):Qb M ι' v (x.shift k0):=by
 induction h generalizing ι' k0 with
 | undef h=>exact .undef h
 | bool b=>exact .bool b
 | int k n=>exact .int k n
 | str s=>exact .str s
 | nilp=>exact .nilp
 | nils=>exact .nils
 | nilf=>exact .nilf
 | nilm=>exact .nilm
 | nili=>exact .nili
 | emp a=>exact .emp a
 | emn a c=>exact .emn a c
 | lin o i n h ih=>exact ih hι
 | lst0 a fl=>exact .lst0 a fl
 | ref0 a o p hp hz=>exact .ref0 a _ p (hι _ _ hp) hz
 | fz b off cs f hcs hm hr ih=>exact .fz b off cs f hcs hm hr
 | lst b off cap w fl xs f hcap hfl hc hm hr ih=>exact .lst b off cap w fl xs f hcap hfl hc hm hr
 | ref o i n p off cap hp hi hcap hoff=>exact .ref _ i n p off cap (hι _ _ hp) hi hcap hoff
 | ptr o i c p hp=>exact .ptr _ i c p (hι _ _ hp)
 | mp o p hp=>exact .mp _ p (hι _ _ hp)
 | yld o p hp=>exact .yld _ p (hι _ _ hp)
 | ifc t v' v hr ih=>exact .ifc t v' _ (ih hι)
 | fn f first' caps' first caps hy hm h1 h2 hr1 hr2 ih1 ih2 =>
  simp only [AV.shift,Qgl]
  refine .fn f first' caps' _ _ hy hm (by simpa using h1) (by simpa using h2) (fun j v y hv hy=>?_) (fun j v y hv hy=>?_)
  ·simp only [List.getElem?_map,Option.map_eq_some_iff] at hy
   obtain ⟨z,hz,rfl⟩:=hy
   exact ih1 j v z hv hz hι
  ·simp only [List.getElem?_map,Option.map_eq_some_iff] at hy
   obtain ⟨z,hz,rfl⟩:=hy
   exact ih2 j v z hv hz hι
 | agg cs' cs h hc hr ih =>
  simp only [AV.shift,Qgl]
  refine .agg cs' _ (by simpa using h) (fun y hy=>?_) (fun j v y hv hy=>?_)
  ·obtain ⟨z,hz,rfl⟩:=List.mem_map.1 hy
   rw [AV.cell_shift]; exact hc z hz
  ·simp only [List.getElem?_map,Option.map_eq_some_iff] at hy
   obtain ⟨z,hz,rfl⟩:=hy
   exact ih j v z hv hz hι
 | tup vs' vs h hr ih =>
  simp only [AV.shift,Qgl]
  refine .tup vs' _ (by simpa using h) (fun j v y hv hy=>?_)
  simp only [List.getElem?_map,Option.map_eq_some_iff] at hy
  obtain ⟨z,hz,rfl⟩:=hy
  exact ih j v z hv hz hι
theorem Qoa {xs:List AV}:AV.clsL xs=true↔∀x∈xs,AV.cls x=true:=by
 induction xs with
 | nil=>simp [AV.clsL]
 | cons x xs ih=>simp [AV.clsL,ih]
theorem Qb.of_cls {M M':CM} {ι:Inj} {v:Value} {x:AV} (h:Qb M ι v x) (hc:x.cls=true):Qb M' ι v x:=by
 induction h with
 | undef h=>exact .undef h
 | bool b=>exact .bool b
 | int k n=>exact .int k n
 | str s=>exact .str s
 | nilp=>exact .nilp
 | nils=>exact .nils
 | nilf=>exact .nilf
 | nilm=>exact .nilm
 | nili=>exact .nili
 | emp a=>exact .emp a
 | emn a c=>exact .emn a c
 | lin o i n h ih=>exact .lin o i n (ih (by simp [AV.cls]))
 | lst0 a fl=>exact .lst0 a fl
 | ref0 a o p hp hz=>exact .ref0 a _ p hp hz
 | fz b off cs f hcs hm hr ih=>simp [AV.cls] at hc
 | lst b off cap w fl xs f hcap hfl hcc hm hr ih=>simp [AV.cls] at hc
 | ref o i n p off cap hp hi hcap hoff=>exact .ref _ i n p off cap hp hi hcap hoff
 | ptr o i c p hp=>exact .ptr _ i c p hp
 | mp o p hp=>exact .mp _ p hp
 | yld o p hp=>exact .yld _ p hp
 | ifc t v' v hr ih=>exact .ifc t v' _ (ih (by simpa [AV.cls] using hc))
 | fn f first' caps' first caps hy hm h1 h2 hr1 hr2 ih1 ih2 =>
  simp only [AV.cls,Bool.and_eq_true,Qoa] at hc
  exact .fn f first' caps' _ _ hy hm h1 h2 (fun j v y hv hy=>ih1 j v y hv hy (hc.1 y (List.mem_of_getElem? hy))) (fun j v y hv hy=>ih2 j v y hv hy (hc.2 y (List.mem_of_getElem? hy)))
 | agg cs' cs h hcc hr ih =>
  simp only [AV.cls,Qoa] at hc
  exact .agg cs' _ h hcc (fun j v y hv hy=>ih j v y hv hy (hc y (List.mem_of_getElem? hy)))
 | tup vs' vs h hr ih =>
  simp only [AV.cls,Qoa] at hc
  exact .tup vs' _ h (fun j v y hv hy=>ih j v y hv hy (hc y (List.mem_of_getElem? hy)))
theorem Qgk : ∀(objs:List AObj) (k i:Nat) (e:Nat × AObj),e∈Vs k i objs↔∃j x,objs[j]?=some x∧e=(i+j,Qho k x)
 | [],k,i,e=>by simp [Vs]
 | x::xs,k,i,e=>by
  simp only [Vs,List.mem_cons,Qgk xs k (i+1) e]
  constructor
  ·rintro (rfl | ⟨j,y,h1,rfl⟩)
   ·exact ⟨0,x,rfl,rfl⟩
   ·exact ⟨j+1,y,by simpa using h1,by congr 1; omega⟩
  ·rintro ⟨j,y,h1,rfl⟩
   cases j with
   | zero=>simp at h1; subst h1; exact .inl rfl
   | succ j=>exact .inr ⟨j,y,by simpa using h1,by congr 1; omega⟩
theorem Qrt {x:AObj} (h:x.okRow=true):∃fl w xs,x=.row false false true fl w xs:=by
 unfold AObj.okRow at h
 split at h
 ·exact ⟨_,_,_,rfl⟩
 ·cases h
theorem Q1g (σ:Sto) (objs:List AObj) (hok:objs.all AObj.okRow=true) (k:Nat):(∀j x,objs[j]?=some x→σ.puts (Vs k k objs) (k+j)=some x)∧∀m,m < k∨k+objs.length≤m→σ.puts (Vs k k objs) m=σ m:=by
 have hsh:∀x∈objs,Qho k x=x:=fun x hx=>by
  obtain ⟨fl,w,xs,rfl⟩:=Qrt (List.all_eq_true.1 hok x hx)
  simp [Qho]
 constructor
 ·intro j x hj
  rcases σ.puts_at (Vs k k objs) (k+j) with ⟨_,h2⟩ | ⟨y,h1,h2⟩
  ·exact absurd rfl (h2 (k+j,Qho k x) ((Qgk _ _ _ _).2 ⟨j,x,hj,rfl⟩))
  ·obtain ⟨j',x',h3,h4⟩:=(Qgk _ _ _ _).1 h2
   simp only [Prod.mk.injEq] at h4
   obtain ⟨h5,h6⟩:=h4
   have:j=j':=by omega
   subst this
   rw [hj] at h3; cases h3
   rw [h1,h6,hsh x (List.mem_of_getElem? hj)]
 ·intro m hm
  rcases σ.puts_at (Vs k k objs) m with ⟨h1,_⟩ | ⟨y,h1,h2⟩
  ·exact h1
  ·obtain ⟨j',x',h3,h4⟩:=(Qgk _ _ _ _).1 h2
   simp only [Prod.mk.injEq] at h4
   have:=(List.getElem?_eq_some_iff.1 h3).1
   omega
theorem Qhc (h:Rel P B W0 D M ι σ W) {objs:List AObj} (hok:objs.all AObj.okRow=true) {W1:World} {M1:CM} {ι1:Inj}
  (h1:Rel P W.heap.size W [] M1 ι1 (fun k=>objs[k]?) W1) (hfr:∀k,fr≤k→k < fr+objs.length→ι k=none)
  {M2:CM} (hM:CM.Grow W.heap.size M M2) (ha:Qgj M2 W1)
  (hM12:∀b k,W.heap.size≤b→M1 b k=none→M2 b k=none)
  (hobj:∀(j:Nat) (x:AObj) (fl:Bool) (w:Nat) (xs:List AV),objs[j]?=some x→x=.row false false true fl w xs→∀z∈xs,∀y∈z.flat,∀u,Qb M1 ι1 u y→Qb M2 noInj u y) :
  Rel P B W0 D M2 (fun k=>if fr≤k∧k < fr+objs.length then ι1 (k - fr) else ι k) (σ.puts (Vs fr fr objs)) W1:=by
 have hrel:=h.old h1.below
 obtain ⟨p1,p2⟩:=Q1g σ objs hok fr
 have hle:ι.le (fun k=>if fr≤k∧k < fr+objs.length then ι1 (k - fr) else ι k):=fun k q hk=>by
  by_cases e:fr≤k∧k < fr+objs.length
  ·rw [hfr k e.1 e.2] at hk; cases hk
  ·simp only [e,if_false]; exact hk
 have hcase:∀k,(∃j x,k=fr+j∧objs[j]?=some x∧σ.puts (Vs fr fr objs) k=some x∧(if fr≤k∧k < fr+objs.length then ι1 (k - fr) else ι k)=ι1 j)∨(σ.puts (Vs fr fr objs) k=σ k∧(if fr≤k∧k < fr+objs.length then ι1 (k - fr) else ι k)=ι k):=by
  intro k
  by_cases e:fr≤k∧k < fr+objs.length
  ·left
   have hj:k - fr < objs.length:=by omega
   refine ⟨k - fr,objs[k - fr],by omega,List.getElem?_eq_getElem hj,?_,by rw [if_pos e]⟩
   have:=p1 (k - fr) _ (List.getElem?_eq_getElem hj)
   rw [show fr+(k - fr)=k by omega] at this
   exact this
  ·right
   exact ⟨p2 k (by omega),by rw [if_neg e]⟩
 have hin1:∀j x,objs[j]?=some x→∃fl w xs p,x=.row false false true fl w xs∧ι1 j=some p∧Qhw W.heap.size M1 ι1 W1 false true fl w xs p:=by
  intro j x hj
  obtain ⟨fl,w,xs,rfl⟩:=Qrt (List.all_eq_true.1 hok x (List.mem_of_getElem? hj))
  obtain ⟨p,hp,hr⟩:=h1.row j _ _ _ _ _ _ hj
  exact ⟨fl,w,xs,p,rfl,hp,hr⟩
 have hold:∀k bx nr fl w xs p,σ k=some (.row bx false nr fl w xs)→ι k=some p→p.blk < W.heap.size∨(p.cap=0∧p.base=0):=by
  intro k bx nr fl w xs p hk hp
  obtain ⟨q,hq,hr⟩:=h.row k _ _ _ _ _ _ hk
  rw [hp] at hq; cases hq
  rcases Nat.eq_zero_or_pos p.cap with hz | hz
  ·exact .inr ⟨hz,by rcases hr.cpos with h4 | h4 <;> omega⟩
  left
  obtain ⟨v,hv⟩:=Option.isSome_iff_exists.1 ((hr.own rfl).2 0 (Nat.mul_pos hz hr.pos)).1
  exact World.block_lt_of_cell? W _ hv
 refine ⟨hrel.size,hrel.below,hrel.defs,ha,fun k bx1 nr1 fl1 w1 xs1 q j hk hq hj=>?_,?_,?_,?_,?_,?_⟩
 ·rcases hcase k with ⟨i,x,rfl,hi,e1,e2⟩ | ⟨e1,e2⟩
  ·rw [e1] at hk; cases hk
   refine ⟨(h1.cool _ _ _ _ _ _ _ _ hi (by rw [←e2]; exact hq) hj).1,?_⟩
   rw [hM.keepC]
   obtain ⟨fl',w',xs',p',hx',hp',hr'⟩:=hin1 i _ hi
   cases hx'
   have:p'=q:=by rw [e2,hp'] at hq; exact Option.some.inj hq
   subst this
   exact h.kcFresh (hr'.own rfl).1
  ·rw [e1] at hk
   rw [hM.keepC]
   exact hrel.cool _ _ _ _ _ _ _ _ hk (by rw [←e2]; exact hq) hj
 ·intro k bx ro nr fl w xs hk
  rcases hcase k with ⟨j,x,rfl,hj,e1,e2⟩ | ⟨e1,e2⟩
  ·rw [e1] at hk
   obtain ⟨fl',w',xs',p,rfl,hp,hr⟩:=hin1 j x hj
   cases hk
   refine ⟨p,by rw [e2]; exact hp,⟨hr.pw,hr.pos,hr.cpos,hr.len,hr.shaped,hr.nr,hr.fl,fun i j' x y hi hj'=>?_,fun _=>⟨Nat.le_trans h.size (hr.own rfl).1,fun m hm=>⟨((hr.own rfl).2 m hm).1,hM12 _ _ (hr.own rfl).1 ((hr.own rfl).2 m hm).2⟩⟩,fun hf=>by cases hf⟩⟩
   obtain ⟨v,hv,hrep⟩:=hr.cells i j' x y hi hj'
   exact ⟨v,hv,(hobj j _ _ _ _ hj rfl x (List.mem_of_getElem? hi) y (List.mem_of_getElem? hj') v hrep).mono (CM.le_refl _) (Inj.noInj_le _)⟩
  ·rw [e1] at hk
   obtain ⟨p,hp,hr⟩:=hrel.row k bx ro nr fl w xs hk
   refine ⟨p,by rw [e2]; exact hp,⟨hr.pw,hr.pos,hr.cpos,hr.len,hr.shaped,hr.nr,hr.fl,fun i j x y hi hj=>?_,fun hro=>⟨(hr.own hro).1,fun m hm=>⟨((hr.own hro).2 m hm).1,?_⟩⟩,fun hro i j x y hi hj=>?_⟩⟩
   ·obtain ⟨v,hv,hrep⟩:=hr.cells i j x y hi hj
    exact ⟨v,hv,hrep.mono hM.le hle⟩
   ·subst hro
    rcases hold k _ _ _ _ _ p hk hp with hq | ⟨hz,_⟩
    ·rw [hM.old _ _ hq]; exact ((hr.own rfl).2 m hm).2
    ·rw [hz] at hm; simp at hm
   ·obtain ⟨v,hv,hrep⟩:=hr.imm hro i j x y hi hj
    exact ⟨v,hM.le _ _ _ hv,hrep.mono hM.le (Inj.le_refl _)⟩
 ·intro k fn sl ps as bd st pe hk
  rcases hcase k with ⟨j,x,rfl,hj,e1,e2⟩ | ⟨e1,e2⟩
  ·rw [e1] at hk
   obtain ⟨fl',w',xs',p,rfl,hp,hr⟩:=hin1 j x hj
   cases hk
  ·rw [e1] at hk
   obtain ⟨q,nt,hq,hnt,hb,tmps,hsz,hrec,hsl⟩:=hrel.loop k fn sl ps as bd st pe hk
   exact ⟨q,nt,by rw [e2]; exact hq,by rw [hM.keep]; exact hnt,hb,tmps,hsz,hrec,Qeb hM.le hle hsl⟩
 ·intro k k' bx nr fl w xs bx' nr' fl' w' xs' q q' hkk hk hk' hq hq'
  rcases hcase k with ⟨j,x,rfl,hj,e1,e2⟩ | ⟨e1,e2⟩
  ·rw [e1] at hk; rw [e2] at hq
   obtain ⟨fl2,w2,xs2,p,rfl,hp,hr⟩:=hin1 j x hj
   rw [hp] at hq; cases hq
   rcases hcase k' with ⟨j',x',rfl,hj',e1',e2'⟩ | ⟨e1',e2'⟩
   ·rw [e1'] at hk'; rw [e2'] at hq'
    obtain ⟨fl3,w3,xs3,p',rfl,hp',hr'⟩:=hin1 j' x' hj'
    rw [hp'] at hq'; cases hq'
    exact h1.apart j j' _ _ _ _ _ _ _ _ _ _ _ _ (by omega) hj hj' hp hp'
   ·rw [e1'] at hk'; rw [e2'] at hq'
    rcases hold k' _ _ _ _ _ q' hk' hq' with hq2 | ⟨hz,hb⟩
    ·left
     have:=(hr.own rfl).1
     omega
    ·right; right
     rw [hz,hb]; simp
  ·rw [e1] at hk; rw [e2] at hq
   rcases hcase k' with ⟨j',x',rfl,hj',e1',e2'⟩ | ⟨e1',e2'⟩
   ·rw [e1'] at hk'; rw [e2'] at hq'
    obtain ⟨fl3,w3,xs3,p',rfl,hp',hr'⟩:=hin1 j' x' hj'
    rw [hp'] at hq'; cases hq'
    rcases hold k _ _ _ _ _ q hk hq with hq2 | ⟨hz,hb⟩
    ·left
     have:=(hr'.own rfl).1
     omega
    ·right; left
     rw [hz,hb]; simp
   ·rw [e1'] at hk'; rw [e2'] at hq'
    exact h.apart _ _ _ _ _ _ _ _ _ _ _ _ _ _ hkk hk hk' hq hq'
 ·intro k k' fn sl ps as bd st pe fn' sl' ps' as' bd' st' pe' q q' hkk hk hk' hq hq'
  rcases hcase k with ⟨j,x,rfl,hj,e1,e2⟩ | ⟨e1,e2⟩
  ·rw [e1] at hk
   obtain ⟨fl',w',xs',p,rfl,hp,hr⟩:=hin1 j x hj
   cases hk
  ·rcases hcase k' with ⟨j',x',rfl,hj',e1',e2'⟩ | ⟨e1',e2'⟩
   ·rw [e1'] at hk'
    obtain ⟨fl',w',xs',p,rfl,hp,hr⟩:=hin1 j' x' hj'
    cases hk'
   ·rw [e1] at hk; rw [e2] at hq; rw [e1'] at hk'; rw [e2'] at hq'
    exact h.loops _ _ _ _ _ _ _ _ _ _ _ _ _ _ _ _ _ _ hkk hk hk' hq hq'
 ·intro k hk
  rcases hcase k with ⟨j,x,rfl,hj,e1,e2⟩ | ⟨e1,e2⟩
  ·rw [e2] at hk
   obtain ⟨fl',w',xs',p,rfl,hp,hr⟩:=hin1 j x hj
   rw [hp] at hk; cases hk
  ·rw [e2] at hk; rw [e1]; exact h.used k hk
theorem Qt5 (b k:Nat):Z0 M W (inC σ ι []) b k=M b k:=by
 cases hm:M b k with
 | some v=>exact addM_le _ _ _ _ _ _ hm
 | none=>exact Qkq hm (by rintro ⟨o,ho,_⟩; simp at ho)
theorem Rel.behind (h:Rel P B W0 D M ι σ W) {W1:World} {M1:CM} (h1:Rel P W.heap.size W [] M1 noInj (fun _=>none) W1):Rel P B W0 D M1 noInj (fun _=>none) W1:=by
 have h2:=h.old h1.below
 exact ⟨h2.size,h2.below,h2.defs,h1.agree,fun o bx nr fl w xs p k ho=>(by cases ho),fun o bx ro nr fl w xs ho=>(by cases ho),fun o fn sl ps as bd st pe ho=>(by cases ho),fun o o' bx nr fl w xs bx' nr' fl' w' xs' p p' _ ho=>(by cases ho),fun o o' fn sl ps as bd st pe fn' sl' ps' as' bd' st' pe' p p' _ ho=>(by cases ho),fun o _=>.inl rfl⟩
theorem Rel.empty (h:Rel P B W0 D M ι σ W):Rel P B W0 D M noInj (fun _=>none) W :=
 ⟨h.size,h.below,h.defs,h.agree,fun o bx nr fl w xs p k ho=>(by cases ho),fun o bx ro nr fl w xs ho=>(by cases ho),fun o fn sl ps as bd st pe ho=>(by cases ho),fun o o' bx nr fl w xs bx' nr' fl' w' xs' p p' _ ho=>(by cases ho),fun o o' fn sl ps as bd st pe fn' sl' ps' as' bd' st' pe' p p' _ ho=>(by cases ho),fun o _=>.inl rfl⟩
theorem Qc4 {f:FuncId} {fn:Func} (hf:P.funcs[f]?=some fn) (hb:fn.body.isSome=true) (hn:(fn.name == "runtime.NumGoroutine")=false) (args:Array Value) (W:World):(callFunc f args).run P W=.ok (.enter f args) W:=by
 have hb':¬ fn.body=none:=fun e=>by rw [e] at hb; cases hb
 have hn':¬ fn.name = "runtime.NumGoroutine" := by simpa using hn
 simp [callFunc,hf,hn',hb']
theorem Qnp {α:Type} {as bs cs:List α} {xs ys zs:Array Value} (h1:xs.size=as.length) (h2:ys.size=bs.length) (h3:zs.size=cs.length) {Φ:Value→α→Prop}
  (k1:∀(j:Nat) (v:Value) (y:α),xs[j]?=some v→as[j]?=some y→Φ v y) (k2:∀(j:Nat) (v:Value) (y:α),ys[j]?=some v→bs[j]?=some y→Φ v y) (k3:∀(j:Nat) (v:Value) (y:α),zs[j]?=some v→cs[j]?=some y→Φ v y) :
  ∀(j:Nat) (v:Value) (y:α),(xs++ys++zs)[j]?=some v→(as++bs++cs)[j]?=some y→Φ v y:=by
 intro j v y hv hy
 rcases Nat.lt_or_ge j (as.length+bs.length) with h | h
 ·rw [Array.getElem?_append_left (by simp; omega)] at hv
  rw [List.getElem?_append_left (by simp; omega)] at hy
  rcases Nat.lt_or_ge j as.length with h' | h'
  ·rw [Array.getElem?_append_left (by omega)] at hv
   rw [List.getElem?_append_left (by omega)] at hy
   exact k1 j v y hv hy
  ·rw [Array.getElem?_append_right (by omega),h1] at hv
   rw [List.getElem?_append_right (by omega)] at hy
   exact k2 _ v y hv hy
 ·rw [Array.getElem?_append_right (by simp; omega)] at hv
  rw [List.getElem?_append_right (by simp; omega)] at hy
  simp only [Array.size_append,h1,h2] at hv
  simp only [List.length_append] at hy
  exact k3 _ v y hv hy
structure Qoh (P:Program) (B:Nat) (W0:World) (D:List Nat) (M:CM) (ι:Inj) (σ:Sto) (fr:Nat) (a:Act) (o:Oper) (next:Act→World→Prop) (Q:Exit→Act→World→Prop) (out:Qad):Prop where
 val:∀res,out=.val res→∀v W' M' ι',CM.Grow B M M'→ι.le ι'→(∀k,k < fr∨res.fr≤k→ι' k=ι k)→Rel P B W0 D M' ι' (σ.puts res.eff) W'→(∀x,res.v=some x→Qb M' ι' v x)→next (a.put o.dst v) W'
 pan:∀pv,out=.pan pv→∀v W' M',CM.Grow B M M'→Rel P B W0 D M' noInj (fun _=>none) W'→Qb M' noInj v pv→Q (.panic [{ v,recovered:=false }]) a W'
theorem Qwv (hC:Qj2 P C) (h:Rel P B W0 D M ι σ W) (hs:Qi M ι s a.tmps) {g:Operand} {args:Array Operand} {ts:Array TypeId} (ho:o.op=.call { callee:=.value g,args,argTypes:=ts }) {out:Qad}
  (he:evalOp P nf C σ fr s o=some out) (hfr:∀res,out=.val res→∀k,fr≤k→k < res.fr→ι k=none) {r:Option Nat} {n:Nat} {next:Act→World→Prop} {Q:Exit→Act→World→Prop} (hp:Qoh P B W0 D M ι σ fr a o next Q out) :
  o.wpIn (FW r) n P a W next Q:=by
 unfold evalOp at he
 rw [ho] at he
 simp only at he
 split at he
 ·rename_i f first caps as hg has
  have hgv:=Qf hs hg
  generalize hgu:a.eval g=gu at hgv
  cases hgv with
  | fn _ first' caps' _ _ hy hm h1 h2 hr1 hr2 =>
  obtain ⟨l1,e1⟩:=Kq hs has
  unfold Qgu at he
  split at he
  ·rename_i as' ids hsn
   obtain ⟨ml,mat⟩:=Kc hsn
   have hrep:∀(j:Nat) (v:Value) (y:AV),(first'++args.map a.eval++caps')[j]?=some v→(first++as++caps)[j]?=some y→Qb M ι v y :=
    Qnp h1 (by simpa using l1.symm) h2 hr1 (fun j v y hv hy=>by
     simp only [Array.getElem?_map,Option.map_eq_some_iff] at hv
     obtain ⟨w,hw,rfl⟩:=hv
     exact (e1 j w y (by simpa using hw) hy).2) hr2
   have hle:=addM_le M W (inC σ ι ids)
   have hargs:∀(j:Nat) (v:Value) (y:AV),(first'++args.map a.eval++caps')[j]?=some v→as'[j]?=some y→Qb (Z0 M W (inC σ ι ids)) noInj v y:=by
    intro j v y hv hy
    obtain ⟨x0,is,q1,q2,q3⟩:=Xt hsn hy
    exact Va h ids Qm x0 y is v q2 q3 (hrep j v x0 hv q1)
   have hsize:(first'++args.map a.eval++caps').size=as'.length:=by
    rw [ml]; simp only [Array.size_append,Array.size_map,List.length_append,h1,h2,l1,Array.length_toList]
   have main:∀cout,C f as'=some cout→(∀v W1 M1 ι1,(match cout with
      | .ret r objs=>CM.Grow W.heap.size (Z0 M W (inC σ ι ids)) M1→Rel P W.heap.size W [] M1 ι1 (fun k=>objs[k]?) W1→(∀k,objs.length≤k→ι1 k=none)→Qb M1 ι1 v r→next (a.put o.dst v) W1
      | .pan pv=>CM.Grow W.heap.size (Z0 M W (inC σ ι ids)) M1→Rel P W.heap.size W [] M1 noInj (fun _=>none) W1→Qb M1 noInj v pv→Q (.panic [{ v,recovered:=false }]) a W1))→o.wpIn (FW r) n P a W next Q:=by
    intro cout hco hpost
    obtain ⟨hok,fn,hf,hb,hn⟩:=hC f as' cout hco
    refine ⟨fun _ _=>trivial,?_⟩
    rw [Oper.semAt_eq _ _ _ (by rw [ho]; simp)]
    have hrun:(execOp a.eval o).run P W=.ok (.enter f (first'++args.map a.eval++caps')) W:=by
     simp only [execOp,ho,resolve,hgu,Deferred.ofValue,Sem.run_bind,Sem.run_pure,Result.andThen_ok,invoke]
     exact Qc4 hf hb hn _ W
    rw [hrun,Oper.uponIn_enter]
    refine ⟨fun hd=>by simp [FW,Fence.wide] at hd,Qjs ((hok W (Z0 M W (inC σ ι ids)) _ (Qek h.agree) hsize hargs).mono ?_)⟩
    intro e W1 he1
    cases cout with
    | ret r objs =>
     obtain ⟨v,M1,ι1,rfl,q1,q2,q3,q4⟩:=he1
     exact hpost v W1 M1 ι1 q1 q2 q3 q4
    | pan pv =>
     obtain ⟨v,M1,rfl,q1,q2,q3⟩:=he1
     exact hpost v W1 M1 noInj q1 q2 q3
   split at he
   ·rename_i r0 objs hco
    split at he
    ·rename_i hobjs
     refine main _ hco ?_
     intro v W1 M1 ι1 hgrow hrel1 hout hv
     have hdom:∀b k v,M b k=some v→b < W.heap.size:=fun b k v hm=>h.lt hm
     have nrobj:∀(j:Nat) (x:AObj) (fl:Bool) (w:Nat) (xs:List AV),objs[j]?=some x→x=.row false false true fl w xs→∀z∈xs,∀y∈z.flat,y.nr=true:=by
      intro j x fl w xs hj hx z hz y hy
      subst hx
      obtain ⟨p,hp,hr⟩:=hrel1.row j _ _ _ _ _ _ hj
      exact AV.nr_flat (Q0.1 (hr.nr rfl) z hz) y hy
     have hsh:∀(k0:Nat) (M2:CM),Qb M2 ι1 v r0→Qb M2 (fun k=>if fr≤k∧k < fr+objs.length then ι1 (k - fr) else ι k) v (r0.shift fr):=by
      intro k0 M2 hv2
      refine hv2.shift (fun o p hp=>?_)
      have hlt:o < objs.length:=by
       rcases Nat.lt_or_ge o objs.length with e | e
       ·exact e
       ·rw [hout o e] at hp; cases hp
      rw [if_pos ⟨by omega,by omega⟩,show fr+o - fr=o by omega]; exact hp
     have hfr':∀(res:Res),out=.val res→res.fr=fr+objs.length→∀k,fr≤k→k < fr+objs.length→ι k=none:=fun res hr hf k hk1 hk2=>hfr res hr k hk1 (by omega)
     have hle':∀(res:Res),out=.val res→res.fr=fr+objs.length→ι.le (fun k=>if fr≤k∧k < fr+objs.length then ι1 (k - fr) else ι k):=fun res hr hf k q hk=>by
      by_cases e:fr≤k∧k < fr+objs.length
      ·rw [hfr' res hr hf k e.1 e.2] at hk; cases hk
      ·simp only [e,if_false]; exact hk
     split at he
     ·rename_i hcl
      cases he
      have hfr1:=hfr' _ rfl rfl
      have hle1:=hle' _ rfl rfl
      rw [Bool.or_eq_true] at hcl
      by_cases hids:ids=[]
      ·subst hids
       have hsame:∀b k,b < W.heap.size→M1 b k=M b k:=fun b k hb=>(hgrow.old b k hb).trans (Qt5 b k)
       have hM:CM.Grow W.heap.size M M1:=⟨CM.le_trans hle hgrow.le,hsame,hgrow.keep,hgrow.keepC,fun b o v hv=>(hgrow.keepF b o v hv).trans (Qt5 b o)⟩
       have key:=Qhc h hobjs hrel1 hfr1 hM hrel1.agree (fun b k _ hn=>hn) (fun j x fl w xs hj hx z hz y hy u hu=>hu.of_nr (nrobj j x fl w xs hj hx z hz y hy))
       exact hp.val _ rfl v W1 M1 _ (hM.mono h.size) hle1 (fun k hk=>by simp only at hk; rw [if_neg (by omega)]) key (fun x hx=>by cases hx; exact hsh 0 M1 hv)
      ·have hcl2:r0.cls=true∧objs.all AObj.flat = true:=by
        rcases hcl with e | e
        ·exact absurd (by simpa using e) hids
        ·simpa using e
       have key:=Qhc h hobjs hrel1 hfr1 (.refl _ _) ⟨fun b o v hm=>by
         rw [hrel1.below.toBelow.cell (p:=⟨b,o,none⟩) (hdom _ _ _ hm)]; exact h.agree _ _ _ hm,fun b x hm=>by
         obtain ⟨k1,k2,k3⟩:=h.agree.keep b x hm
         exact ⟨by rw [hrel1.below.block b (Array.getElem?_eq_some_iff.1 k1).1]; exact k1,k2,k3⟩,fun b o v hm=>by
         obtain ⟨k1,k2⟩:=h.agree.keepC b o v hm
         have hlt:=World.block_lt_of_cell? W _ k1
         exact ⟨by rw [hrel1.below.toBelow.cell (p:=⟨b,o,none⟩) hlt]; exact k1,by rw [hrel1.below.toBelow.frozen (p:=⟨b,o,none⟩) hlt]; exact k2⟩⟩ (fun b k hb _=>by
         cases hm:M b k with
         | none=>rfl
         | some v=>exact absurd (hdom _ _ _ hm) (by omega)) (fun j x fl w xs hj hx z hz y hy u hu=>by
         have hfl:fl=true:=by
          have:=List.all_eq_true.1 hcl2.2 x (List.mem_of_getElem? hj)
          subst hx; exact this
         subst hfl
         obtain ⟨p,hp',hr⟩:=hrel1.row j _ _ _ _ _ _ (hx ▸ hj)
         exact hu.of_sc (Qde.1 (hr.fl rfl z hz) y hy))
       exact hp.val _ rfl v W1 M _ (.refl _ _) hle1 (fun k hk=>by simp only at hk; rw [if_neg (by omega)]) key (fun x hx=>by cases hx; exact hsh 0 M (hv.of_cls hcl2.1))
     ·split at he
      ·rename_i es hfz
       cases he
       have hfr1:=hfr' _ rfl rfl
       have hle1:=hle' _ rfl rfl
       have h':=Qbk h hfz
       have key:=Qhc h' hobjs hrel1 hfr1 hgrow hrel1.agree (fun b k _ hn=>hn) (fun j x fl w xs hj hx z hz y hy u hu=>hu.of_nr (nrobj j x fl w xs hj hx z hz y hy))
       exact hp.val _ rfl v W1 M1 _ ((h.growC ids).trans (hgrow.mono h.size)) hle1 (fun k hk=>by simp only at hk; rw [if_neg (by omega)]) (by rw [Sto.puts_append]; exact key) (fun x hx=>by cases hx; exact hsh 0 M1 hv)
      ·cases he
    ·cases he
   ·rename_i pv hco
    cases he
    refine main _ hco ?_
    intro v W1 M1 ι1 hgrow hrel1 hv
    exact hp.pan _ rfl v W1 M1 ((h.growC ids).trans (hgrow.mono h.size)) (h.behind hrel1) hv
   ·cases he
  ·cases he
 ·cases he
end
end Go.Ab
namespace Go.Ab
open Go.RowKit
def Xa:Op→Bool
 | .panic _=>true
 | .call { callee:=.value _,.. }=>true
 | _=>false
def Z3:Option Qad→Option Qad
 | some (.val r)=>some (.val r)
 | _=>none
def Zq (P:Program) (nf:Bool) (C:FuncId→List AV→Option Xj) (σ:Sto) (fr:Nat) (s:Slots) (o:Oper):Option Qad :=
 if Xa o.op then evalOp P nf C σ fr s o else Z3 (evalOp P nf C σ fr s o)
section
variable {P:Program} {nf:Bool} {C:FuncId→List AV→Option Xj} {B:Nat} {W0 W W':World} {D:List Nat} {M:CM} {ι:Inj} {σ:Sto} {s:Slots} {a:Act} {fr:Nat} {o:Oper} {res:Res}
theorem Qov {r:Option Nat} {n:Nat} {next:Act→World→Prop} {Q:Exit→Act→World→Prop} (hd:Q8 P B W0 D M ι σ fr a o W res) (hnd:∀c,o.op≠.defer c) (hp:Qoh P B W0 D M ι σ fr a o next Q (.val res)):o.wpIn (FW r) n P a W next Q:=by
 obtain ⟨v,W1,M1,ι1,hrun,k1,k2,k3,k4,k5⟩:=hd
 refine ⟨fun _ _=>trivial,?_⟩
 rw [Oper.semAt_eq _ _ _ hnd]
 have hn:=hp.val res rfl v W1 M1 ι1 k1 k2 k3 k4 k5
 rcases hrun with e | ⟨e,rfl⟩
 ·rw [e,Oper.uponIn_value]; exact hn
 ·rw [e,Oper.uponIn_skip]; exact hn
theorem Qws (h:Rel P B W0 D M ι σ W) (hs:Qi M ι s a.tmps) {x:Operand} (ho:o.op=.panic x) {out:Qad} (he:evalOp P nf C σ fr s o=some out) {r:Option Nat} {n:Nat} {next:Act→World→Prop} {Q:Exit→Act→World→Prop}
  (hp:Qoh P B W0 D M ι σ fr a o next Q out):o.wpIn (FW r) n P a W next Q:=by
 unfold evalOp at he
 rw [ho] at he
 simp only at he
 split at he
 ·rename_i t v hx
  split at he
  ·rename_i w hsn
   cases he
   have hv:=Qf hs hx
   have hw:=Va h [] Qm _ w [] _ hsn (fun k hk=>hk) hv
   refine ⟨fun _ _=>trivial,?_⟩
   rw [Oper.semAt_eq _ _ _ (by rw [ho]; simp)]
   have hrun:(execOp a.eval o).run P W=.halt (.panic (a.eval x)) W:=by
    generalize hu:a.eval x=u at hv
    cases hv
    simp [execOp,ho,hu,Instr.panic]
   rw [hrun,Oper.uponIn_panic]
   exact hp.pan _ rfl _ W M (.refl _ _) h.empty (hw.mono (Qu8 h) (Inj.le_refl _))
  ·cases he
 ·cases he
theorem Q0f (hC:Qj2 P C) (h:Rel P B W0 D M ι σ W) (hs:Qi M ι s a.tmps) {out:Qad} (he0:Zq P nf C σ fr s o=some out) (hfr:∀res,out=.val res→∀k,fr≤k→k < res.fr→ι k=none)
  {r:Option Nat} {n:Nat} {next:Act→World→Prop} {Q:Exit→Act→World→Prop} (hp:Qoh P B W0 D M ι σ fr a o next Q out):o.wpIn (FW r) n P a W next Q:=by
 have pure:Xa o.op=false→(∀res,evalOp P nf C σ fr s o=some (.val res)→(∀k,fr≤k→k < res.fr→ι k=none)→Q8 P B W0 D M ι σ fr a o W res)→(∀c,o.op≠.defer c)→o.wpIn (FW r) n P a W next Q:=by
  intro hm hd hnd
  unfold Zq at he0
  rw [hm] at he0
  simp only [Bool.false_eq_true,if_false] at he0
  unfold Z3 at he0
  split at he0
  ·rename_i res he
   cases he0
   exact Qov (hd res he (hfr res rfl)) hnd hp
  ·cases he0
 have he:Xa o.op=true→evalOp P nf C σ fr s o=some out:=fun hm=>by
  unfold Zq at he0
  rw [hm] at he0
  exact he0
 cases ho:o.op with
 | move x=>exact pure (by rw [ho]; rfl) (fun res he _=>Qq2 h hs (.inl ho) he) (by rw [ho]; simp)
 | assign x=>exact pure (by rw [ho]; rfl) (fun res he _=>Qq2 h hs (.inr ho) he) (by rw [ho]; simp)
 | pick c x y=>exact pure (by rw [ho]; rfl) (fun res he _=>Qyc h hs ho he) (by rw [ho]; simp)
 | alloc t=>exact pure (by rw [ho]; rfl) (fun res he hf=>Qxh h hf ho he) (by rw [ho]; simp)
 | box t x=>exact pure (by rw [ho]; rfl) (fun res he hf=>Q0v h hs hf ho he) (by rw [ho]; simp)
 | build t ps=>exact pure (by rw [ho]; rfl) (fun res he _=>Qwy h hs ho he) (by rw [ho]; simp)
 | buildSlice t k ps=>exact pure (by rw [ho]; rfl) (fun res he hf=>Qph h hs hf ho he) (by rw [ho]; simp)
 | load t x=>exact pure (by rw [ho]; rfl) (fun res he _=>Qyk h hs ho he) (by rw [ho]; simp)
 | store t x y=>exact pure (by rw [ho]; rfl) (fun res he _=>Qw4 h hs ho he) (by rw [ho]; simp)
 | nilCheck x=>exact pure (by rw [ho]; rfl) (fun res he _=>Qry h hs ho he) (by rw [ho]; simp)
 | binOp op t x y u=>exact pure (by rw [ho]; rfl) (fun res he _=>Qwa h hs ho he) (by rw [ho]; simp)
 | unOp op t x=>exact pure (by rw [ho]; rfl) (fun res he _=>Qx6 h hs ho he) (by rw [ho]; simp)
 | convert u t x=>exact pure (by rw [ho]; rfl) (fun res he _=>Qsn h hs ho he) (by rw [ho]; simp)
 | makeFunc f x y=>exact pure (by rw [ho]; rfl) (fun res he _=>Qr2 h hs ho he) (by rw [ho]; simp)
 | makeSlice t x y=>exact pure (by rw [ho]; rfl) (fun res he hf=>Qql h hs hf ho he) (by rw [ho]; simp)
 | slice t x lo hi mx=>exact pure (by rw [ho]; rfl) (fun res he _=>Qxk h hs ho he) (by rw [ho]; simp)
 | fieldAddr t x f=>exact pure (by rw [ho]; rfl) (fun res he _=>Qqt h hs ho he) (by rw [ho]; simp)
 | field t x f=>exact pure (by rw [ho]; rfl) (fun res he _=>Qxt h hs ho he) (by rw [ho]; simp)
 | indexAddr t x y=>exact pure (by rw [ho]; rfl) (fun res he _=>Qp0 h hs ho he) (by rw [ho]; simp)
 | index t x y=>exact pure (by rw [ho]; rfl) (fun res he _=>Qxf h hs ho he) (by rw [ho]; simp)
 | makeMap t r=>exact pure (by rw [ho]; rfl) (fun res he hf=>Qs4 h hf ho he) (by rw [ho]; simp)
 | lookup t x y c=>exact pure (by rw [ho]; rfl) (fun res he _=>Qu5 h hs ho he) (by rw [ho]; simp)
 | mapUpdate t m x y=>exact pure (by rw [ho]; rfl) (fun res he _=>Qjj h hs (.inl ho) he) (by rw [ho]; simp)
 | insert t m x y=>exact pure (by rw [ho]; rfl) (fun res he _=>Qjj h hs (.inr ho) he) (by rw [ho]; simp)
 | extract x i=>exact pure (by rw [ho]; rfl) (fun res he _=>Qtd h hs ho he) (by rw [ho]; simp)
 | panic x=>exact Qws h hs ho (he (by rw [ho]; rfl)) hp
 | call c =>
  obtain ⟨cal,args,ts⟩:=c
  cases cal with
  | value g=>exact Qwv hC h hs ho (he (by rw [ho]; rfl)) hfr hp
  | invoke g m=>exact pure (by rw [ho]; rfl) (fun res he _=>by unfold evalOp at he; rw [ho] at he; cases he) (by rw [ho]; simp)
  | builtin b =>
   cases b with
   | len=>exact pure (by rw [ho]; rfl) (fun res he _=>Q1t h hs ho he) (by rw [ho]; simp)
   | cap=>exact pure (by rw [ho]; rfl) (fun res he _=>Q1r h hs ho he) (by rw [ho]; simp)
   | append=>exact pure (by rw [ho]; rfl) (fun res he hf=>Quy h hs hf ho he) (by rw [ho]; simp)
   | copy=>exact pure (by rw [ho]; rfl) (fun res he _=>Qyi h hs ho he) (by rw [ho]; simp)
   | min=>exact pure (by rw [ho]; rfl) (fun res he _=>Qni h hs (.inl rfl) ho he) (by rw [ho]; simp)
   | max=>exact pure (by rw [ho]; rfl) (fun res he _=>Qni h hs (.inr rfl) ho he) (by rw [ho]; simp)
   | _=>exact pure (by rw [ho]; rfl) (fun res he _=>by unfold evalOp at he; rw [ho] at he; cases he) (by rw [ho]; simp)
 | defer c=>unfold Zq evalOp at he0; rw [ho] at he0; cases he0
 | _=>exact pure (by rw [ho]; rfl) (fun res he _=>by unfold evalOp at he; rw [ho] at he; cases he) (by rw [ho]; simp)
end
end Go.Ab
namespace Go.Ab
open Go.RowKit
structure St where
 slots:List (Nat × AV)
 objs:List AObj
 nt:Nat
 deriving Inhabited
inductive Xq where
 | normal | exit (id:Nat) | ret
 deriving DecidableEq,Inhabited
inductive AOut where
 | go (e:Xq) (st:St)
 | pan (v:AV)
 deriving Inhabited
def Xq.exit':Xq→Exit
 | .normal=>.normal
 | .exit id=>.exit id
 | .ret=>.ret
def mk (r:Nat):Deferred:={ target:=.collected r,args:=#[] }
def Inj.leB (base:Nat) (ι ι':Inj):Prop:=∀k p,InB base k→ι k=some p→ι' k=some p
theorem Inj.le.leB {ι ι':Inj} (h:ι.le ι') (base:Nat):Inj.leB base ι ι':=fun k p _ hk=>h k p hk
theorem Inj.leB.refl (base:Nat) (ι:Inj):Inj.leB base ι ι:=fun _ _ _ h=>h
theorem Inj.leB.trans {base:Nat} {ι ι' ι'':Inj} (h:Inj.leB base ι ι') (k:Inj.leB base ι' ι''):Inj.leB base ι ι'':=fun o p ho hp=>k o p ho (h o p ho hp)
structure Qqu (B:Nat) (D0 dl:List Nat) (a:Act):Prop where
 defs:a.defers=dl.map mk
 old:∀r∈dl,B≤r
 nd:(dl++D0).Nodup
structure Sim (P:Program) (B:Nat) (W0:World) (D0 dl:List Nat) (M:CM) (ι:Inj) (st:St) (a:Act) (W:World):Prop where
 rel:Rel P B W0 (dl++D0) M ι (sto st.objs) W
 slots:Qi M ι (lk st.slots) a.tmps
 nt:a.tmps.size=st.nt
 df:Qqu B D0 dl a
 new:∀k,¬ InB st.objs.length k→ι k=none
 big:st.objs.length≤BIG
def Qax (ι:Inj) (rd:Option Nat) (r:Option Nat) (base:Nat):Prop :=
 match rd with
 | none=>r=none
 | some o=>o < base∧∃p,ι o=some p∧r=some p.blk
structure Qkf (P:Program) (base B:Nat) (W0:World) (D0:List Nat) (M:CM) (ι:Inj) (dl:List Nat) (Q:Exit→Act→World→Prop) (out:AOut):Prop where
 go:∀e st,out=.go e st→∀dl' M' ι' a' W',CM.Grow B M M'→Inj.leB base ι ι'→dl <:+ dl'→Sim P B W0 D0 dl' M' ι' st a' W'→Q e.exit' a' W'
 pan:∀v,out=.pan v→∀dl' M' a' W' x,CM.Grow B M M'→dl <:+ dl'→Rel P B W0 (dl'++D0) M' noInj (fun _=>none) W'→Qqu B D0 dl' a'→Qb M' noInj x v→Q (.panic [{ v:=x,recovered:=false }]) a' W'
def Xs (P:Program) (rd:Option Nat) (base:Nat) (c:Code) (st:St) (out:AOut):Prop :=
 ∀B W0 D0 dl M ι a W n Q r,Sim P B W0 D0 dl M ι st a W→Qax ι rd r base→Qkf P base B W0 D0 M ι dl Q out→c.wpIn (FW r) n P Q a W
def OpX (P:Program) (rd:Option Nat) (base:Nat) (o:Oper) (st:St) (out:AOut):Prop :=
 ∀B W0 D0 dl M ι a W n Q r,Sim P B W0 D0 dl M ι st a W→Qax ι rd r base→Qkf P base B W0 D0 M ι dl Q out→o.wpIn (FW r) n P a W (Q .normal) Q
def Qjq (P:Program) (rd:Option Nat) (base:Nat) (ops:Array Oper) (l:List Nat) (st:St) (out:AOut):Prop :=
 ∀B W0 D0 dl M ι a W n Q r,Sim P B W0 D0 dl M ι st a W→Qax ι rd r base→Qkf P base B W0 D0 M ι dl Q out→wpOpsIn (FW r) n P ops Q l a W
def Qjo (P:Program) (rd:Option Nat) (base:Nat) (c:Code) (st:St) (out:AOut):Prop :=
 ∃m,∀B W0 D0 dl M ι a W n Q r,Sim P B W0 D0 dl M ι st a W→Qax ι rd r base→Qkf P base B W0 D0 M ι dl Q out→Code.roundsIn (FW r) n P c Q m a W
def AOut.normal:AOut→Bool
 | .go .normal _=>true
 | _=>false
def AOut.inBlock (id:Nat):AOut→AOut
 | .go (.exit i) st=>if Nat.beq i id then .go .normal st else .go (.exit i) st
 | out=>out
section
variable {P:Program} {rd:Option Nat} {base:Nat} {c x y:Code} {st st1 st2:St} {out:AOut} {B:Nat} {W0 W:World} {D0 dl dl1:List Nat} {M M1:CM} {ι ι1:Inj} {Q:Exit→Act→World→Prop} {a:Act} {r:Option Nat}
theorem Qax.mono (h:Qax ι rd r base) (hι:Inj.leB base ι ι1):Qax ι1 rd r base:=by
 unfold Qax at *
 cases rd with
 | none=>exact h
 | some o=>obtain ⟨h1,p,h2,h3⟩:=h; exact ⟨h1,p,hι _ _ (.inl h1) h2,h3⟩
theorem Qkf.step (h:Qkf P base B W0 D0 M ι dl Q out) (hM:CM.Grow B M M1) (hι:Inj.leB base ι ι1) (hd:dl <:+ dl1):Qkf P base B W0 D0 M1 ι1 dl1 Q out :=
 ⟨fun e st he dl' M' ι' a' W' h1 h2 h3 h4=>h.go e st he dl' M' ι' a' W' (hM.trans h1) (hι.trans h2) (hd.trans h3) h4,
 fun v he dl' M' a' W' x h1 h2 h3 h4 h5=>h.pan v he dl' M' a' W' x (hM.trans h1) (hd.trans h2) h3 h4 h5⟩
theorem Qkf.here {e:Xq} (h:Qkf P base B W0 D0 M ι dl Q (.go e st)) (hs:Sim P B W0 D0 dl M ι st a W):Q e.exit' a W :=
 h.go _ _ rfl dl M ι a W (.refl _ _) (.refl _ _) (List.suffix_refl _) hs
theorem Qzm:Xs P rd base .skip st (.go .normal st):=fun B W0 D0 dl M ι a W n Q r hs hr hp=>wpIn_skip (hp.here hs)
theorem Qw0 {l:Nat}:Xs P rd base (.label l) st (.go .normal st):=fun B W0 D0 dl M ι a W n Q r hs hr hp=>wpIn_label (hp.here hs)
theorem Qx7 {id:Nat}:Xs P rd base (.exit id) st (.go (.exit id) st):=fun B W0 D0 dl M ι a W n Q r hs hr hp=>wpIn_exit (hp.here hs)
theorem Qz2:Xs P rd base .ret st (.go .ret st):=fun B W0 D0 dl M ι a W n Q r hs hr hp=>wpIn_ret (hp.here hs)
theorem exec_seq (h1:Xs P rd base x st (.go .normal st1)) (h2:Xs P rd base y st1 out):Xs P rd base (.seq x y) st out:=by
 intro B W0 D0 dl M ι a W n Q r hs hr hp
 refine wpIn_seq (h1 B W0 D0 dl M ι a W n _ r hs hr ⟨fun e st' he dl' M' ι' a' W' g1 g2 g3 g4=>?_,fun v he=>by cases he⟩)
 cases he
 exact h2 B W0 D0 dl' M' ι' a' W' n Q r g4 (hr.mono g2) (hp.step g1 g2 g3)
theorem Qg8 (h1:Xs P rd base x st out) (hn:out.normal=false):Xs P rd base (.seq x y) st out:=by
 intro B W0 D0 dl M ι a W n Q r hs hr hp
 refine wpIn_seq (h1 B W0 D0 dl M ι a W n _ r hs hr ⟨fun e st' he dl' M' ι' a' W' g1 g2 g3 g4=>?_,fun v he dl' M' a' W' x g1 g2 g3 g4 g5=>hp.pan v he dl' M' a' W' x g1 g2 g3 g4 g5⟩)
 subst he
 have:=hp.go e st' rfl dl' M' ι' a' W' g1 g2 g3 g4
 cases e with
 | normal=>simp [AOut.normal] at hn
 | exit id=>exact this
 | ret=>exact this
theorem Qyq {op:Operand} {b:Bool} (hs:Qi M ι (lk st.slots) a.tmps) (he:evo (lk st.slots) op=some (.bool b)):a.eval op=.bool b:=by
 have:=Qf hs he
 generalize a.eval op=v at this
 cases this
 rfl
theorem exec_cond {op:Operand} {b:Bool} (he:evo (lk st.slots) op=some (.bool b)) (h:Xs P rd base (if b then x else y) st out):Xs P rd base (.cond op x y) st out:=by
 intro B W0 D0 dl M ι a W n Q r hs hr hp
 exact wpIn_cond (Qyq hs.slots he) (h B W0 D0 dl M ι a W n Q r hs hr hp)
theorem exec_block {id:Nat} (h:Xs P rd base c st out):Xs P rd base (.block id c) st (out.inBlock id):=by
 intro B W0 D0 dl M ι a W n Q r hs hr hp
 refine wpIn_block (h B W0 D0 dl M ι a W n _ r hs hr ⟨fun e st' he dl' M' ι' a' W' g1 g2 g3 g4=>?_,fun v he dl' M' a' W' x g1 g2 g3 g4 g5=>?_⟩)
 ·subst he
  cases e with
  | normal=>exact hp.go .normal st' rfl dl' M' ι' a' W' g1 g2 g3 g4
  | ret=>exact hp.go .ret st' rfl dl' M' ι' a' W' g1 g2 g3 g4
  | exit i =>
   show (if i=id then Q .normal a' W' else Q (.exit i) a' W')
   by_cases e:i=id
   ·rw [if_pos e]
    exact hp.go .normal st' (by simp [AOut.inBlock,e]) dl' M' ι' a' W' g1 g2 g3 g4
   ·rw [if_neg e]
    have:Nat.beq i id=false:=by rw [Bool.eq_false_iff]; intro h; exact e (Nat.eq_of_beq_eq_true h)
    exact hp.go (.exit i) st' (by simp [AOut.inBlock,this]) dl' M' ι' a' W' g1 g2 g3 g4
 ·subst he
  exact hp.pan v rfl dl' M' a' W' x g1 g2 g3 g4 g5
theorem Qli (h:Xs P rd base c st out) (hn:out.normal=false):Qjo P rd base c st out:=by
 refine ⟨1,?_⟩
 intro B W0 D0 dl M ι a W n Q r hs hr hp
 show c.wpIn _ n P _ a W
 refine h B W0 D0 dl M ι a W n _ r hs hr ⟨fun e st' he dl' M' ι' a' W' g1 g2 g3 g4=>?_,fun v he dl' M' a' W' x g1 g2 g3 g4 g5=>hp.pan v he dl' M' a' W' x g1 g2 g3 g4 g5⟩
 subst he
 have:=hp.go e st' rfl dl' M' ι' a' W' g1 g2 g3 g4
 cases e with
 | normal=>simp [AOut.normal] at hn
 | exit id=>exact this
 | ret=>exact this
theorem loopX_next (h:Xs P rd base c st (.go .normal st1)) (hl:Qjo P rd base c st1 out):Qjo P rd base c st out:=by
 obtain ⟨m,hm⟩:=hl
 refine ⟨m+1,?_⟩
 intro B W0 D0 dl M ι a W n Q r hs hr hp
 show c.wpIn _ n P _ a W
 refine h B W0 D0 dl M ι a W n _ r hs hr ⟨fun e st' he dl' M' ι' a' W' g1 g2 g3 g4=>?_,fun v he=>by cases he⟩
 cases he
 exact hm B W0 D0 dl' M' ι' a' W' n Q r g4 (hr.mono g2) (hp.step g1 g2 g3)
theorem exec_loop (h:Qjo P rd base c st out):Xs P rd base (.loop c) st out:=by
 obtain ⟨m,hm⟩:=h
 intro B W0 D0 dl M ι a W n Q r hs hr hp
 exact wpIn_loop_rounds m (hm B W0 D0 dl M ι a W n Q r hs hr hp)
section scope
variable {b:Frame} {k:List Item} {cs:List Frame} {w:World}
theorem Quz {c:Code}:step P (lone (b.atR a (.code (.scope c)::k)) cs w)=.next (lone (b.atR a (.code c::.inScope c::k)) cs w) :=
 step_lone_go (by simp [stepG,stepG.exec,Frame.atR])
theorem Qrv {c:Code}:step P (lone (b.atR a (.inScope c::k)) cs w)=.next (lone (b.atR a k) cs w) :=
 step_lone_go (by simp [stepG,stepG.exec,Frame.atR])
theorem Qw9 {F:Fence} {n:Nat} {c:Code} {w:World} (h:c.wpIn F n P (Exit.noGoto Q) a w):(Code.scope c).wpIn F n P Q a w:=by
 intro b k cs hro hb hr
 have h0:StepsIn (Machine.fenced P F) P (lone (b.atR a (.code (.scope c)::k)) cs w) (lone (b.atR a (.code c::.inScope c::k)) cs w):=.one (fenced_calm hb hr rfl) Quz
 obtain ⟨e,a₁,w₁,hq,harr⟩:=h b (.inScope c::k) cs hro hb hr
 cases e with
 | normal=>exact ⟨.normal,a₁,w₁,hq,StepsIn.trans h0 (StepsIn.trans harr (.one (fenced_calm hb hr rfl) Qrv))⟩
 | exit id =>
  have hx:exitTo id (.inScope c::k)=exitTo id k:=by simp [exitTo]
  exact ⟨.exit id,a₁,w₁,hq,fun k' hk=>StepsIn.trans h0 (harr.1 k' (by rw [hx]; exact hk)),
   fun hr' hk=>let ⟨k₁,h1,h2⟩:=harr.2 hr' (by rw [hx]; exact hk); ⟨k₁,h1,StepsIn.trans h0 h2⟩⟩
 | goto l=>exact hq.elim
 | ret=>exact ⟨_,a₁,w₁,hq,.of_steps h0 harr⟩
 | panic ch=>exact ⟨_,a₁,w₁,hq,.of_steps h0 harr⟩
 | outgrown=>exact ⟨_,a₁,w₁,hq,.of_steps h0 harr⟩
end scope
theorem exec_scope (h:Xs P rd base c st out):Xs P rd base (.scope c) st out:=by
 intro B W0 D0 dl M ι a W n Q r hs hr hp
 refine Qw9 (h B W0 D0 dl M ι a W n _ r hs hr ⟨fun e st' he dl' M' ι' a' W' g1 g2 g3 g4=>?_,fun v he dl' M' a' W' x g1 g2 g3 g4 g5=>hp.pan v he dl' M' a' W' x g1 g2 g3 g4 g5⟩)
 have:=hp.go e st' he dl' M' ι' a' W' g1 g2 g3 g4
 cases e <;> exact this
theorem Qux {id:Nat} {ops:Array Oper} (h:Qjq P rd base ops (List.range ops.size) st out):Xs P rd base (.region id ops false) st out :=
 fun B W0 D0 dl M ι a W n Q r hs hr hp=>wpIn_region (h B W0 D0 dl M ι a W n Q r hs hr hp)
theorem Q08 {ops:Array Oper}:Qjq P rd base ops [] st (.go .normal st):=fun B W0 D0 dl M ι a W n Q r hs hr hp=>hp.here hs
end
end Go.Ab
