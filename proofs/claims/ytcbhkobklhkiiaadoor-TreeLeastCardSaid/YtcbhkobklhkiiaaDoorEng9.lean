/- Rules on plain values. No conditions. -/
import Derived.Test.YtcbhkobklhkiiaaDoorEng8
set_option linter.all false
namespace Go.Ab
open Go.RowKit
section
variable {P:Program} {ops:Array Oper} {o:Oper}
theorem Qug {s:Slots} {σ:Sto} {fr:Nat} {v:Option AV} {eff:List (Nat × AObj)} {rds:List Nat} (hw:X0 ops s o=some true) (hnd:∀c,o.op≠.defer c)
  (hd:∀s' σ',(∀x∈o.op.operands,evo s' x=evo s x)→(∀k∈rds,σ' k=σ k)→∀B W0 D M ι a W,Rel P B W0 D M ι σ' W→Qi M ι s' a.tmps→Q8 P B W0 D M ι σ' fr a o W ⟨v,eff,fr,rds⟩) :
  YlL P ops o ⟨v,eff,fr,fr,rds⟩ s σ:=by
 intro s' σ' hs hσ
 refine .inl ⟨by rw [Qap hs]; exact hw,?_⟩
 intro B W0 D M ι a W n Q r next hrel hsl hfree hpost
 refine Qov (hd s' σ' (Ql2 hs) hσ B W0 D M ι a W hrel hsl) hnd ⟨fun res' hr v W' M' ι' g1 g2 g3 g4 g5=>?_,fun pv hpv=>by cases hpv⟩
 cases hr
 exact hpost v W' M' ι' g1 g2 (fun k hk=>g3 k (Nat.lt_or_ge k fr |>.imp_right fun h1=>h1)) g4 g5
theorem Q0b {s:Slots} {σ:Sto} {fr ob:Nat} {v:Option AV} {rds:List Nat} {x:AObj} (hw:X0 ops s o=some true) (hy:YlL P ops o ⟨v,[],fr,fr,rds⟩ s σ) (hx:σ ob=some x) (hin:ob∈rds):YlL P ops o ⟨v,[(ob,x)],fr,fr,rds⟩ s σ:=by
 intro s' σ' hs hσ
 rcases hy s' σ' hs hσ with ⟨h1,h2⟩ | ⟨h1,_⟩
 ·refine .inl ⟨h1,fun B W0 D M ι a W n Q r next hrel hsl hfree hpost=>h2 B W0 D M ι a W n Q r next hrel hsl hfree fun v W' M' ι' g1 g2 g3 g4 g5=>hpost v W' M' ι' g1 g2 g3 ?_ g5⟩
  have:σ'.puts [(ob,x)]=σ':=funext fun k=>by
   show (σ'.put ob x) k=σ' k
   by_cases e:k=ob
   ·subst e; rw [Sto.put_same,hσ k hin,hx]
   ·rw [Sto.put_ne _ _ e]
  show Rel P B W0 D M' ι' (σ'.puts [(ob,x)]) W'
  rw [this]; exact g4
 ·rw [Qap hs,hw] at h1; cases h1
end
section
variable {P:Program} {rd:Option Nat} {base:Nat} {ops:Array Oper} {d:Option (List Sk)} {st S:St} {Φ:AOut→Prop} {i:Nat}
theorem Qwl {v:Option AV} {eff:List (Nat × AObj)} {rds:List Nat} {o:Oper} (ho:Z9 ops i st=some o) (hy:YlL P ops o ⟨v,eff,st.objs.length,st.objs.length,rds⟩ (lk st.slots) st.sto)
  (hS:Zk ops i st v eff=some S) (hl:S.objs.length=st.objs.length) (k:RW P rd base ops (Qw d [(eff.map (·.1),rds)]) (i+1) S Φ):RW P rd base ops d i st Φ:=by
 obtain ⟨h1,h2⟩:=Yo ho
 unfold Zk at hS
 rw [h1] at hS
 simp only at hS
 split at hS
 ·rename_i objs slots ha hp
  cases hS
  exact Qb1 (s:=(eff.map (·.1),rds)) ⟨o,_,h1,Qnn hy rfl hl.symm ha hp rfl,Que (by simp [Foot.sk])⟩ k
 ·cases hS
theorem Qzj {α R:Type} {enc:α→AV} {l:List α} {ob n:Nat} {ro nr fl:Bool} {lo hi:Option AV} {a b:Int} {w:Nat} {A:Option R} {r:R} (hi':Qhn P ops i st=some (.ref ob 0 n,lo,hi,none,w)) (hrow:st.sto ob=some (.row false ro nr fl w (l.map enc)))
  (ha:loI lo=some a) (hb:hiI n hi=some b) (hS:Zk ops i st (some (.ref ob a.toNat (b.toNat - a.toNat))) []=some S)
  (h:(if 0≤a∧a≤b∧b≤l.length then A else none)=some r) (k:(0≤a∧a≤b∧b≤(l.length:Int))→A=some r→RW P rd base ops (Qw d [([],[ob])]) (i+1) S Φ):RW P rd base ops d i st Φ:=by
 split at h
 ·rename_i hc
  obtain ⟨c1,c2,c3⟩:=hc
  obtain ⟨o,ho,hm,hev⟩:=Qng hi'
  refine Y5 (nf:=false) ho (hev (.ref ob a.toNat (b.toNat - a.toNat)) [ob] ?_) hS (Xh hS) (k ⟨c1,c2,c3⟩ h)
  have g1:Nat.ble a.toNat b.toNat = true:=Qak (by omega)
  have g2:Nat.ble b.toNat (l.map enc).length=true:=Qak (by rw [List.length_map]; omega)
  simp only [Ky,hrow,Qvo ha c1,Qvl hb (by omega),Nat.zero_add,g1,g2,Nat.beq_refl,Bool.and_self,if_true]
 ·cases h
theorem Qvz {α R:Type} {enc:α→AV} {l:List α} {ob:Nat} {ro nr fl:Bool} {k1 k2 k3:IntKind} {a b c:Int} {w:Nat} {A:Option R} {r:R} (hi':Qhn P ops i st=some (.ref ob 0 l.length,some (.int k1 a),some (.int k2 b),some (.int k3 c),w)) (hrow:st.sto ob=some (.row false ro nr fl w (l.map enc)))
  (hS:Zk ops i st none []=some S)
  (h:(if 0≤a∧a≤b∧b≤c∧c≤l.length then A else none)=some r) (k:A=some r→RW P rd base ops (Qw d [([],[ob])]) (i+1) S Φ):RW P rd base ops d i st Φ:=by
 split at h
 ·rename_i hc
  obtain ⟨c1,c2,c3,c4⟩:=hc
  have main:∃o,Z9 ops i st=some o∧YlL P ops o ⟨none,[],st.objs.length,st.objs.length,[ob]⟩ (lk st.slots) st.sto:=by
   unfold Qhn at hi'
   split at hi'
   ·rename_i o ho
    split at hi'
    ·rename_i t x lo hh mx hop
     split at hi'
     ·cases hi'
     ·split at hi'
      ·rename_i T a' l' h' m' hT hx h1 h2 h3
       split at hi'
       ·rename_i e hk
        split at hi'
        ·rename_i E hE
         cases hi'
         refine ⟨o,ho,Qug (Yo ho).2 (by rw [hop]; simp) fun s' σ' hs' hσ' B W0 D M ι act W hrel hsl=>?_⟩
         have ev:∀y∈o.op.operands,evo s' y=evo (lk st.slots) y:=hs'
         rw [hop] at ev
         have evx:evo s' x=some (.ref ob 0 l.length):=by rw [ev x (by simp [Op.operands])]; exact hx
         have evl:∀(q:Option Operand) (z:Option AV),(∀u,q=some u→u∈(Op.slice t x lo hh mx).operands)→J5 (lk st.slots) q=some z→J5 s' q=some z:=fun q z hq hz=>by
          cases q with
          | none=>exact hz
          | some u=>simp only [J5] at hz ⊢; rw [ev u (hq u rfl)]; exact hz
         have e1:=evl lo _ (fun u hu=>by subst hu; simp [Op.operands]) h1
         have e2:=evl hh _ (fun u hu=>by subst hu; simp [Op.operands]) h2
         have e3:=evl mx _ (fun u hu=>by subst hu; simp [Op.operands]) h3
         obtain ⟨d0,i0,g1,g2,g3,_⟩:=Zw hT
         rw [g3] at hk; rw [Zn hk] at g1
         obtain ⟨d1,i1,q1,q2,q3,q4,_⟩:=Zw hE
         have hσ0:σ' ob=some (.row false ro nr fl E.size (l.map enc)):=by rw [hσ' ob (by simp)]; exact hrow
         obtain ⟨p,hp,hro⟩:=hrel.row _ _ _ _ _ _ _ hσ0
         have hlen:l.length≤p.cap:=by have:=hro.len; simpa using this
         have o1:Yj (some (AV.int k1 a)) 0=some a.toNat := by simp [Yj,asN]; omega
         have o2:∀n,Yj (some (AV.int k2 b)) n=some b.toNat := fun n=>by simp [Yj,asN]; omega
         have o3:Yj (some (AV.int k3 c)) 0=some c.toNat := by simp [Yj,asN]; omega
         have run:∃v,(execOp act.eval o).run P W=.ok (.value v) W:=by
          have hv:=Qf hsl evx
          have go:∀(bs:Option Addr) (cap:Nat),act.eval x=.slice bs l.length cap→c.toNat ≤ cap→∃v,(execOp act.eval o).run P W=.ok (.value v) W:=fun bs cap hb hcap=>by
           have hsb:=Vk (P:=P) hsl e1 e2 e3 (len:=l.length) (cap:=cap) o1 (o2 _) (.inr ⟨rfl,rfl,o3⟩) (by omega) (by omega) hcap W
           have hr0:(Instr.sliceAt t (act.eval x) (lo.map act.eval) (hh.map act.eval) (mx.map act.eval)).run P W=.ok (.slice (if c.toNat = a.toNat then bs else bs.map (·.add (a.toNat * E.size))) (b.toNat - a.toNat) (c.toNat - a.toNat)) W:=by
            simp only [Instr.sliceAt,Sem.run_bind,run_underlying g1,Result.andThen_ok,Instr.slice,hb,hsb,Xg q2,q4,Sem.run_pure]
           exact ⟨_,by simp [execOp,hop,hr0]; rfl⟩
          generalize hu:act.eval x=u at hv
          generalize hn:l.length=n at hv
          cases hv with
          | ref0 ad _ p' hp' hz =>
           rw [hp] at hp'; cases hp'
           rw [hn] at hlen
           exact go _ 0 (by rw [hu,hn]) (by omega)
          | ref _ _ _ p' off cap hp' hi'' hcap hoff =>
           rw [hp] at hp'; cases hp'
           rw [←hn] at hu
           exact go _ cap hu (by omega)
         obtain ⟨v,hv⟩:=run
         exact ⟨v,W,M,ι,.inl hv,.refl _ _,Inj.le_refl _,fun _ _=>rfl,hrel,fun y hy=>by cases hy⟩
        ·cases hi'
       ·cases hi'
      ·cases hi'
    ·cases hi'
   ·cases hi'
  obtain ⟨o,ho,hy⟩:=main
  exact Qwl ho hy hS (Xh hS) (k h)
 ·cases h
theorem Q3t {α R:Type} {enc:α→AV} {l m:List α} {w bytes ob n0:Nat} {nr fl:Bool} {b:AV} {rds:List Nat} {A:Option R} {r:R} (hi:Qcf P ops i st=some (.ref ob 0 n0,b,w,bytes)) (hrow:st.sto ob=some (.row false false nr fl w (l.map enc)))
  (hel:Xo st.sto w b=some (m.map enc,nr,fl,rds)) (hn:nr=true)
  (hS:Zk ops i st (some (.ref ob 0 (n0+m.length))) [(ob,.row false false nr fl w ((ovr l n0 m).map enc))]=some S) (hl:Nat.beq S.objs.length st.objs.length=true)
  (h:(if n0 < l.length∧n0+m.length≤l.length then A else none)=some r) (k:(n0 < l.length∧n0+m.length≤l.length)→A=some r→RW P rd base ops (Qw d [([ob],rds++[ob])]) (i+1) S Φ):RW P rd base ops d i st Φ:=by
 split at h
 ·rename_i hc
  obtain ⟨o,E,ho,hm,rfl,rfl,hz,hb0,hw0,hev⟩:=Qdy hi
  have h1:Nat.ble (0+n0) (l.map enc).length=true:=Qak (by rw [List.length_map]; omega)
  have h2:Nat.beq (0+n0) (l.map enc).length=false:=by
   cases e:Nat.beq (0+n0) (l.map enc).length with
   | false=>rfl
   | true=>have:=Nat.eq_of_beq_eq_true e; rw [List.length_map] at this; omega
  have h2':(Nat.beq n0 l.length)=false:=by simpa using h2
  have h1':Nat.ble n0 l.length=true:=by simpa using h1
  by_cases hm0:m=[]
  ·subst hm0
   have he:=hev false _ _ _ _ ⟨some (.ref ob 0 n0),[],st.objs.length,[ob]⟩ hel (by simp [hn]) (by
    simp [absAppend,hrow,h1',h2'])
   have hy:=ylL_ev noC_sound (Yo ho).2 he
   have hy2:=Q0b (ob:=ob) (Yo ho).2 hy hrow (by simp)
   have hm':(ovr l n0 ([]:List α)).map enc=l.map enc:=rfl
   rw [hm'] at hS
   exact Qwl ho hy2 hS (Nat.eq_of_beq_eq_true hl) (k hc h)
  ·have hne:(m.map enc).isEmpty=false:=by simp [hm0]
   have h3:Nat.ble (0+n0+(m.map enc).length) (l.map enc).length=true:=Qak (by simp; omega)
   refine Y5 (nf:=false) ho (hev false _ _ _ _ ⟨some (.ref ob 0 (n0+m.length)),[(ob,.row false false nr fl E.size ((ovr l n0 m).map enc))],st.objs.length,[ob]⟩ hel (by simp [hn]) ?_) hS (Nat.eq_of_beq_eq_true hl) (k hc h)
   have h4:=Qp6 enc m l n0
   have hm1:m.isEmpty=false:=by simpa using hm0
   have h3':Nat.ble (n0+m.length) l.length=true:=by simpa using h3
   simp [absAppend,hrow,h1',h2',hm0,h3',h4]
 ·cases h
def Qvp (P:Program) (ops:Array Oper) (i:Nat) (st:St):Option (AV × AV) :=
 match Z9 ops i st with
 | some o=>match o.op with
  | .call { callee:=.builtin .clear,args,argTypes }=>match args.toList,argTypes.toList with
   | [x],t::_=>match ti P t,evo (lk st.slots) x with
    | some T,some a=>match T.kind with
     | .slice e=>match ti P e with
      | some E=>if Nat.beq E.size 1 then E.zero.map fun z=>(a,z) else none
      | none=>none
     | _=>none
    | _,_=>none
   | _,_=>none
  | _=>none
 | none=>none
theorem Qr3 (v:Value) (n:Nat):(Builtin.zeroCells #[v] n).toList=List.replicate n v:=by
 apply List.ext_getElem
 ·simp [Builtin.zeroCells]
 ·intro j h1 h2
  simp [Builtin.zeroCells,Nat.mod_one]
theorem Qx1 {R:Type} {l:List Int} {kk:IntKind} {ob i0 n0:Nat} {nr fl:Bool} {A:Option R} {r:R} (hi:Qvp P ops i st=some (.ref ob i0 n0,.int kk 0)) (hrow:st.sto ob=some (.row false false nr fl 1 (l.map (AV.int kk))))
  (hS:Zk ops i st none [(ob,.row false false nr fl 1 ((ovr l i0 (List.replicate n0 0)).map (AV.int kk)))]=some S) (hl:Nat.beq S.objs.length st.objs.length=true)
  (h:(if i0+n0≤l.length then A else none)=some r) (k:A=some r→RW P rd base ops (Qw d [([ob],[ob])]) (i+1) S Φ):RW P rd base ops d i st Φ:=by
 split at h
 ·rename_i hc
  have main:∃o,Z9 ops i st=some o∧YlL P ops o ⟨none,[(ob,.row false false nr fl 1 ((ovr l i0 (List.replicate n0 0)).map (AV.int kk)))],st.objs.length,st.objs.length,[ob]⟩ (lk st.slots) st.sto:=by
   unfold Qvp at hi
   split at hi
   ·rename_i o ho
    split at hi
    ·rename_i args ts hop
     split at hi
     ·rename_i x t tr hargs hts
      split at hi
      ·rename_i T a' hT hx
       split at hi
       ·rename_i e hk
        split at hi
        ·rename_i E hE
         split at hi
         ·rename_i hE1
          have hE1:=Nat.eq_of_beq_eq_true hE1
          simp only [Option.map_eq_some_iff] at hi
          obtain ⟨z,hz,he⟩:=hi
          cases he
          refine ⟨o,ho,Qug (Yo ho).2 (by rw [hop]; simp) fun s' σ' hs' hσ' B W0 D M ι act W hrel hsl=>?_⟩
          have hargs':=Q0d hargs
          subst hargs'
          have evx:evo s' x=some (.ref ob i0 n0):=by rw [hs' x (by rw [hop]; simp [Op.operands,Call.operands])]; exact hx
          obtain ⟨d0,ii,g1,g2,g3,_⟩:=Zw hT
          rw [g3] at hk; rw [Zn hk] at g1
          obtain ⟨i1,zv,q1,q2,q3,q4,q5⟩:=Qdp hE hz
          have hzv:zv=.int kk 0:=by have:=q4 M ι; cases this; rfl
          subst hzv
          have ht0:ts[0]?=some t:=by cases ts; simp_all
          obtain ⟨cs,hrun⟩:=Vp (P:=P) (W:=W) (a:=act) hop
          have hσ0:σ' ob=some (.row false false nr fl 1 (l.map (AV.int kk))):=by rw [hσ' ob (by simp)]; exact hrow
          obtain ⟨p,hp,hro⟩:=hrel.row _ _ _ _ _ _ _ hσ0
          have hlen:l.length≤p.cap:=by have:=hro.len; simpa using this
          have fin:∀{W1:World},(Builtin.clear_ ts o.type #[act.eval x]).run P W=.ok (.tuple #[]) W1→(execOp act.eval o).run P W=.ok (.value (.tuple #[])) W1:=by
           intro W1 hn
           rw [hrun]
           simp only [builtin,List.map_toArray,List.map_cons,List.map_nil,Sem.run_bind,hn,Result.andThen_ok,Sem.run_pure]
          have hsame:ovr l i0 (List.replicate 0 (0:Int))=l:=rfl
          have hputs:n0=0→σ'.puts [(ob,AObj.row false false nr fl 1 ((ovr l i0 (List.replicate n0 0)).map (AV.int kk)))]=σ':=fun e=>by
           subst e
           funext k
           show (σ'.put ob _) k=σ' k
           by_cases ek:k=ob
           ·subst ek; rw [Sto.put_same,hσ0]; rfl
           ·rw [Sto.put_ne _ _ ek]
          have zero:∀(bs:Option Addr) (cap:Nat),n0=0→act.eval x=.slice bs 0 cap→Q8 P B W0 D M ι σ' st.objs.length act o W ⟨none,[(ob,.row false false nr fl 1 ((ovr l i0 (List.replicate n0 0)).map (AV.int kk)))],st.objs.length,[ob]⟩:=fun bs cap e hb=>by
           refine ⟨_,W,M,ι,.inl (fin ?_),.refl _ _,Inj.le_refl _,fun _ _=>rfl,?_,fun y hy=>by cases hy⟩
           ·rw [hb]
            simp only [Builtin.clear_,ht0]
            cases bs <;> simp [run_underlying g1]
           ·show Rel P B W0 D M ι (σ'.puts _) W
            rw [hputs e]; exact hrel
          have hv:=Qf hsl evx
          generalize hu:act.eval x=u at hv
          cases hv with
          | ref0 ad _ p' hp' hz'=>exact zero _ _ rfl hu
          | ref _ _ _ p' off cap hp' hi'' hcap hoff =>
           rw [hp] at hp'; cases hp'
           by_cases hn0:n0=0
           ·subst hn0; exact zero _ _ rfl hu
           ·have hoff':off=p.base+i0*1:=by
             rcases hoff with q | q
             ·rw [q,hro.pw]
             ·omega
            have hown:=(hro.own rfl).2
            have hvs:∀v∈List.replicate n0 (Value.int kk 0),v.oneCell'=true:=fun v hv=>by
             rw [List.eq_of_mem_replicate hv]; rfl
            have hst:=run_storeCells_cells (P:=P) p.blk off (List.replicate n0 (Value.int kk 0)) 0 W (fun j hj=>by
             rw [List.length_replicate] at hj
             have:=(hown (i0+j) (by omega)).1
             rw [Nat.add_zero,hoff',show p.base+i0*1+j=p.base+(i0+j) by omega]; exact this) (fun j hj=>by
             rw [List.length_replicate] at hj
             have:=(hrel.cool _ _ _ _ _ _ _ (i0+j) (by assumption) hp (by omega)).1
             rw [Nat.add_zero,hoff',show p.base+i0*1+j=p.base+(i0+j) by omega]; exact this) hvs
            rw [Nat.add_zero] at hst
            have hz2:=Js (P:=P) (W:=W) q1 q2
            have hzc:(Builtin.zeroCells (Value.int kk 0).cells n0).toList=List.replicate n0 (Value.int kk 0):=Qr3 _ _
            have hrun0:(Builtin.clear_ ts o.type #[act.eval x]).run P W=.ok (.tuple #[]) (W.setCells p.blk off (List.replicate n0 (Value.int kk 0))):=by
             rw [hu]
             simp only [Builtin.clear_,ht0]
             obtain ⟨n1,rfl⟩:∃n1,n0=n1+1:=⟨n0 - 1,by omega⟩
             simp [run_underlying g1,hz2,hzc,hst]
            refine ⟨_,_,M,ι,.inl (fin hrun0),.refl _ _,Inj.le_refl _,fun _ _=>rfl,?_,fun z hz=>by cases hz⟩
            have hO:=hrel.overwrite hσ0 hp (ys:=List.replicate n0 (AV.int kk 0)) (vs:=List.replicate n0 (Value.int kk 0)) (nr':=true) (fl':=true) i0 (by simp; omega) ⟨by simp,fun x hx=>by rw [List.eq_of_mem_replicate hx]; exact ⟨.inr rfl,rfl,fun y hy=>by simp [AV.flat] at hy; subst hy; rfl⟩,fun a j x y ha hj=>?_⟩ (fun _=>by
              rw [Q0]; intro x hx; rw [List.eq_of_mem_replicate hx]; rfl) (fun _ x hx=>by rw [List.eq_of_mem_replicate hx]; rfl)
            ·rw [hoff']
             have h4:=Qp6 (AV.int kk) (List.replicate n0 0) l i0
             rw [List.map_replicate] at h4
             rw [h4] at hO
             simp only [Bool.and_true] at hO
             exact hO
            ·have hx0:=List.eq_of_mem_replicate (List.mem_of_getElem? ha)
             subst hx0
             have haN:=(List.getElem?_eq_some_iff.1 ha).1
             rw [List.length_replicate] at haN
             cases j with
             | succ j=>simp [AV.flat] at hj
             | zero =>
              simp [AV.flat] at hj
              subst hj
              exact ⟨.int kk 0,by simp [List.getElem?_replicate,haN],.int _ _,rfl⟩
         ·cases hi
        ·cases hi
       ·cases hi
      ·cases hi
     ·cases hi
    ·cases hi
   ·cases hi
  obtain ⟨o,ho,hy⟩:=main
  exact Qwl ho hy hS (Nat.eq_of_beq_eq_true hl) (k h)
 ·cases h
theorem Qrb {α:Type} {l:List α} {n:Nat} (h:n≤l.length):n=(l.take n).length:=by
 rw [List.length_take]; omega
end
end Go.Ab
namespace Go.Ab
open Go.RowKit
@[reducible] def nlE {α:Type} (fl:Bool) (enc:α→AV):List α→AV
 | []=>.nils
 | a::l=>.lst fl ((a::l).map enc)
theorem Qj6 {α:Type} {l x:List α} (h:Qd5 l none (fun _ _=>some l)=some x):(∃a t,l=a::t)∧l=x:=by
 cases l with
 | nil=>cases h
 | cons a t=>cases h; exact ⟨⟨a,t,rfl⟩,rfl⟩
section
variable {P:Program} {rd:Option Nat} {base:Nat} {ops:Array Oper} {d:Option (List Sk)} {Φ:AOut→Prop} {i:Nat}
variable {st:St} {ops:Array Oper}
theorem Qpc {α R:Type} {G:Option (List α)} {A:Option R} {B:α→List α→Option R} {f:FuncId} {as0 us:List AV} {ids:List Nat} {fl:Bool} {enc:α→AV} {S0:St} {S1:α→List α→St} {r:R} (hi:Zs ops i st=some (f,as0)) (hb:Qcj P f=true)
  (hsn:Qu (Qs st.sto Qm) as0=some (us,ids)) (hc:∀x,G=some x→Qx P f us (.ret (nlE fl enc x) [])) (h0:Qbl ops i st ids .nils []=some S0) (h1:∀a t,Qbl ops i st ids (.lst fl ((a::t).map enc)) []=some (S1 a t))
  (h:(G.bind fun x=>Qd5 x A B)=some r) (k0:A=some r→RW P rd base ops (Qw d [Qhp st ids .nils []]) (i+1) S0 Φ)
  (k1:∀a t,B a t=some r→RW P rd base ops (Qw d [Qhp st ids (.lst fl ((a::t).map enc)) []]) (i+1) (S1 a t) Φ):RW P rd base ops d i st Φ:=by
 cases hg:G with
 | none=>rw [hg] at h; cases h
 | some x =>
  rw [hg] at h
  cases x with
  | nil=>exact Qqb hi hb hsn (hc [] hg) h0 (k0 h)
  | cons a t=>exact Qqb hi hb hsn (hc (a::t) hg) (h1 a t) (k1 a t h)
end
end Go.Ab
namespace Go.Ab
inductive Fr where
 | seq (y:Code)
 | blk (id:Nat)
 | inl (fn:Func) (ops:Array Oper) (i:Nat) (st:St) (rd:Option Nat) (base:Nat)
 | inN (fn:Func) (ops:Array Oper) (d:Option (List Sk)) (i:Nat) (st:St) (rd:Option Nat) (base:Nat)
 | rng (fn:Func) (st:St) (rd:Option Nat) (base:Nat)
 | yA (l nt:Nat) (body:Code) (ops:Array Oper) (i:Nat) (st:St) (rd:Option Nat) (base:Nat)
 | yB (l:Nat) (ops:Array Oper) (i:Nat) (st:St) (rd:Option Nat) (base:Nat)
 | lp (c:Code)
inductive Pos where
 | lw (c:Code)
 | code (c:Code)
 | ops (o:Array Oper) (d:Option (List Sk)) (i:Nat)
 | out (e:Xq)
structure Cf where
 pos:Pos
 fr:List Fr
 st:St
 rd:Option Nat
 base:Nat
def Phi (P:Program) (Ω:AOut→Prop):List Fr→Option Nat → Nat → AOut→Prop
 | [],_,_=>Ω
 | .seq y::r,rd,b=>Qr6 (fun s=>WP P rd b y s (Phi P Ω r rd b)) (Phi P Ω r rd b)
 | .blk id::r,rd,b=>Qtp id (Phi P Ω r rd b)
 | .inl fn ops i st rd b::r,_,_=>fun out=>∃S,Qiw P fn ops i st out=some S∧RW P rd b ops none (i+1) S (Phi P Ω r rd b)
 | .inN fn ops d i st rd b::r,_,_=>fun out=>∃S,Qxz P fn ops i st out=some S∧RW P rd b ops (Qw d (Q1z st S)) (i+1) S (Phi P Ω r rd b)
 | .rng fn st rd b::r,_,_=>fun out0=>∃out,Kx P fn st out0=some out∧Phi P Ω r rd b out
 | .yA l nt body ops i st rd b::r,_,_=>fun outA=>∃SA,Qpg l nt outA=some SA∧WP P (some l) st.objs.length body SA (fun outB=>∃S,Qme ops i l st outB=some S∧RW P rd b ops none (i+1) S (Phi P Ω r rd b))
 | .yB l ops i st rd b::r,_,_=>fun outB=>∃S,Qme ops i l st outB=some S∧RW P rd b ops none (i+1) S (Phi P Ω r rd b)
 | .lp c::r,rd,b=>Qr6 (fun s=>LWP P rd b c s (Phi P Ω r rd b)) (Phi P Ω r rd b)
def Gl (P:Program) (Ω:AOut→Prop):Cf→Prop
 | ⟨.code x,fr,st,rd,b⟩=>WP P rd b x st (Phi P Ω fr rd b)
 | ⟨.ops o d i,fr,st,rd,b⟩=>RW P rd b o d i st (Phi P Ω fr rd b)
 | ⟨.out e,fr,st,rd,b⟩=>Phi P Ω fr rd b (.go e st)
 | ⟨.lw x,fr,st,rd,b⟩=>LWP P rd b x st (Phi P Ω fr rd b)
noncomputable def ctl (P:Program):Cf→Option Cf
 | ⟨.code x,fr,st,rd,b⟩=>match x with
  | .seq x y=>some ⟨.code x,.seq y::fr,st,rd,b⟩
  | .block id x=>some ⟨.code x,.blk id::fr,st,rd,b⟩
  | .scope x=>some ⟨.code x,fr,st,rd,b⟩
  | .skip=>some ⟨.out .normal,fr,st,rd,b⟩
  | .label _=>some ⟨.out .normal,fr,st,rd,b⟩
  | .region _ o false=>some ⟨.ops o none 0,fr,st,rd,b⟩
  | _=>none
 | ⟨.ops o d i,fr,st,rd,b⟩=>if Nat.beq i o.size then match d with
   | none=>some ⟨.out .normal,fr,st,rd,b⟩
   | some acc=>if Qgo o.toList acc then some ⟨.out .normal,fr,st,rd,b⟩ else none
  else none
 | ⟨.out e,fr,st,rd,b⟩=>match fr with
  | []=>none
  | .seq y::r=>match e with
   | .normal=>some ⟨.code y,r,st,rd,b⟩
   | e=>some ⟨.out e,r,st,rd,b⟩
  | .blk id::r=>match e with
   | .exit j=>if Nat.beq j id then some ⟨.out .normal,r,st,rd,b⟩ else some ⟨.out (.exit j),r,st,rd,b⟩
   | e=>some ⟨.out e,r,st,rd,b⟩
  | .inl fn ops i st0 rd0 b0::r=>match Qiw P fn ops i st0 (.go e st) with
   | some S=>some ⟨.ops ops none (i+1),r,S,rd0,b0⟩
   | none=>none
  | .inN fn ops d i st0 rd0 b0::r=>match Qxz P fn ops i st0 (.go e st) with
   | some S=>some ⟨.ops ops (Qw d (Q1z st0 S)) (i+1),r,S,rd0,b0⟩
   | none=>none
  | .rng fn st0 rd0 b0::r=>match Kx P fn st0 (.go e st) with
   | some (.go e' S)=>some ⟨.out e',r,S,rd0,b0⟩
   | _=>none
  | .yA l nt body ops i st0 rd0 b0::r=>match Qpg l nt (.go e st) with
   | some S=>some ⟨.code body,.yB l ops i st0 rd0 b0::r,S,some l,st0.objs.length⟩
   | none=>none
  | .yB l ops i st0 rd0 b0::r=>match Qme ops i l st0 (.go e st) with
   | some S=>some ⟨.ops ops none (i+1),r,S,rd0,b0⟩
   | none=>none
  | .lp c::r=>match e with
   | .normal=>some ⟨.lw c,r,st,rd,b⟩
   | e=>some ⟨.out e,r,st,rd,b⟩
 | ⟨.lw _,_,_,_,_⟩=>none
noncomputable def stp (P:Program):Cf→Option Cf
 | ⟨.code x,fr,st,rd,b⟩=>match x with
  | .cond op x y=>match evo (lk st.slots) op with
   | some (.bool v)=>match v with
    | true=>some ⟨.code x,fr,st,rd,b⟩
    | false=>some ⟨.code y,fr,st,rd,b⟩
   | _=>none
  | .region _ o true=>if P.follows .mixedOrders && Qwq o then some ⟨.ops o (some []) 0,fr,st,rd,b⟩ else none
  | .ret=>some ⟨.out .ret,fr,st,rd,b⟩
  | .exit j=>some ⟨.out (.exit j),fr,st,rd,b⟩
  | _=>none
 | ⟨.ops o d i,fr,st,rd,b⟩=>match Qc3 P false o 1 i st with
  | some S=>some ⟨.ops o (Qw d (Qow P false o 1 i st)) (i+1),fr,S,rd,b⟩
  | none=>none
 | ⟨.out _,_,_,_,_⟩=>none
 | ⟨.lw _,_,_,_,_⟩=>none
noncomputable def Qhd (P:Program):Nat → Cf→Cf
 | 0,c=>c
 | n+1,c=>match ctl P c with
  | some c'=>Qhd P n c'
  | none=>c
noncomputable def go (P:Program):Nat → Cf→Option Cf
 | 0,c=>some (Qhd P 1000 c)
 | n+1,c=>match stp P (Qhd P 1000 c) with
  | some c'=>go P n c'
  | none=>none
def Cf.bad:Cf:=⟨.out .normal,[],⟨[],[],0⟩,none,0⟩
noncomputable def gg (P:Program) (n:Nat) (c:Cf):Cf:=match go P n c with | some c=>c | none=>.bad
section
variable {P:Program} {Ω:AOut→Prop} {c c':Cf}
theorem Q3z (h:ctl P c=some c') (g:Gl P Ω c'):Gl P Ω c:=by
 obtain ⟨pos,fr,st,rd,b⟩:=c
 cases pos with
 | code x =>
  simp only [ctl] at h
  split at h
  ·cases h; exact Q1 g
  ·cases h; exact Jx g
  ·cases h; exact Q1o g
  ·cases h; exact V9 g
  ·cases h; exact Q0i g
  ·cases h; exact Jk g
  ·cases h
 | ops o d i =>
  simp only [ctl] at h
  split at h
  ·rename_i hi
   have hi:=Nat.eq_of_beq_eq_true hi
   cases d with
   | none=>cases h; exact Xp hi g
   | some acc =>
    simp only at h
    split at h
    ·rename_i hc; cases h; exact Qud (rd:=rd) (base:=b) hi hc g
    ·cases h
  ·cases h
 | out e =>
  simp only [ctl] at h
  split at h
  ·cases h
  ·split at h
   ·cases h; exact g
   ·rename_i hne
    cases h
    cases e with
    | normal=>exact absurd rfl hne
    | exit j=>exact g
    | ret=>exact g
  ·split at h
   ·rename_i j
    split at h
    ·rename_i hj
     cases h
     show Phi P Ω _ _ _ (AOut.inBlock _ (.go (.exit j) st))
     simp only [AOut.inBlock,hj,if_true]; exact g
    ·rename_i hj
     cases h
     show Phi P Ω _ _ _ (AOut.inBlock _ (.go (.exit j) st))
     simp only [AOut.inBlock,hj,if_false]; exact g
   ·rename_i hne
    cases h
    cases e with
    | normal=>exact g
    | exit j=>exact absurd rfl (hne j)
    | ret=>exact g
  ·split at h
   ·rename_i hS; cases h; exact ⟨_,hS,g⟩
   ·cases h
  ·split at h
   ·rename_i hS; cases h; exact ⟨_,hS,g⟩
   ·cases h
  ·split at h
   ·rename_i hS; cases h; exact ⟨_,hS,g⟩
   ·cases h
  ·split at h
   ·rename_i hS; cases h; exact ⟨_,hS,g⟩
   ·cases h
  ·split at h
   ·rename_i hS; cases h; exact ⟨_,hS,g⟩
   ·cases h
  ·split at h
   ·cases h; exact g
   ·rename_i hne
    cases h
    cases e with
    | normal=>exact absurd rfl hne
    | exit j=>exact g
    | ret=>exact g
 | lw x=>cases h
theorem Q4o (h:stp P c=some c') (g:Gl P Ω c'):Gl P Ω c:=by
 obtain ⟨pos,fr,st,rd,b⟩:=c
 cases pos with
 | code x =>
  simp only [stp] at h
  split at h
  ·split at h
   ·rename_i v he
    cases v with
    | true=>cases h; exact Qty he g
    | false=>cases h; exact Qto he g
   ·cases h
  ·split at h
   ·rename_i hm
    simp only [Bool.and_eq_true] at hm
    cases h; exact rga hm.1 g hm.2
   ·cases h
  ·cases h; exact Qd2 g
  ·cases h; exact Qeu g
  ·cases h
 | ops o d i =>
  simp only [stp] at h
  split at h
  ·rename_i S hS; cases h; exact sg false 1 _ hS rfl g
  ·cases h
 | out e=>cases h
 | lw x=>cases h
theorem Ql6:∀(n:Nat) (c:Cf),Gl P Ω (Qhd P n c)→Gl P Ω c
 | 0,c,g=>g
 | n+1,c,g=>by
  unfold Qhd at g
  split at g
  ·rename_i c' hc; exact Q3z hc (Ql6 n c' g)
  ·exact g
theorem Qga:∀(n:Nat) (c c':Cf),go P n c=some c'→Gl P Ω c'→Gl P Ω c
 | 0,c,c',h,g=>by unfold go at h; cases h; exact Ql6 _ _ g
 | n+1,c,c',h,g=>by
  unfold go at h
  split at h
  ·rename_i c1 hc; exact Ql6 _ _ (Q4o hc (Qga n c1 c' h g))
  ·cases h
theorem Qhx {n:Nat} (h:(go P n c).isSome=true) (g:Gl P Ω (gg P n c)):Gl P Ω c:=by
 unfold gg at g
 split at g
 ·rename_i c1 hc; exact Qga n c c1 hc g
 ·rename_i hn; rw [hn] at h; cases h
def Cf.o (c:Cf):Array Oper:=match c.pos with | .ops o _ _=>o | _=>#[]
def Cf.d (c:Cf):Option (List Sk):=match c.pos with | .ops _ d _=>d | _=>none
def Cf.i (c:Cf):Nat := match c.pos with | .ops _ _ i=>i | _=>0
def Cf.isO (c:Cf):Bool:=match c.pos with | .ops _ _ _=>true | _=>false
def Cf.x (c:Cf):Code:=match c.pos with | .code x=>x | _=>.skip
def Cf.isX (c:Cf):Bool:=match c.pos with | .code _=>true | _=>false
def Cf.free (c:Cf):Bool:=match c.pos with | .code _=>true | .ops _ none _=>true | .lw _=>true | _=>false
def Cf.nx (c:Cf) (s:List Sk) (S:St):Cf:=⟨.ops c.o (Qw c.d s) (c.i+1),c.fr,S,c.rd,c.base⟩
def Cf.nx2 (c:Cf) (s s':List Sk) (S:St):Cf:=⟨.ops c.o (Qw (Qw c.d s) s') (c.i+1+1),c.fr,S,c.rd,c.base⟩
def Cf.to (c:Cf) (S:St):Cf:=⟨c.pos,c.fr,S,c.rd,c.base⟩
noncomputable def goO (P:Program) (n:Nat) (c:Cf):Bool:=match go P n c with | some c=>c.isO | none=>false
noncomputable def goX (P:Program) (n:Nat) (c:Cf):Bool:=match go P n c with | some c=>c.isX | none=>false
noncomputable def goF (P:Program) (n:Nat) (c:Cf):Bool:=match go P n c with | some c=>c.free | none=>false
theorem Kb {n:Nat} (h:goO P n c=true) (g:(gg P n c).isO=true→Gl P Ω (gg P n c)):Gl P Ω c:=by
 unfold goO at h
 split at h
 ·rename_i c1 hc; exact Qhx (by rw [hc]; rfl) (g (by unfold gg; rw [hc]; exact h))
 ·cases h
theorem Q4j {n:Nat} (h:goX P n c=true) (g:(gg P n c).isX=true→Gl P Ω (gg P n c)):Gl P Ω c:=by
 unfold goX at h
 split at h
 ·rename_i c1 hc; exact Qhx (by rw [hc]; rfl) (g (by unfold gg; rw [hc]; exact h))
 ·cases h
theorem Q4f {n:Nat} (h:goF P n c=true) (g:(gg P n c).free=true→Gl P Ω (gg P n c)):Gl P Ω c:=by
 unfold goF at h
 split at h
 ·rename_i c1 hc; exact Qhx (by rw [hc]; rfl) (g (by unfold gg; rw [hc]; exact h))
 ·cases h
theorem Km (h:c.isO=true) (g:RW P c.rd c.base c.o c.d c.i c.st (Phi P Ω c.fr c.rd c.base)):Gl P Ω c:=by
 obtain ⟨pos,fr,st,rd,b⟩:=c
 cases pos with
 | ops o d i=>exact g
 | _=>cases h
theorem Q2z (h:c.isX=true) (g:WP P c.rd c.base c.x c.st (Phi P Ω c.fr c.rd c.base)):Gl P Ω c:=by
 obtain ⟨pos,fr,st,rd,b⟩:=c
 cases pos with
 | code x=>exact g
 | _=>cases h
theorem Q5c {S:St} (h:c.free=true) (hw:Wk P c.base c.st S) (g:Gl P Ω (c.to S)):Gl P Ω c:=by
 obtain ⟨pos,fr,st,rd,b⟩:=c
 cases pos with
 | code x=>exact Q10 hw g
 | ops o d i =>
  cases d with
  | none=>exact Q18 hw g
  | some _=>cases h
 | out _=>cases h
 | lw x=>exact Qjh hw g
end
def Hl {R:Type} (P:Program) (Ω:R→AOut→Prop) (c:Cf) (D:Option R):Prop:=∀r,D=some r→Gl P (Ω r) c
section
variable {P:Program} {R:Type} {Ω:R→AOut→Prop} {c:Cf} {D A B:Option R}
theorem hnn:Hl P Ω c none:=fun _ h=>by cases h
theorem hbd {α:Type} {o:Option α} {K:α→Option R} (k:∀a,o=some a→Hl P Ω c (K a)):Hl P Ω c (o.bind K):=fun r h=>Qh7 h fun a q h=>k a q r h
theorem hop (n:Nat) {S:St} {s:List Sk} (rule:∀Φ:AOut→Prop,RW P (gg P n c).rd (gg P n c).base (gg P n c).o (Qw (gg P n c).d s) ((gg P n c).i+1) S Φ→RW P (gg P n c).rd (gg P n c).base (gg P n c).o (gg P n c).d (gg P n c).i (gg P n c).st Φ)
  (k:Hl P Ω ((gg P n c).nx s S) D) (e:goO P n c=true:=by kernel_rfl):Hl P Ω c D:=fun r h=>Kb e fun hO=>Km hO (rule _ (k r h))
theorem Q5p (n:Nat) {S:St} {s s':List Sk} (rule:∀Φ:AOut→Prop,RW P (gg P n c).rd (gg P n c).base (gg P n c).o (Qw (Qw (gg P n c).d s) s') ((gg P n c).i+1+1) S Φ→RW P (gg P n c).rd (gg P n c).base (gg P n c).o (gg P n c).d (gg P n c).i (gg P n c).st Φ)
  (k:Hl P Ω ((gg P n c).nx2 s s' S) D) (e:goO P n c=true:=by kernel_rfl):Hl P Ω c D:=fun r h=>Kb e fun hO=>Km hO (rule _ (k r h))
theorem hoh (n:Nat) {S:St} {s:List Sk} (rule:∀(Φ:AOut→Prop) (r:R),D=some r→(A=some r→RW P (gg P n c).rd (gg P n c).base (gg P n c).o (Qw (gg P n c).d s) ((gg P n c).i+1) S Φ)→RW P (gg P n c).rd (gg P n c).base (gg P n c).o (gg P n c).d (gg P n c).i (gg P n c).st Φ)
  (k:Hl P Ω ((gg P n c).nx s S) A) (e:goO P n c=true:=by kernel_rfl):Hl P Ω c D:=fun r h=>Kb e fun hO=>Km hO (rule _ r h fun h=>k r h)
theorem hwk (n:Nat) {S:St} (w:Wk P (gg P n c).base (gg P n c).st S) (k:Hl P Ω ((gg P n c).to S) D) (e:goF P n c=true:=by kernel_rfl):Hl P Ω c D:=fun r h=>Q4f e fun hF=>Q5c hF w (k r h)
theorem hbq (n:Nat) (ts:List Nat) {b:Bool} (k:b=true→Hl P Ω ((gg P n c).to (pB ts true (gg P n c).st)) A) (k':b=false→Hl P Ω ((gg P n c).to (pB ts false (gg P n c).st)) B)
  (e:(go P n c).isSome=true:=by kernel_rfl) (hS:(gg P n c).st=pB ts b (gg P n c).st:=by kernel_rfl):Hl P Ω c (if b=true then A else B):=fun r h=>Qhx e (by
 have ht:gg P n c=(gg P n c).to (pB ts b (gg P n c).st):=by rw [←hS]; rfl
 rw [ht]
 cases b with
 | true=>exact k rfl r (by simpa using h)
 | false=>exact k' rfl r (by simpa using h))
theorem hbr (n:Nat) (ts:List Nat) {b:Bool} (k:Hl P Ω ((gg P n c).to (pB ts true (gg P n c).st)) A) (k':Hl P Ω ((gg P n c).to (pB ts false (gg P n c).st)) B)
  (e:(go P n c).isSome=true:=by kernel_rfl) (hS:(gg P n c).st=pB ts b (gg P n c).st:=by kernel_rfl):Hl P Ω c (if b=true then A else B):=hbq n ts (fun _=>k) (fun _=>k') e hS
theorem hbt (n:Nat) {b:Bool} (S:Bool→St) (k:b=true→Hl P Ω ((gg P n c).to (S true)) A) (k':b=false→Hl P Ω ((gg P n c).to (S false)) B) (e:(go P n c).isSome=true:=by kernel_rfl) (hS:(gg P n c).st=S b:=by kernel_rfl):Hl P Ω c (if b=true then A else B):=fun r h=>Qhx e (by
 have ht:gg P n c=(gg P n c).to (S b):=by rw [←hS]; rfl
 rw [ht]
 cases b with
 | true=>exact k rfl r (by simpa using h)
 | false=>exact k' rfl r (by simpa using h))
theorem hkb (n:Nat) (ts:List Nat) {b b':Bool} (hb:b=b') (k:Hl P Ω ((gg P n c).to (pB ts b' (gg P n c).st)) D) (e:(go P n c).isSome=true:=by kernel_rfl) (hS:(gg P n c).st=pB ts b (gg P n c).st:=by kernel_rfl):Hl P Ω c D:=fun r h=>Qhx e (by
 have ht:gg P n c=(gg P n c).to (pB ts b (gg P n c).st):=by rw [←hS]; rfl
 rw [ht,hb]; exact k r h)
theorem hkn (n:Nat) {α:Type} {x y:α} (S:α→St) (hb:x=y) (k:Hl P Ω ((gg P n c).to (S y)) D) (e:(go P n c).isSome=true:=by kernel_rfl) (hS:(gg P n c).st=S x:=by kernel_rfl):Hl P Ω c D:=fun r h=>Qhx e (by
 have ht:gg P n c=(gg P n c).to (S x):=by rw [←hS]; rfl
 rw [ht,hb]; exact k r h)
theorem hkl (n:Nat) (ts:List Nat) {x y:Nat} (hb:x=y) (k:Hl P Ω ((gg P n c).to (pL ts y (gg P n c).st)) D) (e:(go P n c).isSome=true:=by kernel_rfl) (hS:(gg P n c).st=pL ts x (gg P n c).st:=by kernel_rfl):Hl P Ω c D:=hkn n (fun x=>pL ts x (gg P n c).st) hb k e hS
theorem ls {α:Type} (l:List α) (i:Nat) (a:α):l.length=(l.set i a).length:=by simp
theorem hqi (n:Nat) {x m:Int} (S:Int→St) (k:x=m→Hl P Ω ((gg P n c).to (S m)) A) (k':x≠m→Hl P Ω (gg P n c) B) (e:(go P n c).isSome=true:=by kernel_rfl) (hS:(gg P n c).st=S x:=by kernel_rfl):Hl P Ω c (if x=m then A else B):=fun r h=>Qhx e (by
 by_cases hx:x=m
 ·have ht:gg P n c=(gg P n c).to (S x):=by rw [←hS]; rfl
  rw [ht,hx]; exact k hx r (by simpa [hx] using h)
 ·exact k' hx r (by simpa [hx] using h))
theorem hqe (n:Nat) {x m:Int} (S:Int→St) (k:Hl P Ω ((gg P n c).to (S m)) A) (e:(go P n c).isSome=true:=by kernel_rfl) (hS:(gg P n c).st=S x:=by kernel_rfl):Hl P Ω c (if x=m then A else none):=hqi n S (fun _=>k) (fun _=>hnn) e hS
structure Wt where
 i:Nat
 n:Nat
 xs:List AV
 ys:List AV
 h:i+n≤xs.length∧(xs.drop i).take n=ys
def F {α:Type} (enc:α→AV) (l:List α):Option Wt:=some ⟨0,l.length,l.map enc,l.map enc,by simp [List.take_of_length_le]⟩
def Fp {α:Type} (enc:α→AV) (l:List α) {a b:Int} (h:0≤a∧a≤b∧b≤l.length):Option Wt:=some ⟨a.toNat,b.toNat - a.toNat,l.map enc,(sub l a b).map enc,by
 refine ⟨by simp; omega,?_⟩
 simp [sub,List.map_take,List.map_drop]⟩
def Qiu (f:AV→List (Option Wt)→Option (AV × List Nat × List ((Nat × Nat × List AV) × Wt) × List (Option Wt))):List AV→List (Option Wt)→Option (List AV × List Nat × List ((Nat × Nat × List AV) × Wt) × List (Option Wt))
 | [],ws=>some ([],[],[],ws)
 | x::xs,ws=>match f x ws with
  | some (y,a,e,ws1)=>match Qiu f xs ws1 with
   | some (ys,b,e',ws2)=>some (y::ys,a++b,e++e',ws2)
   | none=>none
  | none=>none
def snW (σ:Sto):Nat → AV→List (Option Wt)→Option (AV × List Nat × List ((Nat × Nat × List AV) × Wt) × List (Option Wt))
 | 0,_,_=>none
 | d+1,a,ws=>match a with
  | .ref o i n=>match ws with
   | some w::ws=>match σ o with
    | some (.row _ _ true fl _ xs)=>some (.lst fl w.ys,[o],[((i,n,xs),w)],ws)
    | _=>none
   | ws=>match Qs σ (d+1) (.ref o i n) with
    | some (y,ids)=>some (y,ids,[],ws.tail)
    | none=>none
  | .agg cs=>match Qiu (snW σ d) cs ws with | some (ys,r)=>some (.agg ys,r) | none=>none
  | .tup cs=>match Qiu (snW σ d) cs ws with | some (ys,r)=>some (.tup ys,r) | none=>none
  | .ptr o i c=>match ws with
   | some w::ws=>match σ o with
    | some (.row _ _ _ _ _ xs)=>match Qiu (snW σ d) xs (some w::ws) with
     | some (ys,ids,e,ws')=>match ys[i]? with
      | some y=>some (.fz (y.flat.drop c),o::ids,e,ws')
      | none=>none
     | none=>none
    | _=>none
   | ws=>match Qs σ (d+1) (.ptr o i c) with
    | some (y,ids)=>some (y,ids,[],ws)
    | none=>none
  | .fn f a b=>match ws with
   | some w::ws=>match Qiu (snW σ d) a (some w::ws) with
    | some (x,i,e,ws1)=>match Qiu (snW σ d) b ws1 with
     | some (y,j,e',ws2)=>some (.fn f x y,i++j,e++e',ws2)
     | none=>none
    | none=>none
   | ws=>match Qs σ (d+1) (.fn f a b) with
    | some (y,ids)=>some (y,ids,[],ws)
    | none=>none
  | a=>match Qs σ (d+1) a with
   | some (y,ids)=>some (y,ids,[],ws)
   | none=>none
def eqW (e:List ((Nat × Nat × List AV) × Wt)):Prop:=e.map (·.1)=e.map fun p=>(p.2.i,p.2.n,p.2.xs)
theorem Qkh {a b:List ((Nat × Nat × List AV) × Wt)} (h:eqW (a++b)):eqW a∧eqW b:=by
 unfold eqW at h ⊢
 rw [List.map_append,List.map_append] at h
 exact List.append_inj h (by simp)
theorem Qdv {f:AV→List (Option Wt)→Option (AV × List Nat × List ((Nat × Nat × List AV) × Wt) × List (Option Wt))} {g:AV→Option (AV × List Nat)}
  (hf:∀x ws y a e ws',f x ws=some (y,a,e,ws')→eqW e→g x=some (y,a)):∀(xs:List AV) (ws:List (Option Wt)) ys b e ws',Qiu f xs ws=some (ys,b,e,ws')→eqW e→Qu g xs=some (ys,b)
 | [],ws,ys,b,e,ws',h,he=>by simp only [Qiu,Option.some.injEq,Prod.mk.injEq] at h; obtain ⟨rfl,rfl,rfl,rfl⟩:=h; rfl
 | x::xs,ws,ys,b,e,ws',h,he=>by
  simp only [Qiu] at h
  split at h
  ·rename_i y a e1 ws1 h1
   split at h
   ·rename_i ys2 b2 e2 ws2 h2
    simp only [Option.some.injEq,Prod.mk.injEq] at h
    obtain ⟨rfl,rfl,rfl,rfl⟩:=h
    obtain ⟨g1,g2⟩:=Qkh he
    simp only [Qu,hf _ _ _ _ _ _ h1 g1,Qdv hf xs _ _ _ _ _ h2 g2]
   ·cases h
  ·cases h
theorem Qbr {σ:Sto}:∀(d:Nat) (x:AV) (ws:List (Option Wt)) y a e ws',snW σ d x ws=some (y,a,e,ws')→eqW e→Qs σ d x=some (y,a)
 | 0,x,ws,y,a,e,ws',h,he=>by cases h
 | d+1,x,ws,y,a,e,ws',h,he=>by
  unfold snW at h
  split at h
  ·rename_i o i n
   split at h
   ·rename_i w ws0
    split at h
    ·rename_i xs hσ
     simp only [Option.some.injEq,Prod.mk.injEq] at h
     obtain ⟨rfl,rfl,rfl,rfl⟩:=h
     simp only [eqW,List.map_cons,List.map_nil,List.cons.injEq,Prod.mk.injEq,and_true] at he
     obtain ⟨e1,e2,e3⟩:=he
     subst e1 e2 e3
     simp [Qs,hσ,w.h.1,w.h.2]
    ·cases h
   ·split at h
    ·rename_i hs
     simp only [Option.some.injEq,Prod.mk.injEq] at h
     obtain ⟨rfl,rfl,rfl,rfl⟩:=h; exact hs
    ·cases h
  ·split at h
   ·rename_i ys r hm
    simp only [Option.some.injEq,Prod.mk.injEq] at h
    obtain ⟨rfl,rfl⟩:=h
    have:=Qdv (Qbr d) _ _ _ _ _ _ hm he
    simp only [Qs,this]
   ·cases h
  ·split at h
   ·rename_i ys r hm
    simp only [Option.some.injEq,Prod.mk.injEq] at h
    obtain ⟨rfl,rfl⟩:=h
    have:=Qdv (Qbr d) _ _ _ _ _ _ hm he
    simp only [Qs,this]
   ·cases h
  ·split at h
   ·split at h
    ·rename_i hσ
     split at h
     ·rename_i hm
      split at h
      ·rename_i y hy
       simp only [Option.some.injEq,Prod.mk.injEq] at h
       obtain ⟨rfl,rfl,rfl,rfl⟩:=h
       have:=Qdv (Qbr d) _ _ _ _ _ _ hm he
       simp only [Qs,hσ,this,hy]
      ·cases h
     ·cases h
    ·cases h
   ·split at h
    ·rename_i hs
     simp only [Option.some.injEq,Prod.mk.injEq] at h
     obtain ⟨rfl,rfl,rfl,rfl⟩:=h; exact hs
    ·cases h
  ·split at h
   ·split at h
    ·rename_i hm
     split at h
     ·rename_i hm2
      simp only [Option.some.injEq,Prod.mk.injEq] at h
      obtain ⟨rfl,rfl,rfl,rfl⟩:=h
      obtain ⟨g1,g2⟩:=Qkh he
      have h1:=Qdv (Qbr d) _ _ _ _ _ _ hm g1
      have h2:=Qdv (Qbr d) _ _ _ _ _ _ hm2 g2
      simp only [Qs,h1,h2]
     ·cases h
    ·cases h
   ·split at h
    ·rename_i hs
     simp only [Option.some.injEq,Prod.mk.injEq] at h
     obtain ⟨rfl,rfl,rfl,rfl⟩:=h; exact hs
    ·cases h
  ·split at h
   ·rename_i hs
    simp only [Option.some.injEq,Prod.mk.injEq] at h
    obtain ⟨rfl,rfl,rfl,rfl⟩:=h; exact hs
   ·cases h
noncomputable def Cf.sn (c:Cf) (ws:List (Option Wt)):Option (List AV × List Nat × List ((Nat × Nat × List AV) × Wt) × List (Option Wt)):=match Zs c.o c.i c.st with
 | some (_,as0)=>Qiu (snW c.st.sto Qm) as0 ws
 | none=>none
noncomputable def Cf.ids (c:Cf) (ws:List (Option Wt)):List Nat := match c.sn ws with | some x=>x.2.1 | none=>[]
noncomputable def Cf.eqs (c:Cf) (ws:List (Option Wt)):List ((Nat × Nat × List AV) × Wt):=match c.sn ws with | some x=>x.2.2.1 | none=>[]
noncomputable def Cf.us (c:Cf) (ws:List (Option Wt)):Option (List AV):=(c.sn ws).map (·.1)
noncomputable def Cf.cl (c:Cf) (ws:List (Option Wt)) (r:AV) (objs:List AObj):Cf:=c.nx [Qhp c.st (c.ids ws) r objs] (gt0 (Qbl c.o c.i c.st (c.ids ws) r objs))
theorem hcl (n:Nat) (ws:List (Option Wt)) {α:Type} {G:Option α} {K:α→Option R} {f:FuncId} {us:List AV} {rv:α→AV} {ro:α→List AObj} (C:∀x,G=some x→Qx P f us (.ret (rv x) (ro x)))
  (k:∀x,G=some x→Hl P Ω ((gg P n c).cl ws (rv x) (ro x)) (K x)) (e:goO P n c=true:=by kernel_rfl) (hb:Qcj P f=true:=by kernel_rfl)
  (hi:(Zs (gg P n c).o (gg P n c).i (gg P n c).st).map (·.1)=some f:=by kernel_rfl) (hu:(gg P n c).us ws=some us:=by kernel_rfl) (hw:((gg P n c).eqs ws).map (·.1)=((gg P n c).eqs ws).map (fun p=>(p.2.i,p.2.n,p.2.xs)):=by kernel_rfl)
  (hS:∀x,(Qbl (gg P n c).o (gg P n c).i (gg P n c).st ((gg P n c).ids ws) (rv x) (ro x)).isSome=true:=by (intro _; kernel_rfl)):Hl P Ω c (G.bind K):=fun r h=>Kb e fun hO=>Km hO (by
 generalize gg P n c=c' at *
 have hsn:∃as0,Zs c'.o c'.i c'.st=some (f,as0)∧Qu (Qs c'.st.sto Qm) as0=some (us,c'.ids ws):=by
  cases hc:Zs c'.o c'.i c'.st with
  | none=>rw [hc] at hi; cases hi
  | some y =>
   obtain ⟨g,as0⟩:=y
   rw [hc] at hi
   simp only [Option.map_some,Option.some.injEq] at hi
   subst hi
   refine ⟨as0,rfl,?_⟩
   unfold Cf.us at hu
   unfold Cf.ids; unfold Cf.eqs at hw
   cases hs:c'.sn ws with
   | none=>rw [hs] at hu; cases hu
   | some z =>
    obtain ⟨ys,ids,es,ws'⟩:=z
    rw [hs] at hu hw
    simp only [Option.map_some,Option.some.injEq] at hu
    subst hu
    unfold Cf.sn at hs
    rw [hc] at hs
    exact Qdv (Qbr Qm) _ _ _ _ _ _ hs hw
 obtain ⟨as0,h1,h2⟩:=hsn
 exact Qr9 h1 hb h2 C (fun x=>gE (hS x)) h fun x q h=>k x q r h)
theorem hcn (n:Nat) (ws:List (Option Wt)) {α:Type} {G:Option (List α)} {B:α→List α→Option R} {f:FuncId} {us:List AV} {fl:Bool} {enc:α→AV} (C:∀x,G=some x→Qx P f us (.ret (nlE fl enc x) []))
  (k:Hl P Ω ((gg P n c).cl ws .nils []) A) (k':∀a t,Hl P Ω ((gg P n c).cl ws (.lst fl ((a::t).map enc)) []) (B a t)) (e:goO P n c=true:=by kernel_rfl) (hb:Qcj P f=true:=by kernel_rfl)
  (hi:(Zs (gg P n c).o (gg P n c).i (gg P n c).st).map (·.1)=some f:=by kernel_rfl) (hu:(gg P n c).us ws=some us:=by kernel_rfl) (hw:((gg P n c).eqs ws).map (·.1)=((gg P n c).eqs ws).map (fun p=>(p.2.i,p.2.n,p.2.xs)):=by kernel_rfl)
  (h0:(Qbl (gg P n c).o (gg P n c).i (gg P n c).st ((gg P n c).ids ws) .nils []).isSome=true:=by kernel_rfl)
  (h1:∀a t,(Qbl (gg P n c).o (gg P n c).i (gg P n c).st ((gg P n c).ids ws) (.lst fl ((a::t).map enc)) []).isSome=true:=by (intro _ _; kernel_rfl)):Hl P Ω c (G.bind fun x=>Qd5 x A B):=fun r h=>Kb e fun hO=>Km hO (by
 generalize gg P n c=c' at *
 have hsn:∃as0,Zs c'.o c'.i c'.st=some (f,as0)∧Qu (Qs c'.st.sto Qm) as0=some (us,c'.ids ws):=by
  cases hc:Zs c'.o c'.i c'.st with
  | none=>rw [hc] at hi; cases hi
  | some y =>
   obtain ⟨g,as0⟩:=y
   rw [hc] at hi
   simp only [Option.map_some,Option.some.injEq] at hi
   subst hi
   refine ⟨as0,rfl,?_⟩
   unfold Cf.us at hu
   unfold Cf.ids; unfold Cf.eqs at hw
   cases hs:c'.sn ws with
   | none=>rw [hs] at hu; cases hu
   | some z =>
    obtain ⟨ys,ids,es,ws'⟩:=z
    rw [hs] at hu hw
    simp only [Option.map_some,Option.some.injEq] at hu
    subst hu
    unfold Cf.sn at hs
    rw [hc] at hs
    exact Qdv (Qbr Qm) _ _ _ _ _ _ hs hw
 obtain ⟨as0,g1,g2⟩:=hsn
 exact Qpc g1 hb g2 C (gE h0) (fun a t=>gE (h1 a t)) h (fun h=>k r h) fun a t h=>k' a t r h)
theorem hoa (n:Nat) {α:Type} {G:Option α} {K:α→Option R} {S:α→St} {s:α→List Sk}
  (rule:∀(Φ:AOut→Prop) (r:R),G.bind K=some r→(∀x,G=some x→K x=some r→RW P (gg P n c).rd (gg P n c).base (gg P n c).o (Qw (gg P n c).d (s x)) ((gg P n c).i+1) (S x) Φ)→RW P (gg P n c).rd (gg P n c).base (gg P n c).o (gg P n c).d (gg P n c).i (gg P n c).st Φ)
  (k:∀x,G=some x→Hl P Ω ((gg P n c).nx (s x) (S x)) (K x)) (e:goO P n c=true:=by kernel_rfl):Hl P Ω c (G.bind K):=fun r h=>Kb e fun hO=>Km hO (rule _ r h fun x q h=>k x q r h)
theorem hob (n:Nat) {α:Type} {G:Option α} {K:α→Option R} {S:α→St} {s:α→List Sk}
  (rule:∀(Φ:AOut→Prop) (r:R),G.bind K=some r→(∀x,K x=some r→RW P (gg P n c).rd (gg P n c).base (gg P n c).o (Qw (gg P n c).d (s x)) ((gg P n c).i+1) (S x) Φ)→RW P (gg P n c).rd (gg P n c).base (gg P n c).o (gg P n c).d (gg P n c).i (gg P n c).st Φ)
  (k:∀x,Hl P Ω ((gg P n c).nx (s x) (S x)) (K x)) (e:goO P n c=true:=by kernel_rfl):Hl P Ω c (G.bind K):=fun r h=>Kb e fun hO=>Km hO (rule _ r h fun x h=>k x r h)
theorem hoq (n:Nat) {C:Prop} {S:St} {s:List Sk} (rule:∀(Φ:AOut→Prop) (r:R),D=some r→(C→A=some r→RW P (gg P n c).rd (gg P n c).base (gg P n c).o (Qw (gg P n c).d s) ((gg P n c).i+1) S Φ)→RW P (gg P n c).rd (gg P n c).base (gg P n c).o (gg P n c).d (gg P n c).i (gg P n c).st Φ)
  (k:C→Hl P Ω ((gg P n c).nx s S) A) (e:goO P n c=true:=by kernel_rfl):Hl P Ω c D:=fun r h=>Kb e fun hO=>Km hO (rule _ r h fun q h=>k q r h)
def RdI {σ ρ:Type} (P:Program) (base:Nat) (I:σ→St) (E:ρ→Xq × St) (o:Qh σ ρ):AOut→Prop:=Qe1 P base I (fun v out=>out=.go (E v).1 (E v).2) o
def Cf.lb (c:Cf):Code:=match c.x with | .loop x=>x | _=>.skip
noncomputable def goL (P:Program) (n:Nat) (c:Cf):Bool:=match go P n c with | some c=>(match c.pos with | .code (.loop _)=>true | _=>false) | none=>false
def Cf.at' (c:Cf) (x:Code) (S:St):Cf:=⟨.code x,[],S,c.rd,c.base⟩
def Cf.ex (c:Cf) (y:Xq × St):Cf:=⟨.out y.1,c.fr,y.2,c.rd,c.base⟩
theorem Qyy {n:Nat} (h:goL P n c=true) {Ψ:AOut→Prop} (g:WP P (gg P n c).rd (gg P n c).base (.loop (gg P n c).lb) (gg P n c).st (Phi P Ψ (gg P n c).fr (gg P n c).rd (gg P n c).base)):Gl P Ψ c:=by
 unfold goL at h
 split at h
 ·rename_i c1 hc
  have hg:gg P n c=c1:=by unfold gg; rw [hc]
  rw [hg] at g
  refine Qga n c c1 hc ?_
  obtain ⟨pos,fr,st,rd,b⟩:=c1
  cases pos with
  | code x=>cases x <;> first | exact g | cases h
  | _=>cases h
 ·cases h
theorem hlp (n:Nat) {σ ρ:Type} {N:Nat} {body:σ→Option (Qh σ ρ)} {K:ρ→Option R} {s0:σ} (I:σ→St) (E:ρ→Xq × St) (w:Wk P (gg P n c).base (gg P n c).st (I s0))
  (b:∀s,Hl P (RdI P (gg P n c).base I E) ((gg P n c).at' (gg P n c).lb (I s)) (body s)) (k:∀x,Hl P Ω ((gg P n c).ex (E x)) (K x)) (e:goL P n c=true:=by kernel_rfl):Hl P Ω c ((Qa N body s0).bind K):=fun r h =>
 Qyy e (Qt1 s0 w h (fun s o ho=>b s o ho) fun x hx out ho=>by subst ho; exact k x r hx)
theorem hsm {α β:Type} {D:α ⊕ β→Option R} {C:α ⊕ β→Cf} (k:∀x,Hl P Ω (C (.inl x)) (D (.inl x))) (k':∀x,Hl P Ω (C (.inr x)) (D (.inr x))):∀x,Hl P Ω (C x) (D x)
 | .inl x=>k x
 | .inr x=>k' x
theorem wkv {base:Nat} {st:St} {α:Type} {x y:α} (S:α→St) (hb:x=y) (hS:st=S x:=by kernel_rfl):Wk P base st (S y):=by rw [hS,hb]; exact Qvh
theorem wz {base:Nat} {st S:St} (keep:List Nat) (h:Qco base (S.slots.map (·.1)) keep st=some S:=by kernel_rfl):Wk P base st S:=wk_gc h
theorem wl {base:Nat} {st:St} (live keep:List Nat) (h:(Qco base live keep st).isSome=true:=by kernel_rfl):Wk P base st (gt0 (Qco base live keep st)):=wk_gc (gE h)
noncomputable def goN (P:Program) (n:Nat) (c:Cf):Bool:=match go P n c with | some ⟨.out .normal,[],_,_,_⟩=>true | _=>false
noncomputable def goE (P:Program) (n:Nat) (c:Cf):Option AOut:=match go P n c with | some ⟨.out e,[],st,_,_⟩=>some (.go e st) | _=>none
theorem hnx (n:Nat) {σ ρ:Type} {b0:Nat} {I:σ→St} {E:ρ→Xq × St} {s':σ} (w:Wk P b0 (gg P n c).st (I s')) (e:goN P n c=true:=by kernel_rfl):Hl P (RdI P b0 I E) c (some (.next s')):=fun r h=>by
 cases h
 unfold goN at e
 split at e
 ·rename_i st rd b hc
  refine Qga n c _ hc ⟨_,rfl,?_⟩
  have:(gg P n c).st=st:=by unfold gg; rw [hc]
  rw [←this]; exact w
 ·cases e
theorem hdn (n:Nat) {σ ρ:Type} {b0:Nat} {I:σ→St} {E:ρ→Xq × St} {v:ρ} (e:goE P n c=some (.go (E v).1 (E v).2):=by kernel_rfl) (hn:(AOut.go (E v).1 (E v).2).normal=false:=by kernel_rfl):Hl P (RdI P b0 I E) c (some (.done v)):=fun r h=>by
 cases h
 unfold goE at e
 split at e
 ·rename_i ex st rd b hc
  cases e
  exact Qga n c _ hc ⟨rfl,hn⟩
 ·cases e
theorem hdx (n:Nat) {σ ρ:Type} {b0:Nat} {I:σ→St} {E:ρ→Xq × St} {v:ρ} (w:Wk P (gg P n c).base (gg P n c).st (E v).2) (f:goF P n c=true:=by kernel_rfl) (e:goE P 1 ((gg P n c).to (E v).2)=some (.go (E v).1 (E v).2):=by kernel_rfl)
  (hn:(AOut.go (E v).1 (E v).2).normal=false:=by kernel_rfl):Hl P (RdI P b0 I E) c (some (.done v)):=hwk n w (hdn 1 e hn) f
theorem hrt (n:Nat) {fn:Func} {hss:List (List LK)} {rv:R→AV} {ro:R→List AObj} {v:R} (e:(goE P n c).bind (Jl P fn hss)=some (rv v,ro v):=by kernel_rfl):Hl P (fun x out=>Jl P fn hss out=some (rv x,ro x)) c (some v):=fun r h=>by
 cases h
 unfold goE at e
 split at e
 ·rename_i ex st rd b hc
  exact Qga n c _ hc e
 ·cases e
def Ct {R:Type} (P:Program) (f:FuncId) (args:List AV) (D:Option R) (rv:R→AV) (ro:R→List AObj):Prop:=∀x,D=some x→Qx P f args (.ret (rv x) (ro x))
def Func.cd (fn:Func):Code:=fn.body.getD .skip
theorem hfn (hss:List (List LK)) {f:FuncId} {fn:Func} {args:List AV} (hf:P.funcs[f]?=some fn) {rv:R→AV} {ro:R→List AObj}
  (k:Hl P (fun x out=>Jl P fn hss out=some (rv x,ro x)) ⟨.code (Func.cd fn),[],st0 fn.ntmps args,none,0⟩ D) (hb:fn.body.isSome=true:=by kernel_rfl) (hn:(fn.name == "runtime.NumGoroutine")=false:=by decide +kernel) (hle:Nat.ble args.length fn.ntmps=true:=by kernel_rfl):Ct P f args D rv ro:=fun x h=>by
 cases hc:fn.body with
 | none=>rw [hc] at hb; cases hb
 | some cd=>have:=k x h; simp only [Func.cd,hc] at this; exact Qxd hss hf hc hn hle this
noncomputable def Cf.as (c:Cf):List AV:=match Zs c.o c.i c.st with | some (_,zs)=>zs | none=>[]
noncomputable def Cf.fid (c:Cf):Option FuncId:=(Zs c.o c.i c.st).map (·.1)
noncomputable def Cf.il (c:Cf) (fn:Func):Cf:=⟨.code (Func.cd fn),.inl fn c.o c.i c.st c.rd c.base::c.fr,⟨Vu 0 c.as,c.st.objs,fn.ntmps⟩,none,c.st.objs.length⟩
theorem Qpm {f:FuncId} (h:c.fid=some f):Zs c.o c.i c.st=some (f,c.as):=by
 unfold Cf.fid at h
 unfold Cf.as
 cases hc:Zs c.o c.i c.st with
 | none=>rw [hc] at h; cases h
 | some y=>rw [hc] at h; simp only [Option.map_some,Option.some.injEq] at h; subst h; rfl
theorem Qor {fn:Func} (h:fn.body.isSome=true):fn.body=some (Func.cd fn):=by
 unfold Func.cd
 cases hc:fn.body with
 | none=>rw [hc] at h; cases h
 | some x=>rfl
theorem hil (n:Nat) {f:FuncId} {fn:Func} (hf:P.funcs[f]?=some fn) (k:Hl P Ω ((gg P n c).il fn) D) (e:goO P n c=true:=by kernel_rfl) (hi:(gg P n c).fid=some f:=by kernel_rfl) (hd:(gg P n c).d=none:=by kernel_rfl)
  (hb:fn.body.isSome=true:=by kernel_rfl) (hn:(fn.name == "runtime.NumGoroutine")=false:=by decide +kernel) (hle:Nat.ble (gg P n c).as.length fn.ntmps=true:=by kernel_rfl):Hl P Ω c D:=fun r h=>Kb e fun hO=>Km hO (by
 rw [hd]; exact Q3u (Qpm hi) hf (Qor hb) hn hle (k r h))
noncomputable def Cf.rg (c:Cf):Option (FuncId × List AV × List AV × List Tmp × Code × Code):=match c.x with
 | .rangeFunc g ps a b=>match evo (lk c.st.slots) g with
  | some (.fn (.func f) first caps)=>some (f,first,caps,ps.toList,a,b)
  | _=>none
 | _=>none
noncomputable def Cf.rS (c:Cf) (fn:Func):Cf:=match c.rg with
 | some (_,first,caps,ps,a,b)=>⟨.code (Func.cd fn),.rng fn c.st c.rd c.base::c.fr,Qmt c.st ps a b first caps fn.ntmps,none,c.st.objs.length+1⟩
 | none=>.bad
noncomputable def Cf.rL (c:Cf):Nat := match c.rg with
 | some (_,first,caps,_)=>(first++[AV.yld c.st.objs.length]++caps).length
 | none=>0
theorem hrg (n:Nat) {f:FuncId} {fn:Func} (hf:P.funcs[f]?=some fn) (k:Hl P Ω ((gg P n c).rS fn) D) (e:goX P n c=true:=by kernel_rfl) (hi:(gg P n c).rg.map (·.1)=some f:=by kernel_rfl)
  (hb:fn.body.isSome=true:=by kernel_rfl) (hn:(fn.name == "runtime.NumGoroutine")=false:=by decide +kernel) (hle:Nat.ble (gg P n c).rL fn.ntmps=true:=by kernel_rfl) (hr:Q0l (gg P n c).rd (gg P n c).st.objs=true:=by kernel_rfl):Hl P Ω c D:=fun r h=>Q4j e fun hX=>Q2z hX (by
 have k:=k r h
 generalize gg P n c=c' at *
 cases hc:c'.rg with
 | none=>rw [hc] at hi; cases hi
 | some y =>
  obtain ⟨g,first,caps,ps,a,b⟩:=y
  rw [hc] at hi
  simp only [Option.map_some,Option.some.injEq] at hi
  subst hi
  unfold Cf.rL at hle
  unfold Cf.rS at k
  rw [hc] at hle k
  unfold Cf.rg at hc
  split at hc
  ·rename_i g' ps' a' b' hx
   split at hc
   ·rename_i he
    cases hc
    rw [hx]
    exact Q1e he hf (Qor hb) hn hle hr k
   ·cases hc
  ·cases hc)
noncomputable def Cf.yi (c:Cf):Option (Nat × Nat × List AV × List (Nat × AV) × List Tmp × Code × Code):=match Qp3 c.o c.i c.st with
 | some (l,us)=>match c.st.objs[l]? with
  | some (.loop nt sl ps a b .ready _)=>some (l,nt,us,sl,ps,a,b)
  | _=>none
 | none=>none
noncomputable def Cf.yS (c:Cf):Cf:=match c.yi with
 | some (l,nt,us,sl,ps,a,b)=>⟨.code a,.yA l nt b c.o c.i c.st c.rd c.base::c.fr,⟨Qm5 sl ps us,c.st.objs,nt⟩,some l,c.st.objs.length⟩
 | none=>.bad
noncomputable def Cf.yb (c:Cf):Bool:=match c.yi with
 | some (l,nt,us,sl,ps,a,b)=>Nat.beq us.length ps.length && ps.all fun t=>Nat.blt t nt
 | none=>false
theorem hyl (n:Nat) (k:Hl P Ω (gg P n c).yS D) (e:goO P n c=true:=by kernel_rfl) (hd:(gg P n c).d=none:=by kernel_rfl) (hy:(gg P n c).yb=true:=by kernel_rfl):Hl P Ω c D:=fun r h=>Kb e fun hO=>Km hO (by
 have k:=k r h
 generalize gg P n c=c' at *
 rw [hd]
 cases hc:c'.yi with
 | none=>unfold Cf.yb at hy; rw [hc] at hy; cases hy
 | some y =>
  obtain ⟨l,nt,us,sl,ps,a,b⟩:=y
  unfold Cf.yb at hy
  unfold Cf.yS at k
  rw [hc] at hy k
  unfold Cf.yi at hc
  split at hc
  ·rename_i hi
   split at hc
   ·rename_i hl
    cases hc
    exact Q5o hi hl hy k
   ·cases hc
  ·cases hc)
noncomputable def Qkm (t:Nat) (ws:List (Option Wt)) (st:St):Option (Option St × List ((Nat × Nat × List AV) × Wt)):=match lk st.slots t with
 | some x=>match snW st.sto Qm x ws with
  | some (y,ids,es,_)=>some (Qn4 t y ids st,es)
  | none=>none
 | none=>none
noncomputable def Qjy (o i:Nat) (ws:List (Option Wt)) (st:St):Option (Option St × List ((Nat × Nat × List AV) × Wt)):=match st.sto o with
 | some (.row _ _ _ _ _ xs)=>match xs[i]? with
  | some x=>match snW st.sto Qm x ws with
   | some (y,ids,es,_)=>if Qdb ids o then none else some (Qjf o i y ids st,es)
   | none=>none
  | none=>none
 | _=>none
noncomputable def sn1 (x:Option (Option St × List ((Nat × Nat × List AV) × Wt))):Option St:=match x with | some (s,_)=>s | none=>none
noncomputable def sn2 (x:Option (Option St × List ((Nat × Nat × List AV) × Wt))):List ((Nat × Nat × List AV) × Wt):=match x with | some (_,e)=>e | none=>[]
theorem wsk {base:Nat} {st S:St} (t:Nat) (ws:List (Option Wt)) (h:sn1 (Qkm t ws st)=some S:=by kernel_rfl) (he:(sn2 (Qkm t ws st)).map (·.1)=(sn2 (Qkm t ws st)).map (fun p=>(p.2.i,p.2.n,p.2.xs)):=by kernel_rfl):Wk P base st S:=by
 cases hs:Qkm t ws st with
 | none=>rw [hs] at h; cases h
 | some z =>
  obtain ⟨s,es⟩:=z
  rw [hs] at h he
  unfold Qkm at hs
  split at hs
  ·rename_i x hx
   split at hs
   ·rename_i y ids es' ws' hsn
    cases hs
    exact Q3c t hx (Qbr Qm _ _ _ _ _ _ hsn he) h
   ·cases hs
  ·cases hs
theorem wsn {base:Nat} {st:St} (t:Nat) (ws:List (Option Wt)) (h:(sn1 (Qkm t ws st)).isSome=true:=by kernel_rfl) (he:(sn2 (Qkm t ws st)).map (·.1)=(sn2 (Qkm t ws st)).map (fun p=>(p.2.i,p.2.n,p.2.xs)):=by kernel_rfl):Wk P base st (gt0 (sn1 (Qkm t ws st))):=wsk t ws (gE h) he
theorem wok {base:Nat} {st S:St} (o i:Nat) (ws:List (Option Wt)) (h:sn1 (Qjy o i ws st)=some S:=by kernel_rfl) (he:(sn2 (Qjy o i ws st)).map (·.1)=(sn2 (Qjy o i ws st)).map (fun p=>(p.2.i,p.2.n,p.2.xs)):=by kernel_rfl):Wk P base st S:=by
 cases hs:Qjy o i ws st with
 | none=>rw [hs] at h; cases h
 | some z =>
  obtain ⟨s,es⟩:=z
  rw [hs] at h he
  unfold Qjy at hs
  split at hs
  ·rename_i ho
   split at hs
   ·rename_i x hx
    split at hs
    ·rename_i y ids es' ws' hsn
     split at hs
     ·cases hs
     ·rename_i hn
      cases hs
      exact Qtm o i ho hx (by simpa using hn) (Qbr Qm _ _ _ _ _ _ hsn he) h
    ·cases hs
   ·cases hs
  ·cases hs
theorem won {base:Nat} {st:St} (o i:Nat) (ws:List (Option Wt)) (h:(sn1 (Qjy o i ws st)).isSome=true:=by kernel_rfl) (he:(sn2 (Qjy o i ws st)).map (·.1)=(sn2 (Qjy o i ws st)).map (fun p=>(p.2.i,p.2.n,p.2.xs)):=by kernel_rfl):Wk P base st (gt0 (sn1 (Qjy o i ws st))):=wok o i ws (gE h) he
noncomputable def Qnk (o i:Nat) (A:AV) (ws:List (Option Wt)) (st:St):Option (Option St × List ((Nat × Nat × List AV) × Wt)):=match snW st.sto Qm A ws with
 | some (y,ids,es,_)=>if Qdb ids o then none else some (Qjf o i y ids st,es)
 | none=>none
theorem wcl {base:Nat} {st:St} (o:Nat) (ws:List (Option Wt)) {α:Type} {enc:α→AV} {L:List α} {n:Int} {a:α} {A:AV} {bx ro nr fl:Bool} {w:Nat} (ha:lkI L n=some a) (ho:st.sto o=some (.row bx ro nr fl w (hole enc L n A)):=by kernel_rfl)
  (h:(sn1 (Qnk o n.toNat A ws st)).isSome=true:=by kernel_rfl) (he:(sn2 (Qnk o n.toNat A ws st)).map (·.1)=(sn2 (Qnk o n.toNat A ws st)).map (fun p=>(p.2.i,p.2.n,p.2.xs)):=by kernel_rfl):Wk P base st (gt0 (sn1 (Qnk o n.toNat A ws st))):=by
 have h:=gE h
 revert h he
 generalize gt0 (sn1 (Qnk o n.toNat A ws st))=S
 cases hs:Qnk o n.toNat A ws st with
 | none=>intro _ h; cases h
 | some z =>
  obtain ⟨s,es⟩:=z
  intro he h
  unfold Qnk at hs
  split at hs
  ·rename_i y ids es' ws' hsn
   split at hs
   ·cases hs
   ·rename_i hn
    cases hs
    exact Q1i o ha ho (by simpa using hn) (Qbr Qm _ _ _ _ _ _ hsn he) h
  ·cases hs
def snP (σ:Sto):List (Nat × AV)→List (Option Wt)→Option (List (Nat × AV) × List Nat × List ((Nat × Nat × List AV) × Wt))
 | [],_=>some ([],[],[])
 | (i,x)::r,ws=>if x.nr then match snP σ r ws with
   | some (ys,b,e)=>some ((i,x)::ys,b,e)
   | none=>none
  else match snW σ Qm x ws with
   | some (y,a,e,ws)=>match snP σ r ws with
    | some (ys,b,e')=>some ((i,y)::ys,a++b,e++e')
    | none=>none
   | none=>none
theorem Quj {σ:Sto}:∀(ps:List (Nat × AV)) (ws:List (Option Wt)) ys b e,snP σ ps ws=some (ys,b,e)→eqW e→Z7 σ ps=some (ys,b)
 | [],ws,ys,b,e,h,he=>by cases h; rfl
 | (i,x)::r,ws,ys,b,e,h,he=>by
  unfold snP at h
  split at h
  ·rename_i hx
   split at h
   ·rename_i ys2 b2 e2 h2
    cases h
    exact Qu3 hx (Quj r _ _ _ _ h2 he)
   ·cases h
  ·rename_i hx
   split at h
   ·rename_i y a e1 ws1 h1
    split at h
    ·rename_i ys2 b2 e2 h2
     cases h
     obtain ⟨g1,g2⟩:=Qkh he
     exact Qu2 (by simpa using hx) (Qbr _ _ _ _ _ _ _ h1 g1) (Quj r _ _ _ _ h2 g2) rfl
    ·cases h
   ·cases h
noncomputable def Cf.bs (P:Program) (c:Cf) (he:List LK) (b:Bool) (ws:List (Option Wt)):Option (St × List (Nat × AObj) × List Nat × List ((Nat × Nat × List AV) × Wt)):=match Qs7 P c.o c.i c.st with
 | some ps=>match snP c.st.sto ps ws with
  | some (parts,ids,e)=>match Q04 P c.o c.i c.st he b parts ids with
   | some (S,es)=>some (S,es,ids,e)
   | none=>none
  | none=>none
 | none=>none
noncomputable def Cf.bS (P:Program) (c:Cf) (he:List LK) (b:Bool) (ws:List (Option Wt)):Cf:=match c.bs P he b ws with
 | some (S,es,ids,_)=>c.nx [(es.map (·.1),ids)] S
 | none=>.bad
noncomputable def Cf.be (P:Program) (c:Cf) (he:List LK) (b:Bool) (ws:List (Option Wt)):List ((Nat × Nat × List AV) × Wt):=match c.bs P he b ws with
 | some (_,_,_,e)=>e
 | none=>[]
theorem hbs (n:Nat) (he:List LK) (b:Bool) (ws:List (Option Wt)) (k:Hl P Ω ((gg P n c).bS P he b ws) D) (e:goO P n c=true:=by kernel_rfl) (h:((gg P n c).bs P he b ws).isSome=true:=by kernel_rfl)
  (hw:((gg P n c).be P he b ws).map (·.1)=((gg P n c).be P he b ws).map (fun p=>(p.2.i,p.2.n,p.2.xs)):=by kernel_rfl):Hl P Ω c D:=fun r hr=>Kb e fun hO=>by
 have k:=k r hr
 revert k h hw
 unfold Cf.bS Cf.be
 generalize gg P n c=c' at *
 cases hs:c'.bs P he b ws with
 | none=>intro h; cases h
 | some z =>
  obtain ⟨S,es,ids,eq⟩:=z
  intro h hw k
  refine Km hO ?_
  unfold Cf.bs at hs
  split at hs
  ·rename_i ps hi
   split at hs
   ·rename_i parts ids' e' hp
    split at hs
    ·rename_i S' es' hS
     cases hs
     exact bsR he b hi (Quj _ _ _ _ _ hp hw) hS k
    ·cases hs
   ·cases hs
  ·cases hs
def Qk5:Code→List Bool→List Fr→Code × List Fr
 | .seq a b,w::ws,fr=>if w then Qk5 b ws fr else Qk5 a ws (.seq b::fr)
 | .block id x,_::ws,fr=>Qk5 x ws (.blk id::fr)
 | .scope x,_::ws,fr=>Qk5 x ws fr
 | .cond _ x y,w::ws,fr=>if w then Qk5 y ws fr else Qk5 x ws fr
 | c,_,fr=>(c,fr)
noncomputable def atW (P:Program) (fn:Func) (way:List Bool) (S:St):Cf:=Qhd P 1000 ⟨.code (Qk5 (Func.cd fn) way []).1,(Qk5 (Func.cd fn) way []).2,S,none,0⟩
theorem hjn (n:Nat) {c':Cf} (h:Hl P Ω c' D) (w:Wk P (gg P n c).base (gg P n c).st c'.st) (f:goF P n c=true:=by kernel_rfl) (e:(gg P n c).to c'.st=c':=by kernel_rfl):Hl P Ω c D:=hwk n w (by rw [e]; exact h) f
def Cf.lc (c:Cf) (S:St):Cf:=⟨.code c.lb,.lp c.lb::c.fr,S,c.rd,c.base⟩
theorem hst (n:Nat) {σ ρ:Type} {N:Nat} {cnd:σ→Bool} {body:σ→Option (Qh σ ρ)} {K:σ ⊕ ρ→Option R} {s0:σ} (I:σ→St) (E:ρ→Xq × St) (w:Wk P (gg P n c).base (gg P n c).st (I s0))
  (b:∀s,Hl P (RdI P (gg P n c).base I E) ((gg P n c).at' (gg P n c).lb (I s)) (body s)) (k1:∀y,Hl P Ω ((gg P n c).lc (I y)) (K (.inl y))) (k2:∀x,Hl P Ω ((gg P n c).ex (E x)) (K (.inr x))) (e:goL P n c=true:=by kernel_rfl):Hl P Ω c ((Qa N (Qbt cnd body) s0).bind K):=fun r h =>
 Qyy e (Qzs s0 w h (fun s o ho=>b s o ho) (fun y hy=>Qhb (k1 y r hy)) fun x hx out ho=>by subst ho; exact k2 x r hx)
def Cf.lw (c:Cf):Code:=match c.pos with | .lw x=>x | _=>.skip
noncomputable def Qwp (P:Program) (n:Nat) (c:Cf):Bool:=match go P n c with | some c=>(match c.pos with | .lw _=>true | _=>false) | none=>false
theorem Q3f {n:Nat} (h:Qwp P n c=true) {Ψ:AOut→Prop} (g:LWP P (gg P n c).rd (gg P n c).base (gg P n c).lw (gg P n c).st (Phi P Ψ (gg P n c).fr (gg P n c).rd (gg P n c).base)):Gl P Ψ c:=by
 unfold Qwp at h
 split at h
 ·rename_i c1 hc
  have hg:gg P n c=c1:=by unfold gg; rw [hc]
  rw [hg] at g
  refine Qga n c c1 hc ?_
  obtain ⟨pos,fr,st,rd,b⟩:=c1
  cases pos with
  | lw x=>exact g
  | _=>cases h
 ·cases h
theorem hlq (n:Nat) {σ ρ:Type} {N:Nat} {body:σ→Option (Qh σ ρ)} {K:ρ→Option R} {s0:σ} (I:σ→St) (E:ρ→Xq × St) (w:Wk P (gg P n c).base (gg P n c).st (I s0))
  (b:∀s,Hl P (RdI P (gg P n c).base I E) ((gg P n c).at' (gg P n c).lw (I s)) (body s)) (k:∀x,Hl P Ω ((gg P n c).ex (E x)) (K x)) (e:Qwp P n c=true:=by kernel_rfl):Hl P Ω c ((Qa N body s0).bind K):=fun r h =>
 Q3f e (Qxs s0 w h (fun s o ho=>b s o ho) fun x hx out ho=>by subst ho; exact k x r hx)
def Qp5 {ρ:Type} (P:Program) (N:Nat) (E:ρ→St) (x:ρ):AOut→Prop
 | .go e s=>(e=.ret∨e=.normal)∧Wk P N s (E x)
 | .pan _=>False
theorem Qvi {σ ρ:Type} {N:Nat} {cd:Code} {I:σ→St} {E:ρ→St} {G:σ→Option ρ} (h:∀s,Hl P (Qp5 P N E) ⟨.code cd,[],I s,none,N⟩ (G s)):∀s x,G s=some x→WP P none N cd (I s) (fun o=>o=.go .ret (E x)∨o=.go .normal (E x)):=fun s x hx=>by
 refine Q3d ((h s x hx:WP P none N cd (I s) (Qp5 P N E x)).mono fun out ho=>?_)
 cases out with
 | pan v=>exact ho.elim
 | go e s1 =>
  obtain ⟨he,hw⟩:=ho
  refine ⟨_,hw,?_⟩
  rcases he with rfl | rfl
  ·exact .inl rfl
  ·exact .inr rfl
noncomputable def goR (P:Program) (n:Nat) (c:Cf):Bool:=match go P n c with | some ⟨.out .ret,[],_,_,_⟩=>true | some ⟨.out .normal,[],_,_,_⟩=>true | _=>false
theorem hre (n:Nat) {ρ:Type} {N:Nat} {E:ρ→St} {v:ρ} (w:Wk P N (gg P n c).st (E v)) (e:goR P n c=true:=by kernel_rfl):Hl P (Qp5 P N E) c (some v):=fun r h=>by
 cases h
 unfold goR at e
 split at e
 ·rename_i st rd b hc
  refine Qga n c _ hc ⟨.inl rfl,?_⟩
  have:(gg P n c).st=st:=by unfold gg; rw [hc]
  rw [←this]; exact w
 ·rename_i st rd b hc
  refine Qga n c _ hc ⟨.inr rfl,?_⟩
  have:(gg P n c).st=st:=by unfold gg; rw [hc]
  rw [←this]; exact w
 ·cases e
noncomputable def Cf.rc (c:Cf) (fn:Func) (N:Nat) (S:St):Cf:=⟨.out .ret,.inl fn c.o c.i c.st c.rd c.base::c.fr,S,none,N⟩
def Cf.rb (fn:Func) (N:Nat) (S:St):Cf:=⟨.code (Func.cd fn),[],S,none,N⟩
theorem hrc (n N:Nat) {σ ρ:Type} {F:(σ→Option ρ)→σ→Option ρ} {K:ρ→Option R} {s0:σ} (I:σ→St) (E:ρ→St) {f:FuncId} {fn:Func} (hf:P.funcs[f]?=some fn)
  (step:∀d,Qe4 P N (Func.cd fn) I E d→∀s,Hl P (Qp5 P N E) (Cf.rb fn N (I s)) (F d s)) (k:∀x,Hl P Ω ((gg P n c).rc fn N (E x)) (K x)) (e:goO P n c=true:=by kernel_rfl) (hi:(gg P n c).fid=some f:=by kernel_rfl) (hd:(gg P n c).d=none:=by kernel_rfl)
  (hb:fn.body.isSome=true:=by kernel_rfl) (hn:(fn.name == "runtime.NumGoroutine")=false:=by decide +kernel) (hle:Nat.ble (gg P n c).as.length fn.ntmps=true:=by kernel_rfl)
  (h0:(⟨Vu 0 (gg P n c).as,(gg P n c).st.objs,fn.ntmps⟩:St)=I s0:=by kernel_rfl) (hN:(gg P n c).st.objs.length=N:=by kernel_rfl):Hl P Ω c ((Ve F fuel s0).bind K):=fun r h=>Kb e fun hO=>Km hO (by
 rw [hd]; exact Q5r s0 (Qpm hi) hf (Qor hb) hn hle h0 hN h (fun d hd'=>Qvi (step d hd')) fun x hx=>k x r hx)
theorem hrh (n N:Nat) {σ ρ:Type} {F:(σ→Option ρ)→σ→Option ρ} {K:ρ→Option R} {s0:σ} (I:σ→St) (E:ρ→St) (eff:ρ→List (Nat × AObj)) (w:List Nat) {f:FuncId} {fn:Func} (hf:P.funcs[f]?=some fn)
  (hA:∀y∈(gg P n c).st.objs.take N,Qan N y) (hA':∀x,∀y∈(E x).objs,Qan N y) (step:∀d,Qe4 P N (Func.cd fn) I E d→∀s,Hl P (Qp5 P N E) (Cf.rb fn N (I s)) (F d s))
  (k:∀x,Hl P Ω ((gg P n c).nx [(w,List.range N)] (gt0 (Qfx P fn (gg P n c).o (gg P n c).i (gg P n c).st (eff x) (E x)))) (K x)) (e:goO P n c=true:=by kernel_rfl) (hi:(gg P n c).fid=some f:=by kernel_rfl)
  (hb:fn.body.isSome=true:=by kernel_rfl) (hn:(fn.name == "runtime.NumGoroutine")=false:=by decide +kernel) (hle:Nat.ble (gg P n c).as.length fn.ntmps=true:=by kernel_rfl)
  (h0:(⟨Vu 0 (gg P n c).as,(gg P n c).st.objs.take N,fn.ntmps⟩:St)=I s0:=by kernel_rfl) (hN:Nat.ble N (gg P n c).st.objs.length=true:=by kernel_rfl) (hbig:Nat.ble (gg P n c).st.objs.length BIG=true:=by kernel_rfl) (hlive:((gg P n c).st.objs.take N).all Qmy=true:=by kernel_rfl)
  (hE:∀x,Nat.beq (E x).objs.length N=true:=by (intro _; kernel_rfl)) (hsl:((gg P n c).as.all fun a=>a.ids.all fun o=>Nat.blt o N)=true:=by kernel_rfl) (heff:∀x,Zz ((gg P n c).st.objs.take N) (eff x)=some (E x).objs:=by (intro _; kernel_rfl))
  (hw:∀x,(eff x).map (·.1)=w:=by (intro _; rfl)) (hwl:(w.all fun o=>Nat.blt o N)=true:=by kernel_rfl) (hS:∀x,(Qfx P fn (gg P n c).o (gg P n c).i (gg P n c).st (eff x) (E x)).isSome=true:=by (intro _; kernel_rfl)):Hl P Ω c ((Ve F fuel s0).bind K):=fun r h=>Kb e fun hO=>Km hO
 (Q4w s0 eff _ w (Qpm hi) hf (Qor hb) hn hle h0 hN hbig hlive hA hE hA' hsl heff hw hwl h (fun x=>gE (hS x)) (fun d hd'=>Qvi (step d hd')) fun x hx=>k x r hx)
theorem hri (n N:Nat) {σ ρ:Type} {F:σ→Option ρ} {K:ρ→Option R} {s0:σ} {I:σ→St} {E:ρ→St} (eff:ρ→List (Nat × AObj)) (w:List Nat) {f:FuncId} {fn:Func} (hf:P.funcs[f]?=some fn)
  (hA:∀y∈(gg P n c).st.objs.take N,Qan N y) (hA':∀x,∀y∈(E x).objs,Qan N y) (IH:Qe4 P N (Func.cd fn) I E F)
  (k:∀x,Hl P Ω ((gg P n c).nx [(w,List.range N)] (gt0 (Qfx P fn (gg P n c).o (gg P n c).i (gg P n c).st (eff x) (E x)))) (K x)) (e:goO P n c=true:=by kernel_rfl) (hi:(gg P n c).fid=some f:=by kernel_rfl)
  (hb:fn.body.isSome=true:=by kernel_rfl) (hn:(fn.name == "runtime.NumGoroutine")=false:=by decide +kernel) (hle:Nat.ble (gg P n c).as.length fn.ntmps=true:=by kernel_rfl)
  (h0:(⟨Vu 0 (gg P n c).as,(gg P n c).st.objs.take N,fn.ntmps⟩:St)=I s0:=by kernel_rfl) (hN:Nat.ble N (gg P n c).st.objs.length=true:=by kernel_rfl) (hbig:Nat.ble (gg P n c).st.objs.length BIG=true:=by kernel_rfl) (hlive:((gg P n c).st.objs.take N).all Qmy=true:=by kernel_rfl)
  (hE:∀x,Nat.beq (E x).objs.length N=true:=by (intro _; kernel_rfl)) (hsl:((gg P n c).as.all fun a=>a.ids.all fun o=>Nat.blt o N)=true:=by kernel_rfl) (heff:∀x,Zz ((gg P n c).st.objs.take N) (eff x)=some (E x).objs:=by (intro _; kernel_rfl))
  (hw:∀x,(eff x).map (·.1)=w:=by (intro _; rfl)) (hwl:(w.all fun o=>Nat.blt o N)=true:=by kernel_rfl) (hS:∀x,(Qfx P fn (gg P n c).o (gg P n c).i (gg P n c).st (eff x) (E x)).isSome=true:=by (intro _; kernel_rfl)):Hl P Ω c ((F s0).bind K):=fun r h=>Kb e fun hO=>Km hO
 (Q4h s0 eff _ w (Qpm hi) hf (Qor hb) hn hle h0 hN hbig hlive hA hE hA' hsl heff hw hwl IH h (fun x=>gE (hS x)) fun x hx=>k x r hx)
end
attribute [irreducible] Hl Gl Phi ctl stp Qhd go gg goO goX goF goL goN goE Cf.o Cf.d Cf.i Cf.isO Cf.x Cf.isX Cf.free Cf.nx Cf.nx2 Cf.to Cf.sn Cf.ids Cf.eqs Cf.us Cf.cl Cf.lb Cf.at' Cf.ex Cf.as Cf.fid Cf.il Cf.rg Cf.rS Cf.rL Cf.yi Cf.yS Cf.yb Cf.bs Cf.bS Cf.be Cf.lc Cf.lw Qwp atW goR Cf.rc Cf.rb Qp5 RdI Func.cd
end Go.Ab
